/- Of: the reading of bytes. -/
import Derived.Test.YtokijkinlcdjeaaRecK
import Derived.Test.YtokijkinlcdjeaaRecP
import Derived.Test.YtokijkinlcdjeaaRecH
namespace Go.Proofs.Ytokijkinlcdjeaa
open Go.RowKit WireM

theorem rAny (c : UInt8) (hc : isLet c) : ∃ i f, Instr.findNow (.int .i32) (.int .i32 (c.toNat : Int)) partsE.toList 0 = some (some (i, .agg #[.func (.func f) #[] #[], .func (.func (f + 1)) #[] #[]])) ∧ (∀ args w, (callFunc (f + 1) args).run Try.prog w = .ok (.enter (f + 1) args) w) ∧
    ∀ (base top g g2 mb : Nat) (d : List UInt8) (q : Int) (R : Rec) (ab sb : Option Addr) (cs : Nat) (w : World) (_ : RS w base top g g2 mb d q R ab sb cs) (_ : d.length ≤ 140737488355328) (_ : q ≤ d.length) (_ : c = 115 → R.subs = []),
    Calls Try.prog (f + 1) #[.pointer (some ⟨g2, 0, none⟩)] w fun e w' => e = .returned (.tuple #[]) ∧ RStep w base top g g2 mb d (rdStep d c (q, R)).1 (rdStep d c (q, R)).2 (Value.slice sb R.subs.length cs).ownBlock w' := by
  rcases hc with rfl | rfl | rfl | rfl | rfl | rfl | rfl | rfl
  · exact ⟨0, 30, by rfl, fun args w => by kernel_rfl, fun base top g g2 mb d q R ab sb cs w h hd hq _ => rXid base top g g2 mb d q R ab sb cs w h hd hq⟩
  · exact ⟨1, 32, by rfl, fun args w => by kernel_rfl, fun base top g g2 mb d q R ab sb cs w h hd hq _ => rNext base top g g2 mb d q R ab sb cs w h hd hq⟩
  · exact ⟨2, 34, by rfl, fun args w => by kernel_rfl, fun base top g g2 mb d q R ab sb cs w h hd hq _ => rRedo base top g g2 mb d q R ab sb cs w h hd hq⟩
  · exact ⟨3, 36, by rfl, fun args w => by kernel_rfl, fun base top g g2 mb d q R ab sb cs w h hd hq _ => rTl base top g g2 mb d q R ab sb cs w h hd hq⟩
  · exact ⟨4, 38, by rfl, fun args w => by kernel_rfl, fun base top g g2 mb d q R ab sb cs w h hd hq _ => rPage base top g g2 mb d q R ab sb cs w h hd hq⟩
  · exact ⟨5, 40, by rfl, fun args w => by kernel_rfl, fun base top g g2 mb d q R ab sb cs w h hd hq _ => rOff base top g g2 mb d q R ab sb cs w h hd hq⟩
  · exact ⟨6, 42, by rfl, fun args w => by kernel_rfl, fun base top g g2 mb d q R ab sb cs w h hd hq _ => rBytes base top g g2 mb d q R ab sb cs w h hd hq⟩
  · exact ⟨7, 44, by rfl, fun args w => by kernel_rfl, fun base top g g2 mb d q R ab sb cs w h hd hq hu => rSubs base top g g2 mb d q R ab sb cs w h hd hq (hu rfl)⟩
theorem rdStep_le (d : List UInt8) (c : UInt8) (s : Int × Rec) (h : s.1 ≤ d.length) : (rdStep d c s).1 ≤ d.length := by
  unfold rdStep
  repeat' split
  all_goals (first | exact stepAt_le d _ _ h | exact h | (exact srun_le d _ _ (stepAt_le d _ _ h)) | skip)
  · show blobStep d s.1 ≤ _
    unfold blobStep
    split
    · exact stepAt_le d _ _ h
    · exact stepAt_le d _ _ (stepAt_le d _ _ h)
theorem rdF_le (d F : List UInt8) (s : Int × Rec) (h : s.1 ≤ d.length) : (rdF d F s).1 ≤ d.length := by
  induction F generalizing s with
  | nil => exact h
  | cons c F ih => exact ih _ (rdStep_le d c s h)
theorem rdStep_subs (d : List UInt8) (c : UInt8) (s : Int × Rec) (h : c ≠ 115) : (rdStep d c s).2.subs = s.2.subs := by
  unfold rdStep
  repeat' split
  all_goals first | rfl | exact absurd ‹_› h
theorem rdF_subs (d F : List UInt8) (s : Int × Rec) (h : ∀ c ∈ F, c ≠ 115) : (rdF d F s).2.subs = s.2.subs := by
  induction F generalizing s with
  | nil => rfl
  | cons c F ih => rw [show rdF d (c :: F) s = rdF d F (rdStep d c s) from rfl, ih _ (fun c hc => h c (List.mem_cons_of_mem _ hc)), rdStep_subs d c s (h c (List.mem_cons_self ..))]
theorem form_s (k : Int) : ∀ j (h : j < (formL k).length), (formL k)[j] = 115 → ∀ c ∈ (formL k).take j, c ≠ 115 := by
  have h : ∀ F ∈ ([[120, 112, 111, 98], [120, 112, 98], [120, 115], [120], [110, 115], [110, 114], [114, 116], []] : List (List UInt8)), ∀ (j : Fin 4) (h : j.1 < F.length), F[j.1] = 115 → ∀ c ∈ F.take j.1, c ≠ 115 := by decide
  intro j hj
  exact h _ (form_in k) ⟨j, by have := form_len k; omega⟩ hj
/-- the state of the reading, in its loop -/
def BR (Wb wr : World) (it : Nat) (F : List UInt8) (base top g g2 mb : Nat) (d : List UInt8) (s0 : Int × Rec) (j : Nat) : Prop :=
  ∃ ab sb cs, wr.heap[it]? = some (.stringIter (str F) j) ∧ RS wr base top g g2 mb d (rdF d (F.take j) s0).1 (rdF d (F.take j) s0).2 ab sb cs ∧ (Value.slice sb (rdF d (F.take j) s0).2.subs.length cs).ownBlock ≠ some it ∧ Below base Wb wr
theorem Get4 (a : Option Addr) (cap : Nat) (l : List UInt8) (w : World) (h : Bs w a l) (hcap : l.length ≤ cap) (h8 : l.length ≤ 4) :
    Calls Try.prog 18 #[.slice a l.length cap] w fun e w' => (∃ x : Int, e = .returned (.tuple #[.int .u64 ((val l : Nat) : Int), .int .i64 x])) ∧ w = w' := by
  by_cases h0 : 0 < l.length
  · refine (Get_any a cap l w h hcap h0 (by omega)).mono ?_
    rintro e w' ⟨rfl, rfl⟩
    exact ⟨⟨0, rfl⟩, rfl⟩
  · have e : l = [] := List.eq_nil_of_length_eq_zero (by omega)
    subst e
    refine (Get_bad a cap 0 w (by decide)).mono ?_
    rintro e w' ⟨rfl, rfl⟩
    exact ⟨⟨2, rfl⟩, rfl⟩

end Go.Proofs.Ytokijkinlcdjeaa

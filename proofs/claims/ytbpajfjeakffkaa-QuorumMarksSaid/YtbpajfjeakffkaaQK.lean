/- New of marks. -/
import Derived.Test.YtbpajfjeakffkaaQJ
namespace Go.Proofs.Ytbpajfjeakffkaa
open Go.RowKit Go.Sort Go.Shelf Go.MapKept
attribute [local go_sem] Oper.semAt_some

/-- a slice of ints -/
structure Is (w : World) (a : Option Addr) (l : List Int) : Prop where
  some : l ≠ [] → ∃ b o, a = some ⟨b, o, none⟩
  cell : ∀ b o, a = .some ⟨b, o, none⟩ → ∀ k (h : k < l.length), w.cell? ⟨b, o + k, none⟩ = .some (.int .i64 l[k])
theorem Is.below {w w' : World} {a : Option Addr} {l : List Int} (h : Is w a l) (hb : RowKit.Below w.heap.size w w') : Is w' a l :=
  ⟨h.some, fun b o e k hk => Below.cellSome hb (h.cell b o e k hk)⟩
theorem Is.ex {w : World} {a : Option Addr} {l : List Int} (h : Is w a l) {k : Nat} (hk : k < l.length) : ∃ b o, a = .some ⟨b, o, none⟩ :=
  h.some (fun e => by rw [e] at hk; cases hk)
theorem take_snocI (l : List Int) (k : Nat) (h : k < l.length) : l.take (k + 1) = l.take k ++ [l[k]] := take_snoc l k h
/-- members that may be -/
def May (l : List Int) : Prop := l.Nodup ∧ ∀ x ∈ l, 1 ≤ x ∧ x ≤ 5
theorem May.take {l : List Int} (h : May l) (k : Nat) : May (l.take k) := ⟨List.Sublist.nodup (List.take_sublist _ _) h.1, fun x hx => h.2 x (List.mem_of_mem_take hx)⟩
theorem may_snoc (l : List Int) (x : Int) : May (l ++ [x]) ↔ May l ∧ x ∉ l ∧ 1 ≤ x ∧ x ≤ 5 := by
  unfold May
  rw [List.nodup_append]
  constructor
  · rintro ⟨⟨h1, _, h2⟩, h3⟩
    exact ⟨⟨h1, fun y hy => h3 y (by simp [hy])⟩, fun hm => h2 x hm x (by simp) rfl, h3 x (by simp)⟩
  · rintro ⟨⟨h1, h2⟩, h3, h4⟩
    refine ⟨⟨h1, by simp, fun a ha c hc e => ?_⟩, fun y hy => ?_⟩
    · simp at hc; subst hc; subst e; exact h3 ha
    · rcases List.mem_append.1 hy with h | h
      · exact h2 y h
      · simp at h; subst h; exact h4
def fresh (l : List Int) : MapD := l.map fun x => (x, ((0, 0) : Pl))
theorem fresh_snoc (l : List Int) (x : Int) : fresh (l ++ [x]) = fresh l ++ [(x, (0, 0))] := by simp [fresh]
theorem fresh_len (l : List Int) : (fresh l).length = l.length := by simp [fresh]
theorem MS.push {w : World} {mp mb : Nat} {D : MapD} (h : MS w mp mb D) {n : Int} (hn : ∀ x ∈ D, x.1 ≠ n) (p : Pl) :
    MS { w with heap := w.heap.setIfInBounds mb (.map ((esOf D).push ⟨.int .i64 n, pv p, D.length⟩) (D.length + 1)) } mp mb (D ++ [(n, p)]) := by
  have hmb : mb < w.heap.size := (Array.getElem?_eq_some_iff.1 h.map).1
  refine ⟨?_, ?_, ?_, h.ne⟩
  · show (w.heap.setIfInBounds mb _)[mp]? = _
    rw [Array.getElem?_setIfInBounds_ne (fun e => h.ne e.symm)]; exact h.cell
  · show (w.heap.setIfInBounds mb _)[mb]? = _
    rw [Array.getElem?_setIfInBounds_self_of_lt hmb, esOf_push, List.length_append]; rfl
  · rw [List.map_append, List.nodup_append]
    refine ⟨h.nd, by simp, fun a ha c hc e => ?_⟩
    simp at hc
    obtain ⟨x, hx, rfl⟩ := List.mem_map.1 ha
    exact hn x hx (e.trans hc)
set_option maxRecDepth 10000 in
set_option maxHeartbeats 6400000 in
theorem new9 (a : Option Addr) (c : Nat) (l : List Int) (w : World) (h : Is w a l) (hl : l.length ≤ 9223372036854775807) :
    Calls Try.prog 9 #[.slice a l.length c] w fun e w' => RowKit.Below w.heap.size w w' ∧
      ((May l ∧ e = .returned (.tuple #[.pointer (some ⟨w.heap.size + 1, 0, none⟩), .int .i64 0]) ∧ MS w' (w.heap.size + 1) w.heap.size (fresh l)) ∨
       (¬ May l ∧ e = .returned (.tuple #[.pointer none, .int .i64 2]))) := by
  have hmm := @run_makeMap Try.prog
  go_enter Try.func9, Try.ntmps9
  go_wp2_with fail
  have hM0 : MS ((w.alloc (.map #[] 0)).alloc (.cells #[.map (some w.heap.size)] 52)) (w.heap.size + 1) w.heap.size [] :=
    ⟨heap_alloc2_new _ _ _, heap_alloc2_old _ _ _, List.nodup_nil, by omega⟩
  have hb0 : RowKit.Below w.heap.size w ((w.alloc (.map #[] 0)).alloc (.cells #[.map (some w.heap.size)] 52)) := ((RowKit.Below.refl _ _).alloc (Nat.le_refl _) _).alloc (by simp) _
  obtain ⟨W, hW⟩ : ∃ W, (w.alloc (.map #[] 0)).alloc (.cells #[.map (some w.heap.size)] 52) = W := ⟨_, rfl⟩
  rw [hW] at hM0 hb0 ⊢
  clear hW
  clear hmm
  go_loopw [14] (fun i wr => ∃ k : Nat, k ≤ l.length ∧ i = .int .i64 k ∧ May (l.take k) ∧ MS wr (w.heap.size + 1) w.heap.size (fresh (l.take k)) ∧ RowKit.Below w.heap.size w wr) (fun i _ => l.length - (intOf i).toNat)
  case atStart => exact ⟨0, by omega, rfl, ⟨List.nodup_nil, fun x hx => by cases hx⟩, hM0, hb0⟩
  case round =>
    clear hM0 hb0
    obtain ⟨k, hk, rfl, hmay, hM, hb⟩ := hrel
    have HM := Lib.hid hM
    have HY := Lib.hid hmay
    have HB := Lib.hid hb
    by_cases hlt : k < l.length
    · have hsn := Lib.hid (take_snocI l k hlt)
      obtain ⟨b1, o1, rfl⟩ := h.ex hlt
      have hc := (h.below hb).cell b1 o1 rfl k hlt
      obtain ⟨x, hx⟩ : ∃ x, l[k] = x := ⟨_, rfl⟩
      rw [hx] at hc hsn
      clear hx
      have hmb : w.heap.size < wr.heap.size := (Array.getElem?_eq_some_iff.1 hM.map).1
      have hmc : wr.cell? ⟨w.heap.size + 1, 0, none⟩ = some (.map (some w.heap.size)) := cell_of_row _ _ 0 _ _ _ hM.cell
      have hno : Hid (x ∉ l.take k → ∀ z ∈ fresh (l.take k), z.1 ≠ x) := by
        refine Lib.hid fun hx z hz e => ?_
        obtain ⟨y, hy, rfl⟩ := List.mem_map.1 hz
        exact hx (e ▸ hy)
      have HBad : Hid ((x ∈ l.take k ∨ x < 1 ∨ 5 < x) → ¬ May l) := by
        refine Lib.hid fun hx hm => ?_
        have := hm.take (k + 1)
        rw [hsn.out, may_snoc] at this
        obtain ⟨_, h1, h2, h3⟩ := this
        rcases hx with h | h | h
        · exact h1 h
        · omega
        · omega
      rcases find_case (fresh (l.take k)) x with ⟨hf, hnx⟩ | ⟨j, hj, hf, hjx⟩
      · have hl := run_lookup_no (P := Try.prog) Try.underlying50 Try.underlying3 hM.map (key := .int .i64 x) rfl hf (zero26 wr)
        have hBA : RowKit.Below wr.heap.size wr (wr.alloc (.cells #[.int .u64 0, .int .u64 0] 26)) := below_alloc' wr
        have hMA := hM.below hBA
        have HMA := Lib.hid hMA
        have HBA := Lib.hid (hb.trans (hBA.mono hb.size))
        have hmc2 : (wr.alloc (.cells #[.int .u64 0, .int .u64 0] 26)).cell? ⟨w.heap.size + 1, 0, none⟩ = some (.map (some w.heap.size)) := cell_of_row _ _ 0 _ _ _ hMA.cell
        have hu := run_insert_new (P := Try.prog) Try.underlying50 Try.underlying3 hMA.map (key := .int .i64 x) (val := .agg #[.int .u64 0, .int .u64 0]) rfl hf
        have HNX := Lib.hid hnx
        clear hM hMA hBA hb hmay hf hnx hno h
        by_cases h1 : x < 1
        · have hd1 : decide (x < 1) = true := decide_eq_true h1
          have HD := Lib.hid (HBad.out (.inr (.inl h1)))
          clear h1
          go_wp2
          refine bodyPost_ret (results_tmp2 rfl _ _ _) rfl ?_
          exact ⟨HBA.out, .inr ⟨HD.out, rfl⟩⟩
        · have hd1 : decide (x < 1) = false := decide_eq_false h1
          by_cases h5 : 5 < x
          · have hd5 : decide (5 < x) = true := decide_eq_true h5
            have HD := Lib.hid (HBad.out (.inr (.inr h5)))
            clear h1 h5
            go_wp2
            refine bodyPost_ret (results_tmp2 rfl _ _ _) rfl ?_
            exact ⟨HBA.out, .inr ⟨HD.out, rfl⟩⟩
          · have hd5 : decide (5 < x) = false := decide_eq_false h5
            have HD : Hid (1 ≤ x ∧ x ≤ 5) := Lib.hid (by omega)
            clear h1 h5
            go_wp2
            go_roundw
            case rel =>
              refine ⟨k + 1, hlt, by push_cast; rfl, ?_, ?_, HBA.out.trans ((off_setBlock _ _ _).1)⟩
              · rw [hsn.out, may_snoc]
                exact ⟨HY.out, fun hx => HNX.out (x, (0, 0)) (List.mem_map.2 ⟨x, hx, rfl⟩) rfl, HD.out⟩
              · rw [hsn.out, fresh_snoc]
                exact HMA.out.push HNX.out (0, 0)
            case measure => simp only [intOf]; omega
      · have hl := run_lookup_ok (P := Try.prog) Try.underlying50 Try.underlying3 hM.map (key := .int .i64 x) rfl hf
        obtain ⟨y, hy⟩ : ∃ y, (fresh (l.take k))[j].2 = y := ⟨_, rfl⟩
        rw [hy] at hl
        have HD : Hid (¬ May l) := Lib.hid (HBad.out (.inl (by
          have := List.getElem_mem hj
          obtain ⟨z, hz, hze⟩ := List.mem_map.1 this
          rw [← hze] at hjx
          rw [← hjx]; exact hz)))
        have HBA := Lib.hid (hb.trans (((RowKit.Below.refl wr.heap.size wr).alloc (Nat.le_refl _) (.cells #[.int .u64 (y.1 : Int), .int .u64 (y.2 : Int)] 26)).mono hb.size))
        clear hM hb hmay hf hno h hy hjx hj
        go_wp2
        refine bodyPost_ret (results_tmp2 rfl _ _ _) rfl ?_
        exact ⟨HBA.out, .inr ⟨HD.out, rfl⟩⟩
    · have hkl : k = l.length := by omega
      subst hkl
      rw [List.take_length] at HM HY
      clear hM hb hmay
      go_wp2
      refine bodyPost_ret (results_tmp2 rfl _ _ _) rfl ?_
      exact ⟨HB.out, .inl ⟨HY.out, rfl, HM.out⟩⟩

end Go.Proofs.Ytbpajfjeakffkaa

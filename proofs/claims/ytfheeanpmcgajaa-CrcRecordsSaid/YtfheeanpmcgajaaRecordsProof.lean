/-
  THE SHELL OF A PROOF OF 'Rows.CrcRecordsSaid' ('understudy/understudylaw02.CrcRecords'), WRITTEN BY PROGRAM (proof-skeleton.mjs, third state) off the guide's own print for that function. Not trusted: Lean checks it.
  YOURS IS THE HOLE MARKED 'HOLE' (it bears 'sorry'). ALL ELSE IS THE GUIDE's OWN WAY (howto/template/XProofs.lean; Derived/Test/ChunkProofs.lean for 'Below') at this function's number and types: leave it.
-/
import Derived.Test.YtfheeanpmcgajaaRecords
import Derived.Deep.Matrix
import Derived.WalkKit
import Derived.ProofKit
import Derived.OpenShut
import Derived.ShutString
import Derived.ChangeOld
import Derived.Below
namespace Go.Proofs.Ytfheeanpmcgajaa.crcRecords
open Go.ChangeShapes Go.Deep Go.WideShapes Go.ChangeAt Go.RowKit
open CrcM
open Go.ChangeMaps (open_string shut_string)
set_option linter.unusedVariables false

theorem own : ownKnob Try.prog.godebug = none := by kernel_rfl
theorem laidOut : laidOutB Try.prog = true := by kernel_rfl

/-- lists of bytes that came in -/
theorem rows_bytes {W : World} {a : Addr} {len cap : Nat} {A : Nat → Option Addr} {L C : Nat → Nat} {Z : Nat → List Int} (hl : len ≤ cap)
    (h : ∀ r, r < cap → W.cell? (a.add r) = some (.slice (A r) (L r) (C r)) ∧ L r ≤ C r ∧ C r ≤ maxLen ∧ (Z r).length = C r ∧ (∀ n ∈ Z r, (Lit.int .u8 n).wf = true) ∧ (A r = none → C r = 0) ∧
        ∀ a', A r = some a' → 0 ≤ a'.block ∧ ∀ c, c < C r → W.cell? (a'.add c) = some (.int .u8 ((Z r).getD c 0))) :
    ∃ LL : List (List UInt8), LL.length = len ∧ BBs W (some a) LL ∧ ∀ b o, some a = some ⟨b, o, none⟩ → ∀ i (hi : i < LL.length), ∀ ai ci, W.cell? ⟨b, o + i, none⟩ = some (.slice ai (LL[i]).length ci) → (LL[i]).length ≤ ci ∧ (ai = none → ci = 0) := by
  have each : ∀ r, r < len → ∃ l : List UInt8, l.length = L r ∧ Bs W (A r) l := fun r hr => by
    obtain ⟨h1, h2, h3, h4, h5, h6, h7⟩ := h r (by omega)
    cases hA : A r with
    | none =>
      have := h6 hA
      exact ⟨[], by simp; omega, ⟨fun h => absurd rfl h, fun b o e => by cases e⟩⟩
    | some x =>
      obtain ⟨l, hl, hb, _⟩ := row_bytes (w := W) (a := some x) (len := L r) (cap := C r) (zs := Z r) (.inr ⟨x, rfl, h2, h3, h4, fun i hi => (h7 x hA).2 i (by omega), h5⟩)
      exact ⟨l, hl, hb⟩
  obtain ⟨f, hf⟩ := choose_lt each
  have hlen : ((List.range len).map f).length = len := by simp
  have hget : ∀ i (hi : i < ((List.range len).map f).length), ((List.range len).map f)[i] = f i := fun i hi => by simp
  refine ⟨(List.range len).map f, hlen, ⟨fun hne => ?_, fun b o e i hi => ?_⟩, fun b o e i hi ai ci hc => ?_⟩
  · have hp : 0 < len := by
      rcases Nat.eq_zero_or_pos len with h0 | h0
      · exact absurd (List.eq_nil_of_length_eq_zero (hlen.trans h0)) hne
      · exact h0
    obtain ⟨b, o, sp⟩ := a
    have := World.cell?_spot (h 0 (by omega)).1
    simp [Addr.add] at this
    subst this
    exact ⟨b, o, rfl⟩
  · cases e
    rw [hget i hi]
    have hi' : i < len := by rw [hlen] at hi; exact hi
    obtain ⟨h1, h2, h3, h4, h5, h6, h7⟩ := h i (by omega)
    rw [Addr.add_mid] at h1
    obtain ⟨g1, g2⟩ := hf i hi'
    exact ⟨A i, C i, by rw [g1]; exact h1, g2, by rw [g1]; unfold maxLen at h3; omega⟩
  · cases e
    have hi' : i < len := by rw [hlen] at hi; exact hi
    obtain ⟨h1, h2, h3, h4, h5, h6, h7⟩ := h i (by omega)
    rw [Addr.add_mid] at h1
    rw [hget i hi] at hc ⊢
    obtain ⟨g1, g2⟩ := hf i hi'
    rw [h1] at hc
    simp only [Option.some.injEq, Value.slice.injEq] at hc
    obtain ⟨rfl, _, rfl⟩ := hc
    exact ⟨by rw [g1]; exact h2, h6⟩
theorem cells30 : Try.prog.cellsOf 22 = 1 := by kernel_rfl
theorem cells5 : Try.prog.cellsOf 5 = 1 := by kernel_rfl
set_option maxRecDepth 100000 in
theorem lifted (os : Os) (started : os.Started) (H : Type) (enc : TypeId × Value → H) :
    ReturnsInHanded {} Try.checked os 4 .any (Rows.crcRecordsSpec.pre6 enc Try.prog Try.f4 Rows.crcRecordsRow.domain false) (Rows.crcRecordsSpec.post enc Try.prog Try.f4 false true false false) := by
  refine returnsInHanded_of_change (C := Try.checked) own started (by kernel_rfl) Try.func4
    (ChangeSpec.witness6 (enc := enc) (C := Try.checked) false ⟨#[], #[.slice none 0 0, .int .u32 0], []⟩ 8 (by kernel_rfl) (by kernel_rfl) (by kernel_rfl) (by kernel_rfl)) ?_
  intro W base args ds gs before hval0 hW hcnd _
  have hval : ∀ (j : Nat) t v, Try.f4.params[j]? = some t → args[j]? = some v → Value.okWide Try.prog W .any base t v := hval0
  have hW' := hW
  obtain ⟨p, q, hA0, hV, rfl, hfz, hnd⟩ := hW
  have hA : DataW.TrodAll enc Try.prog W 0 (fun _ => true) true Try.f4.params.toList args.toList ds p := hA0
  rw [Try.params4] at hA hval
  obtain ⟨v0, vs0, d0, ds0, p0, q0, hargs, rfl, rfl, h0, r0⟩ := trodAll_cons hA
  obtain ⟨v1, vs1, d1, ds1, p1, q1, rfl, rfl, rfl, h1, r1⟩ := trodAll_cons r0
  obtain ⟨rfl, rfl, rfl⟩ := trodAll_nil r1
  obtain rfl : args = #[v0, v1] := by cases args; simp_all
  obtain ⟨rfl, rfl⟩ := trodVars_none hV
  obtain ⟨a0, len0, cap0, rfl⟩ := okWide_slice Try.underlying30 (hval 0 30 v0 rfl rfl)
  have k0 := h0
  have lt0 : ∀ x ∈ p0, x.block < W.heap.size := by obtain ⟨m, hm⟩ := k0; exact DataW.trod_lt m _ _ _ hm
  obtain ⟨a1, rfl, rfl, rfl, w1⟩ := open_int Try.underlying23 (hval 1 23 v1 rfl rfl) h1
  obtain ⟨s, rfl⟩ := word_of w1
  have hwalk : Calls Try.prog 4 #[.slice a0 len0 cap0, .int .u32 (c32 s)] W fun e w' => e = .returned (.bool true) ∧ Below W.heap.size W w' := by
    obtain ⟨fuel, hf⟩ := h0
    rcases open_int_rows Try.underlying30 Try.underlying22 Try.underlying5 cells30 cells5 hf with ⟨hcs, _⟩ | ⟨a, len, cap, A, L, C, Z, hcs, hb, hl, hm, _, hr⟩
    · simp [Value.cells] at hcs
      obtain ⟨rfl, rfl, rfl⟩ := hcs
      exact records_any none 0 [] s W ⟨fun h => absurd rfl h, fun b o e => by cases e⟩ (by simp) (fun b o e => by cases e)
    · simp [Value.cells] at hcs
      obtain ⟨rfl, rfl, rfl⟩ := hcs
      obtain ⟨LL, rfl, hB, hC⟩ := rows_bytes hl hr
      exact records_any _ _ LL s W hB (by unfold maxLen at hm; omega) hC
  clear hA0 hval0
  refine hwalk.mono fun e W' ⟨he, bel⟩ => ?_
  subst he
  exact ⟨_, rfl, _, _, _, [], _, [], hW', trodAll_mk1 (shut_bool Try.underlying4 _), (trodAll_cons_mk (Below.trod laidOut (by kernel_rfl) (of_decide_eq_true (by kernel_rfl)) k0 bel lt0) (trodAll_cons_mk (shut_int Try.underlying23 w1) trodAll_mk0)), rfl, bel.frame _, fun h => by cases h⟩

theorem over : Rows.crcRecordsRow.holds Try.pinned (OpenSpec.ofChange Rows.crcRecordsSpec) :=
  OpenClaim.holds_of_wide 4 Try.f4 rfl rfl rfl rfl rfl rfl rfl ⟨rfl, rfl, rfl, rfl, rfl⟩ rfl rfl rfl rfl rfl (by kernel_rfl) Try.func4 (by kernel_rfl)
    (of_decide_eq_true (by kernel_rfl)) (by unfold Func.isWrapper; first | (rw [if_pos (by decide +kernel)]; kernel_rfl) | (rw [if_neg (by decide +kernel)]; exact ⟨rfl, rfl⟩))
    (fun os started H enc _ => lifted os started H enc)

/-- ████ THE STATEMENT ████ -/
theorem proved : Rows.CrcRecordsSaid := over
#print axioms proved
end Go.Proofs.Ytfheeanpmcgajaa.crcRecords

/- The law RecordMeans returns true, whatever the input; the input reads as it did. No condition. -/
import Derived.Test.YtokijkinlcdjeaaRecQ
import Derived.WalkKit
import Derived.ProofKit
import Derived.OpenShut
import Derived.ShutString
import Derived.ChangeOld
import Derived.Below
namespace Go.Proofs.Ytokijkinlcdjeaa.recordMeans
open Go.ChangeShapes Go.WideShapes Go.ChangeAt Go.RowKit
open Go.ChangeMaps (open_string shut_string)
set_option linter.unusedVariables false

theorem own : ownKnob Try.prog.godebug = none := by kernel_rfl
theorem laidOut : laidOutB Try.prog = true := by kernel_rfl
theorem walk (R0 : Rec) (ab0 sb0 : Option Addr) (cb0 cs0 : Nat) (a1 : Int) (a2 : Int) (a3 : Option Addr) (len3 cap3 : Nat) (S3 : List UInt8) (z4a z4b z4c : Int) (w : World) (w0 : RB w R0 ab0 sb0 cb0 cs0) (w1 : (Lit.int .u64 a1).wf = true) (w2 : (Lit.int .u64 a2).wf = true) (w3 : S3.length = len3 ∧ Bs w a3 S3 ∧ len3 ≤ cap3 ∧ cap3 ≤ 9223372036854775807 ∧ (a3 = none → cap3 = 0)) (_ : True) :
    Calls Try.prog 4 #[rv R0.kind R0.xid R0.page R0.off ab0 R0.bytes.length cb0 sb0 R0.subs.length cs0 R0.next R0.redo R0.tl, .int .u64 a1, .int .u64 a2, .slice a3 len3 cap3, .agg #[.int .i64 z4a, .int .i64 z4b, .int .i64 z4c]] w fun e w' => e = .returned (.bool true) ∧ Below w.heap.size w w' := by
  obtain ⟨rfl, hbs, _, hm, hn⟩ := w3
  have i1 : 0 ≤ a1 ∧ a1 ≤ 18446744073709551615 := by simp [Lit.wf, IntKind.min, IntKind.max, IntKind.signed, IntKind.bits] at w1; omega
  have i2 : 0 ≤ a2 ∧ a2 ≤ 18446744073709551615 := by simp [Lit.wf, IntKind.min, IntKind.max, IntKind.signed, IntKind.bits] at w2; omega
  obtain ⟨n1, rfl⟩ : ∃ n : Nat, a1 = (n : Int) := ⟨a1.toNat, by omega⟩
  obtain ⟨n2, rfl⟩ : ∃ n : Nat, a2 = (n : Int) := ⟨a2.toNat, by omega⟩
  by_cases hout : MuchB R0 = true ∨ 9000 < S3.length ∨ mayB R0 = false ∨ 4611686018427387904 < n1
  · exact means_out R0.kind R0.xid R0.page R0.off ab0 sb0 cb0 cs0 R0.bytes R0.subs R0.next R0.redo R0.tl n1 n2 a3 cap3 S3 z4a z4b z4c w w0 (by omega) hout
  · exact means_in R0.kind R0.xid R0.page R0.off ab0 sb0 cb0 cs0 R0.bytes R0.subs R0.next R0.redo R0.tl n1 n2 (by omega) (by omega) a3 cap3 S3 z4a z4b z4c w w0 hbs (by omega) hn (by have : MuchB R0 ≠ true := fun h => hout (.inl h); simpa using this) (by have : ¬ 9000 < S3.length := fun h => hout (.inr (.inl h)); omega) (by have : mayB R0 ≠ false := fun h => hout (.inr (.inr (.inl h))); simpa using this) (by have : ¬ 4611686018427387904 < n1 := fun h => hout (.inr (.inr (.inr h))); omega)
set_option maxRecDepth 100000 in
theorem lifted (os : Os) (started : os.Started) (H : Type) (enc : TypeId × Value → H) :
    ReturnsInHanded {} Try.checked os 4 .any (Rows.recordMeansSpec.pre6 enc Try.prog Try.f4 Rows.recordMeansRow.domain false) (Rows.recordMeansSpec.post enc Try.prog Try.f4 false true false false) := by
  refine returnsInHanded_of_change (C := Try.checked) own started (by kernel_rfl) Try.func4
    (ChangeSpec.witness6 (enc := enc) (C := Try.checked) false ⟨#[], #[.agg #[.int .i64 0, .int .u64 0, .int .i64 0, .int .i64 0, .slice none 0 0, .slice none 0 0, .int .u64 0, .int .u64 0, .int .u64 0], .int .u64 0, .int .u64 0, .slice none 0 0, .agg #[.int .i64 0, .int .i64 0, .int .i64 0]], []⟩ 8 (by kernel_rfl) (by kernel_rfl) (by kernel_rfl) (by kernel_rfl)) ?_
  intro W base args ds gs before hval0 hW hcnd _
  have hval : ∀ (j : Nat) t v, Try.f4.params[j]? = some t → args[j]? = some v → Value.okWide Try.prog W .any base t v := hval0
  have hW' := hW
  obtain ⟨p, q, hA0, hV, rfl, hfz, hnd⟩ := hW
  have hA : DataW.TrodAll enc Try.prog W 0 (fun _ => true) true Try.f4.params.toList args.toList ds p := hA0
  rw [Try.params4] at hA hval
  obtain ⟨v0, vs0, d0, ds0, p0, q0, hargs, rfl, rfl, h0, r0⟩ := trodAll_cons hA
  obtain ⟨v1, vs1, d1, ds1, p1, q1, rfl, rfl, rfl, h1, r1⟩ := trodAll_cons r0
  obtain ⟨v2, vs2, d2, ds2, p2, q2, rfl, rfl, rfl, h2, r2⟩ := trodAll_cons r1
  obtain ⟨v3, vs3, d3, ds3, p3, q3, rfl, rfl, rfl, h3, r3⟩ := trodAll_cons r2
  obtain ⟨v4, vs4, d4, ds4, p4, q4, rfl, rfl, rfl, h4, r4⟩ := trodAll_cons r3
  obtain ⟨rfl, rfl, rfl⟩ := trodAll_nil r4
  obtain rfl : args = #[v0, v1, v2, v3, v4] := by cases args; simp_all
  obtain ⟨rfl, rfl⟩ := trodVars_none hV
  have k0 := h0
  have lt0 : ∀ x ∈ p0, x.block < W.heap.size := by obtain ⟨m, hm⟩ := k0; exact DataW.trod_lt m _ _ _ hm
  obtain ⟨R0, ab0, sb0, cb0, cs0, rfl, w0⟩ := rec_open (hval 0 27 v0 rfl rfl) h0
  obtain ⟨a1, rfl, rfl, rfl, w1⟩ := open_int Try.underlying23 (hval 1 23 v1 rfl rfl) h1
  obtain ⟨a2, rfl, rfl, rfl, w2⟩ := open_int Try.underlying23 (hval 2 23 v2 rfl rfl) h2
  obtain ⟨a3, len3, cap3, rfl⟩ := okWide_slice Try.underlying24 (hval 3 24 v3 rfl rfl)
  have k3 := h3
  have lt3 : ∀ x ∈ p3, x.block < W.heap.size := by obtain ⟨m, hm⟩ := k3; exact DataW.trod_lt m _ _ _ hm
  obtain ⟨S3, w3⟩ : ∃ S3 : List UInt8, S3.length = len3 ∧ Bs W a3 S3 ∧ len3 ≤ cap3 ∧ cap3 ≤ 9223372036854775807 ∧ (a3 = none → cap3 = 0) := by obtain ⟨fuel, hf⟩ := h3; exact bytes_open hf
  have k4 := h4
  have lt4 : ∀ x ∈ p4, x.block < W.heap.size := by obtain ⟨m, hm⟩ := k4; exact DataW.trod_lt m _ _ _ hm
  obtain ⟨z4a, z4b, z4c, rfl, _, _, _⟩ := arr3_open (hval 4 31 v4 rfl rfl) h4
  have w4 : True := trivial
  clear hA0 hval0
  refine (walk R0 ab0 sb0 cb0 cs0 a1 a2 a3 len3 cap3 S3 z4a z4b z4c W w0 w1 w2 w3 w4).mono fun e W' ⟨he, bel⟩ => ?_
  subst he
  exact ⟨_, rfl, _, _, _, [], _, [], hW', trodAll_mk1 (shut_bool Try.underlying4 _), (trodAll_cons_mk (Below.trod laidOut (by kernel_rfl) (of_decide_eq_true (by kernel_rfl)) k0 bel lt0) (trodAll_cons_mk (shut_int Try.underlying23 w1) (trodAll_cons_mk (shut_int Try.underlying23 w2) (trodAll_cons_mk (Below.trod laidOut (by kernel_rfl) (of_decide_eq_true (by kernel_rfl)) k3 bel lt3) (trodAll_cons_mk (Below.trod laidOut (by kernel_rfl) (of_decide_eq_true (by kernel_rfl)) k4 bel lt4) trodAll_mk0))))), rfl, bel.frame _, fun h => by cases h⟩
theorem over : Rows.recordMeansRow.holds Try.pinned (OpenSpec.ofChange Rows.recordMeansSpec) :=
  OpenClaim.holds_of_wide 4 Try.f4 rfl rfl rfl rfl rfl rfl rfl ⟨rfl, rfl, rfl, rfl, rfl⟩ rfl rfl rfl rfl rfl (by kernel_rfl) Try.func4 (by kernel_rfl)
    (of_decide_eq_true (by kernel_rfl)) (by unfold Func.isWrapper; first | (rw [if_pos (by decide +kernel)]; kernel_rfl) | (rw [if_neg (by decide +kernel)]; exact ⟨rfl, rfl⟩))
    (fun os started H enc _ => lifted os started H enc)
theorem proved : Rows.RecordMeansSaid := over
#print axioms proved
end Go.Proofs.Ytokijkinlcdjeaa.recordMeans

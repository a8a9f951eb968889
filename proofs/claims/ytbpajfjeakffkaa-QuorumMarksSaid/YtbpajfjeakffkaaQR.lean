/- Places, flags, numbers that come in, opened. -/
import Derived.Test.YtbpajfjeakffkaaQP
import Derived.Deep.Slices
import Derived.Deep.SlicePairs
import Derived.ProofKit
import Derived.OpenShut
import Derived.ChangeOld
import Derived.Below
namespace Go.Proofs.Ytbpajfjeakffkaa
open Go.ChangeShapes Go.WideShapes Go.ChangeAt Go.RowKit

theorem list_of {α : Type} (n : Nat) (R : Nat → α → Prop) (h : ∀ i, i < n → ∃ x, R i x) : ∃ l : List α, l.length = n ∧ ∀ i (hi : i < l.length), R i l[i] := by
  induction n with
  | zero => exact ⟨[], rfl, fun i hi => by simp at hi⟩
  | succ n ih =>
    obtain ⟨l, hl, hr⟩ := ih (fun i hi => h i (by omega))
    obtain ⟨x, hx⟩ := h n (by omega)
    refine ⟨l ++ [x], by simp [hl], fun i hi => ?_⟩
    by_cases hin : i < l.length
    · rw [List.getElem_append_left hin]; exact hr i hin
    · have : i = l.length := by simp at hi; omega
      subst this
      rw [List.getElem_append_right (Nat.le_refl _)]
      rw [← hl] at hx
      simpa using hx
variable {H : Type} {enc : TypeId × Value → H} {w : World} {base : Nat} {held : Bool}
theorem open_u64 {fuel : Nat} {t : TypeId} {v : Value} {x : DataW H × List MemPlace} (ht : Try.prog.underlying t = some (.int .u64)) (hf : DataW.trod enc Try.prog w base (fun _ => true) held fuel t [v] = some x) : ∃ n : Nat, v = .int .u64 n := by
  obtain ⟨z, e, _, wf⟩ := DataW.trod_int (x := x) ht hf
  have hz : 0 ≤ z ∧ z ≤ 18446744073709551615 := by
    simp [Lit.wf, IntKind.min, IntKind.max, IntKind.signed, IntKind.bits] at wf; omega
  refine ⟨z.toNat, ?_⟩
  have hzz : ((z.toNat : Nat) : Int) = z := by omega
  have E : v = .int .u64 z := by simpa using e
  rw [hzz]; exact E
theorem open_i64 {fuel : Nat} {t : TypeId} {v : Value} {x : DataW H × List MemPlace} (ht : Try.prog.underlying t = some (.int .i64)) (hf : DataW.trod enc Try.prog w base (fun _ => true) held fuel t [v] = some x) : ∃ n : Int, v = .int .i64 n ∧ -9223372036854775808 ≤ n ∧ n ≤ 9223372036854775807 := by
  obtain ⟨z, e, _, wf⟩ := DataW.trod_int (x := x) ht hf
  have hz : -9223372036854775808 ≤ z ∧ z ≤ 9223372036854775807 := by
    simp [Lit.wf, IntKind.min, IntKind.max, IntKind.signed, IntKind.bits] at wf; omega
  exact ⟨z, by simpa using e, hz⟩
set_option maxRecDepth 100000 in
theorem place_open {r : Reach} {b0 : Nat} {v : Value} {d : DataW H} {p : List MemPlace} (hv : Value.okWide Try.prog w r b0 26 v) (h : DataW.Trod enc Try.prog w base (fun _ => true) held 26 v d p) : ∃ x : Pl, v = pv x := by
  obtain ⟨cs, rfl, hsz⟩ := okWide_struct Try.underlying26 hv
  obtain ⟨l⟩ := cs
  have hC : Try.prog.cellsOf 26 = 2 := by kernel_rfl
  match l, hsz.trans hC with
  | [c0, c1], _ =>
    obtain ⟨fuel, hf⟩ := h
    obtain ⟨xs, n, _, hx, _, hlen, hg⟩ := DataW.trod_struct Try.underlying26 hf
    have C24 : Try.prog.cellsOf 24 = 1 := by kernel_rfl
    match xs, hlen with
    | [y0, y1], _ =>
      have f0 : DataW.trod enc Try.prog w base (fun _ => true) held n 24 (([c0, c1].drop 0).take (Try.prog.cellsOf 24)) = [y0, y1][0]? := hg 0 _ rfl
      have f1 : DataW.trod enc Try.prog w base (fun _ => true) held n 24 (([c0, c1].drop 1).take (Try.prog.cellsOf 24)) = [y0, y1][1]? := hg 1 _ rfl
      rw [C24] at f0 f1
      obtain ⟨z0, e0⟩ := open_u64 Try.underlying24 (v := c0) (x := y0) f0
      obtain ⟨z1, e1⟩ := open_u64 Try.underlying24 (v := c1) (x := y1) f1
      subst e0 e1
      exact ⟨(z0, z1), rfl⟩
set_option maxRecDepth 100000 in
theorem places_open {r : Reach} {b0 : Nat} {v : Value} {d : DataW H} {p : List MemPlace} (hv : Value.okWide Try.prog w r b0 53 v) (h : DataW.Trod enc Try.prog w base (fun _ => true) held 53 v d p) :
    ∃ (l : List Pl) (a : Option Addr) (c : Nat), v = .slice a l.length c ∧ Ps w a l ∧ l.length ≤ 9223372036854775807 ∧ (a = none → c = 0) := by
  obtain ⟨a, len, cap, rfl⟩ := okWide_slice Try.underlying53 hv
  obtain ⟨fuel, hf⟩ := h
  rcases Deep.open_slice_pairs Try.underlying53 Try.underlying26 (by kernel_rfl) (by kernel_rfl) (by kernel_rfl) (by kernel_rfl) (by kernel_rfl) hf with ⟨hcs, _⟩ | ⟨y, l, c, m, n, V0, V1, D0, D1, P0, P1, hcs, _, hl, hm, hmm, _, hall⟩
  · simp [Value.cells] at hcs
    obtain ⟨rfl, rfl, rfl⟩ := hcs
    exact ⟨[], none, 0, rfl, Ps.nil w, by simp, fun _ => rfl⟩
  · simp [Value.cells] at hcs
    obtain ⟨rfl, rfl, rfl⟩ := hcs
    rw [if_pos rfl] at hmm
    subst hmm
    obtain ⟨L, hL, hR⟩ := list_of len (fun i (x : Pl) => w.cell? (y.add (i * 2)) = some (.int .u64 (x.1 : Int)) ∧ w.cell? (y.add (i * 2 + 1)) = some (.int .u64 (x.2 : Int))) fun i hi => by
      obtain ⟨h1, h2, h3, h4⟩ := hall i (by omega)
      obtain ⟨z0, e0⟩ := open_u64 Try.underlying24 h3
      obtain ⟨z1, e1⟩ := open_u64 Try.underlying24 h4
      exact ⟨(z0, z1), by rw [h1, e0], by rw [h2, e1]⟩
    subst hL
    refine ⟨L, some y, m, rfl, ⟨fun hne => ?_, fun b o e i hi => ?_⟩, by unfold maxLen at hm; omega, fun e => by cases e⟩
    · have h0 : 0 < L.length := List.length_pos_iff.2 hne
      have hs := World.cell?_spot (hR 0 h0).1
      obtain ⟨b, o, s⟩ := y
      simp [Addr.add] at hs
      subst hs
      exact ⟨b, o, rfl⟩
    · cases e
      obtain ⟨h1, h2⟩ := hR i hi
      rw [Addr.add_mid] at h1 h2
      rw [← Nat.add_assoc] at h2
      exact ⟨h1, h2⟩
set_option maxRecDepth 100000 in
theorem flags_open {r : Reach} {b0 : Nat} {v : Value} {d : DataW H} {p : List MemPlace} (hv : Value.okWide Try.prog w r b0 60 v) (h : DataW.Trod enc Try.prog w base (fun _ => true) held 60 v d p) :
    ∃ (l : List Bool) (a : Option Addr) (c : Nat), v = .slice a l.length c ∧ Fs w a l ∧ l.length ≤ 9223372036854775807 := by
  obtain ⟨a, len, cap, rfl⟩ := okWide_slice Try.underlying60 hv
  obtain ⟨fuel, hf⟩ := h
  have hC : Try.prog.cellsOf 4 = 1 := by kernel_rfl
  rcases Deep.open_slice Try.underlying60 hf with ⟨hcs, _⟩ | ⟨y, l, c, m, n, D, Pl', hcs, _, hl, hm, hmm, _, hall⟩
  · simp [Value.cells] at hcs
    obtain ⟨rfl, rfl, rfl⟩ := hcs
    exact ⟨[], none, 0, rfl, ⟨fun h => absurd rfl h, fun b o e => by cases e⟩, by simp⟩
  · simp [Value.cells] at hcs
    obtain ⟨rfl, rfl, rfl⟩ := hcs
    rw [if_pos rfl] at hmm
    subst hmm
    obtain ⟨L, hL, hR⟩ := list_of len (fun i (x : Bool) => w.cell? (y.add i) = some (.bool x)) fun i hi => by
      obtain ⟨cs', h1, h2⟩ := hall i (by omega)
      rw [hC, Nat.mul_one] at h1
      obtain ⟨_, hlen, hcell⟩ := World.cells?_some h1
      obtain ⟨x, rfl, _⟩ := DataW.trod_bool Try.underlying4 h2
      have := hcell 0 (by omega)
      exact ⟨x, by simpa [Addr.add] using this⟩
    subst hL
    refine ⟨L, some y, m, rfl, ⟨fun hne => ?_, fun b o e i hi => ?_⟩, by unfold maxLen at hm; omega⟩
    · have h0 : 0 < L.length := List.length_pos_iff.2 hne
      have hs := World.cell?_spot (hR 0 h0)
      obtain ⟨b, o, s⟩ := y
      simp [Addr.add] at hs
      subst hs
      exact ⟨b, o, rfl⟩
    · cases e
      have h1 := hR i hi
      rw [Addr.add_mid] at h1
      exact h1
theorem int_of {a : Int} (h : (Lit.int .i64 a).wf = true) : -9223372036854775808 ≤ a ∧ a ≤ 9223372036854775807 := by
  simp [Lit.wf, IntKind.min, IntKind.max, IntKind.signed, IntKind.bits] at h; omega

end Go.Proofs.Ytbpajfjeakffkaa

/- A slice of fields that comes in, opened. -/
import Derived.Test.YtcfcdnoebgdfeaaWKeeps
import Derived.Test.YtcfcdnoebgdfeaaOpen
namespace Go.Proofs.Ytcfcdnoebgdfeaa
open Go.ChangeShapes Go.WideShapes Go.ChangeAt Go.RowKit WireM
variable {H : Type} {enc : TypeId × Value → H} {w : World} {base : Nat} {held : Bool}
theorem bytes_open1 {fuel : Nat} {v : Value} {x : DataW H × List MemPlace} (hf : DataW.trod enc Try.prog w base (fun _ => true) held fuel 23 [v] = some x) :
    ∃ (l : List UInt8) (a : Option Addr) (c : Nat), v = .slice a l.length c ∧ Bs w a l ∧ l.length ≤ 9223372036854775807 ∧ (a = none → c = 0) := by
  rcases open_ints Try.underlying23 Try.underlying5 (by kernel_rfl) hf with ⟨hcs, _⟩ | ⟨y, l, c, zs, hcs, _, hl, hm, hz, _, hcell, hwz⟩
  · simp at hcs
    exact ⟨[], none, 0, hcs, ⟨fun h => absurd rfl h, fun b o e => by cases e⟩, by simp, fun _ => rfl⟩
  · simp at hcs
    obtain ⟨m, hm1, hm2, hm3, hm4, hm5⟩ := row_bytes (w := w) (a := some y) (len := l) (cap := c) (zs := zs) (.inr ⟨_, rfl, hl, hm, by simpa using hz, hcell, hwz⟩)
    exact ⟨m, some y, c, by rw [hm1]; exact hcs, hm2, by omega, fun e => by cases e⟩
theorem fields_open {fuel : Nat} {a : Option Addr} {len cap : Nat} {x : DataW H × List MemPlace} (hf : DataW.trod enc Try.prog w base (fun _ => true) held fuel 53 (Value.slice a len cap).cells.toList = some x) :
    ∃ F : List Fld, F.length = len ∧ FieldsIn w a F ∧ len ≤ 9223372036854775807 := by
  rcases Go.Deep.open_slice Try.underlying53 hf with ⟨hcs, _⟩ | ⟨y, l, c, m, n, D, Pl, hcs, _, hl, hm, hmm, _, hel⟩
  · simp [Value.cells] at hcs
    obtain ⟨rfl, rfl, rfl⟩ := hcs
    exact ⟨[], rfl, ⟨fun h => absurd rfl h, fun b o e => by (cases e), fun i h => by simp at h⟩, by omega⟩
  · simp [Value.cells] at hcs
    obtain ⟨rfl, rfl, rfl⟩ := hcs
    have hC : Try.prog.cellsOf 55 = 3 := by kernel_rfl
    have hC22 : Try.prog.cellsOf 22 = 1 := by kernel_rfl
    have hC3 : Try.prog.cellsOf 3 = 1 := by kernel_rfl
    have hC23 : Try.prog.cellsOf 23 = 1 := by kernel_rfl
    rw [hC] at hel
    have each : ∀ i, i < len → ∃ f : Fld, w.cell? (y.add (i * 3)) = some (.int .u64 (f.n : Int)) ∧ w.cell? (y.add (i * 3 + 1)) = some (.int .i64 f.size) ∧
        (∃ ai ci, w.cell? (y.add (i * 3 + 2)) = some (.slice ai f.b.length ci) ∧ Bs w ai f.b ∧ f.b.length ≤ 9223372036854775807 ∧ (ai = none → ci = 0)) ∧ f.n < 18446744073709551616 := fun i hi => by
      obtain ⟨cs, hc, ht⟩ := hel i (by rw [hmm]; simp; omega)
      obtain ⟨_, hlen, hat⟩ := World.cells?_some hc
      obtain ⟨ys, n', _, _, _, hyl, hfs⟩ := DataW.trod_struct Try.underlying55 ht
      match cs, hlen with
      | [v0, v1, v2], _ =>
        match ys, hyl with
        | [y0, y1, y2], _ =>
          have f0 : DataW.trod enc Try.prog w base (fun _ => true) held n' 22 (([v0, v1, v2].drop 0).take (Try.prog.cellsOf 22)) = [y0, y1, y2][0]? := hfs 0 _ rfl
          have f1 : DataW.trod enc Try.prog w base (fun _ => true) held n' 3 (([v0, v1, v2].drop 1).take (Try.prog.cellsOf 3)) = [y0, y1, y2][1]? := hfs 1 _ rfl
          have f2 : DataW.trod enc Try.prog w base (fun _ => true) held n' 23 (([v0, v1, v2].drop 2).take (Try.prog.cellsOf 23)) = [y0, y1, y2][2]? := hfs 2 _ rfl
          rw [hC22] at f0
          rw [hC3] at f1
          rw [hC23] at f2
          obtain ⟨z0, e0, _, wf0⟩ := DataW.trod_int (x := y0) Try.underlying22 f0
          obtain ⟨z1, e1, _⟩ := DataW.trod_int (x := y1) Try.underlying3 f1
          obtain ⟨bl, ai, ci, e2, hB, hbl, hai⟩ := bytes_open1 (v := v2) (x := y2) f2
          have hz : 0 ≤ z0 ∧ z0 ≤ 18446744073709551615 := by
            simp [Lit.wf, IntKind.min, IntKind.max, IntKind.signed, IntKind.bits] at wf0; omega
          have c0 := hat 0 (by omega)
          have c1 := hat 1 (by omega)
          have c2 := hat 2 (by omega)
          have E0 : v0 = .int .u64 z0 := by simpa using e0
          have E1 : v1 = .int .i64 z1 := by simpa using e1
          clear e0 e1; subst E0; subst E1; subst e2
          rw [Go.Deep.add_add] at c0 c1 c2
          refine ⟨⟨z0.toNat, z1, bl⟩, ?_, c1, ⟨ai, ci, c2, hB, hbl, hai⟩, by show z0.toNat < _; omega⟩
          have hzz : ((z0.toNat : Nat) : Int) = z0 := by omega
          show _ = some (Value.int .u64 ((z0.toNat : Nat) : Int))
          rw [hzz]; exact c0
    haveI : Inhabited Fld := ⟨⟨0, 0, []⟩⟩
    obtain ⟨f, hf'⟩ := Go.Deep.choose_lt each
    refine ⟨(List.range len).map f, by simp, ⟨fun hne => ?_, fun b o e i hi => ?_, fun i hi => ?_⟩, by unfold maxLen at hm; omega⟩
    · have h0 : 0 < len := by
        rcases Nat.eq_zero_or_pos len with h0 | h0
        · subst h0; simp at hne
        · exact h0
      have := World.cell?_spot (hf' 0 h0).1
      obtain ⟨b, o, s⟩ := y
      simp [Addr.add] at this
      subst this
      exact ⟨b, o, rfl⟩
    · simp at hi
      cases e
      obtain ⟨c0, c1, ⟨ai, ci, c2, hr⟩, _⟩ := hf' i hi
      rw [Addr.add_mid] at c0 c1 c2
      simp only [List.getElem_map, List.getElem_range]
      exact ⟨c0, c1, ai, ci, c2, hr⟩
    · simp at hi
      simp only [List.getElem_map, List.getElem_range]
      exact (hf' i hi).2.2.2
end Go.Proofs.Ytcfcdnoebgdfeaa

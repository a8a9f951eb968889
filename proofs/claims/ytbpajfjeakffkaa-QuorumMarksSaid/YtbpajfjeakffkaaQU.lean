/- Numbers and tellings that come in, opened. -/
import Derived.Test.YtbpajfjeakffkaaQT
import Derived.Test.YtbpajfjeakffkaaQR
namespace Go.Proofs.Ytbpajfjeakffkaa
open Go.ChangeShapes Go.WideShapes Go.ChangeAt Go.RowKit

variable {H : Type} {enc : TypeId × Value → H} {w : World} {base : Nat} {held : Bool}
set_option maxRecDepth 100000 in
theorem ints_open {r : Reach} {b0 : Nat} {v : Value} {d : DataW H} {p : List MemPlace} (hv : Value.okWide Try.prog w r b0 22 v) (h : DataW.Trod enc Try.prog w base (fun _ => true) held 22 v d p) :
    ∃ (l : List Int) (a : Option Addr) (c : Nat), v = .slice a l.length c ∧ Is w a l ∧ l.length ≤ 9223372036854775807 := by
  obtain ⟨a, len, cap, rfl⟩ := okWide_slice Try.underlying22 hv
  obtain ⟨fuel, hf⟩ := h
  have hC : Try.prog.cellsOf 3 = 1 := by kernel_rfl
  rcases Deep.open_slice Try.underlying22 hf with ⟨hcs, _⟩ | ⟨y, l, c, m, n, D, Pl', hcs, _, hl, hm, hmm, _, hall⟩
  · simp [Value.cells] at hcs
    obtain ⟨rfl, rfl, rfl⟩ := hcs
    exact ⟨[], none, 0, rfl, ⟨fun h => absurd rfl h, fun b o e => by cases e⟩, by simp⟩
  · simp [Value.cells] at hcs
    obtain ⟨rfl, rfl, rfl⟩ := hcs
    rw [if_pos rfl] at hmm
    subst hmm
    obtain ⟨L, hL, hR⟩ := list_of len (fun i (x : Int) => w.cell? (y.add i) = some (.int .i64 x)) fun i hi => by
      obtain ⟨cs', h1, h2⟩ := hall i (by omega)
      rw [hC, Nat.mul_one] at h1
      obtain ⟨_, hlen, hcell⟩ := World.cells?_some h1
      obtain ⟨x, rfl, _⟩ := DataW.trod_int Try.underlying3 h2
      have := hcell 0 (by omega)
      exact ⟨x, by simpa [Addr.add] using this⟩
    subst hL
    refine ⟨L, some y, m, rfl, ⟨fun hne => ?_, fun b o e i hi => ?_⟩, by unfold maxLen at hm; omega⟩
    · have h0 : 0 < L.length := List.length_pos_iff.2 hne
      have hs := World.cell?_spot (hR 0 h0)
      obtain ⟨b, o, s⟩ := y
      simp [Addr.add] at hs
      subst hs
      exact ⟨b, o, rfl⟩
    · cases e
      have h1 := hR i hi
      rw [Addr.add_mid] at h1
      exact h1
set_option maxRecDepth 100000 in
theorem tells_open {r : Reach} {b0 : Nat} {v : Value} {d : DataW H} {p : List MemPlace} (hv : Value.okWide Try.prog w r b0 23 v) (h : DataW.Trod enc Try.prog w base (fun _ => true) held 23 v d p) :
    ∃ (l : List (Int × Pl)) (a : Option Addr) (c : Nat), v = .slice a l.length c ∧ Ts w a l ∧ l.length ≤ 9223372036854775807 := by
  obtain ⟨a, len, cap, rfl⟩ := okWide_slice Try.underlying23 hv
  obtain ⟨fuel, hf⟩ := h
  have hC : Try.prog.cellsOf 41 = 3 := by kernel_rfl
  have C26 : Try.prog.cellsOf 26 = 2 := by kernel_rfl
  have C24 : Try.prog.cellsOf 24 = 1 := by kernel_rfl
  have C3 : Try.prog.cellsOf 3 = 1 := by kernel_rfl
  rcases Deep.open_slice Try.underlying23 hf with ⟨hcs, _⟩ | ⟨y, l, c, m, n, D, Pl', hcs, _, hl, hm, hmm, _, hall⟩
  · simp [Value.cells] at hcs
    obtain ⟨rfl, rfl, rfl⟩ := hcs
    exact ⟨[], none, 0, rfl, ⟨fun h => absurd rfl h, fun b o e => by cases e⟩, by simp⟩
  · simp [Value.cells] at hcs
    obtain ⟨rfl, rfl, rfl⟩ := hcs
    rw [if_pos rfl] at hmm
    subst hmm
    obtain ⟨L, hL, hR⟩ := list_of len (fun i (x : Int × Pl) => w.cell? (y.add (i * 3)) = some (.int .i64 x.1) ∧ w.cell? (y.add (i * 3 + 1)) = some (.int .u64 (x.2.1 : Int)) ∧ w.cell? (y.add (i * 3 + 1 + 1)) = some (.int .u64 (x.2.2 : Int))) fun i hi => by
      obtain ⟨cs', h1, h2⟩ := hall i (by omega)
      rw [hC] at h1
      obtain ⟨_, hlen, hcell⟩ := World.cells?_some h1
      match cs', hlen with
      | [c0, c1, c2], _ =>
        obtain ⟨xs, n', _, _, _, hxl, hg⟩ := DataW.trod_struct Try.underlying41 h2
        match xs, hxl with
        | [y0, y1], _ =>
          have f0 : DataW.trod enc Try.prog w base (fun _ => true) held n' 3 (([c0, c1, c2].drop 0).take (Try.prog.cellsOf 3)) = [y0, y1][0]? := hg 0 _ rfl
          have f1 : DataW.trod enc Try.prog w base (fun _ => true) held n' 26 (([c0, c1, c2].drop 1).take (Try.prog.cellsOf 26)) = [y0, y1][1]? := hg 1 _ rfl
          rw [C3] at f0
          rw [C26] at f1
          obtain ⟨z0, e0, _⟩ := open_i64 Try.underlying3 (v := c0) (x := y0) f0
          obtain ⟨xs2, n2, _, _, _, hxl2, hg2⟩ := DataW.trod_struct (cs := [c1, c2]) (x := y1) Try.underlying26 f1
          match xs2, hxl2 with
          | [u0, u1], _ =>
            have g0 : DataW.trod enc Try.prog w base (fun _ => true) held n2 24 (([c1, c2].drop 0).take (Try.prog.cellsOf 24)) = [u0, u1][0]? := hg2 0 _ rfl
            have g1 : DataW.trod enc Try.prog w base (fun _ => true) held n2 24 (([c1, c2].drop 1).take (Try.prog.cellsOf 24)) = [u0, u1][1]? := hg2 1 _ rfl
            rw [C24] at g0 g1
            obtain ⟨z1, e1⟩ := open_u64 Try.underlying24 (v := c1) (x := u0) g0
            obtain ⟨z2, e2⟩ := open_u64 Try.underlying24 (v := c2) (x := u1) g1
            subst e0 e1 e2
            have k0 := hcell 0 (by simp)
            have k1 := hcell 1 (by simp)
            have k2 := hcell 2 (by simp)
            rw [Deep.add_add] at k0 k1 k2
            exact ⟨(z0, (z1, z2)), by simpa using k0, by simpa using k1, by simpa using k2⟩
    subst hL
    refine ⟨L, some y, m, rfl, ⟨fun hne => ?_, fun b o e i hi => ?_⟩, by unfold maxLen at hm; omega⟩
    · have h0 : 0 < L.length := List.length_pos_iff.2 hne
      have hs := World.cell?_spot (hR 0 h0).1
      obtain ⟨b, o, s⟩ := y
      simp [Addr.add] at hs
      subst hs
      exact ⟨b, o, rfl⟩
    · cases e
      obtain ⟨h1, h2, h3⟩ := hR i hi
      rw [Addr.add_mid] at h1 h2 h3
      refine ⟨h1, ?_, ?_⟩
      · rw [Nat.add_assoc]; exact h2
      · rw [Nat.add_assoc, Nat.add_assoc]; exact h3

end Go.Proofs.Ytbpajfjeakffkaa

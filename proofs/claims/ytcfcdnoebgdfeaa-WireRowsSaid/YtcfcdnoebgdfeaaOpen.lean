/- Slices that come in, opened. -/
import Derived.Test.YtcfcdnoebgdfeaaWalks2
import Derived.WalkKit
import Derived.ProofKit
import Derived.OpenShut
import Derived.ShutString
import Derived.ChangeOld
import Derived.Below
import Derived.Deep.SlicePairs
namespace Go.Proofs.Ytcfcdnoebgdfeaa
open Go.ChangeShapes Go.WideShapes Go.ChangeAt Go.RowKit WireM
variable {H : Type} {enc : TypeId × Value → H} {w : World} {base : Nat} {spare : Nat → Bool} {held : Bool}
theorem bytes_open {fuel : Nat} {a : Option Addr} {len cap : Nat} {x : DataW H × List MemPlace} (hf : DataW.trod enc Try.prog w base (fun _ => true) held fuel 23 (Value.slice a len cap).cells.toList = some x) :
    ∃ l : List UInt8, l.length = len ∧ Bs w a l ∧ len ≤ cap ∧ cap ≤ 9223372036854775807 ∧ (a = none → cap = 0) := by
  rcases open_ints Try.underlying23 Try.underlying5 (by kernel_rfl) hf with ⟨hcs, _⟩ | ⟨y, l, c, zs, hcs, _, hl, hm, hz, _, hcell, hwz⟩
  · simp [Value.cells] at hcs
    obtain ⟨rfl, rfl, rfl⟩ := hcs
    exact row_bytes (zs := []) (.inl ⟨rfl, rfl, rfl, rfl⟩)
  · simp [Value.cells] at hcs
    obtain ⟨rfl, rfl, rfl⟩ := hcs
    exact row_bytes (zs := zs) (.inr ⟨_, rfl, hl, hm, by simpa using hz, hcell, hwz⟩)
theorem steps_open {fuel : Nat} {a : Option Addr} {len cap : Nat} {x : DataW H × List MemPlace} (hf : DataW.trod enc Try.prog w base spare held fuel 37 (Value.slice a len cap).cells.toList = some x) :
    ∃ S : List (Int × Int), S.length = len ∧ StepsIn w a S ∧ len ≤ 9223372036854775807 := by
  rcases Go.Deep.open_slice_pairs Try.underlying37 Try.underlying46 (by kernel_rfl) rfl rfl (by kernel_rfl) (by kernel_rfl) hf with ⟨hcs, _⟩ | ⟨y, l, c, m, n, V0, V1, D0, D1, P0, P1, hcs, _, hl, hm, hmm, _, hcell⟩
  · simp [Value.cells] at hcs
    obtain ⟨rfl, rfl, rfl⟩ := hcs
    exact ⟨[], rfl, ⟨fun h => absurd rfl h, fun b o e => by cases e⟩, by omega⟩
  · simp [Value.cells] at hcs
    obtain ⟨rfl, rfl, rfl⟩ := hcs
    have hlm : len ≤ m := by rw [hmm]; split <;> omega
    have hint : ∀ i, i < len → ∃ s : Int × Int, V0 i = .int .i64 s.1 ∧ V1 i = .int .i64 s.2 := fun i hi => by
      obtain ⟨_, _, h1, h2⟩ := hcell i (by omega)
      obtain ⟨z0, e0, _⟩ := DataW.trod_int Try.underlying3 h1
      obtain ⟨z1, e1, _⟩ := DataW.trod_int Try.underlying3 h2
      exact ⟨(z0, z1), by simpa using e0, by simpa using e1⟩
    obtain ⟨f, hf'⟩ := Go.Deep.choose_lt hint
    refine ⟨(List.range len).map f, by simp, ⟨fun hne => ?_, fun b o e i hi => ?_⟩, by unfold maxLen at hm; omega⟩
    · have h0 : 0 < len := by
        rcases Nat.eq_zero_or_pos len with h0 | h0
        · subst h0; simp at hne
        · exact h0
      have := World.cell?_spot (hcell 0 (by omega)).1
      obtain ⟨b, o, s⟩ := y
      simp [Addr.add] at this
      subst this
      exact ⟨b, o, rfl⟩
    · simp at hi
      cases e
      obtain ⟨c0, c1, _⟩ := hcell i (by omega)
      rw [Addr.add_mid] at c0 c1
      obtain ⟨e0, e1⟩ := hf' i hi
      rw [e0] at c0
      rw [e1] at c1
      simp only [List.getElem_map, List.getElem_range]
      exact ⟨c0, c1⟩
theorem walks_any (a s : Option Addr) (ca cs : Nat) (l : List UInt8) (S : List (Int × Int)) (w : World) (hA : Bs w a l) (hna : a = none → ca = 0) (hS : StepsIn w s S) (h1 : l.length ≤ 9223372036854775807) (h2 : S.length ≤ 9223372036854775807) :
    Calls Try.prog 6 #[.slice a l.length ca, .slice s S.length cs] w fun e w' => e = .returned (.bool true) ∧ Below w.heap.size w w' := by
  by_cases h : 9000 < l.length ∨ 300 < S.length
  · exact walks_out a s ca cs l S.length w h h1 h2
  · exact walks_in a s ca cs l S w hA hna hS (by omega) (by omega)
end Go.Proofs.Ytcfcdnoebgdfeaa

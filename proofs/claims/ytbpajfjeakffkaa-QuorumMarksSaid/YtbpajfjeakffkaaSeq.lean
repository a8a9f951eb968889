/- A rule for a region that draws its order: step by step in the order of the text; what reads, reads the same in every world that has grown. -/
import Derived.Deep.RegionHeld
import Derived.WalkKit
namespace Go.Proofs.Ytbpajfjeakffkaa
open Go.RowKit

section
variable {P : Program} {ops : Array Oper} {l : List Oper} {Q : Exit → Act → World → Prop}
theorem wpAnyH_mono {md : Region.Mode} {S S' : World → Prop} (hSS : ∀ w, S' w → S w) : ∀ (fuel : Nat) (listed : Array Bool) (a : Act) (w : World), wpAnyH P md ops Q S' fuel listed a w → wpAnyH P md ops Q S fuel listed a w
  | 0, _, _, _, h => h
  | fuel + 1, _, _, _, h => ⟨h.1, fun i hi => wpOp_mono (fun a' w' h' => ⟨hSS _ h'.1, wpAnyH_mono hSS fuel _ a' w' h'.2⟩) (h.2 i hi)⟩
/-- those marked have come up; n are left -/
def SeqAt (P : Program) (l : List Oper) (Q : Exit → Act → World → Prop) (n : Nat) (m : List Bool) (a : Act) (w : World) : Prop :=
  wpAnyH P .any l.toArray Q (fun w' => Below w.heap.size w w') n m.toArray a w
def takeOk (l : List Oper) (m : List Bool) (i : Nat) : Bool := Region.noSelect l.toArray && Region.free .any l.toArray m.toArray i && (Region.ready .any l.toArray m.toArray).contains i
def doOk (l : List Oper) (m : List Bool) (i : Nat) : Bool := Region.ready .any l.toArray m.toArray == [i]
theorem seq_start (n : Nat) (m : List Bool) {id : Nat} {a : Act} {w : World} (hm : P.follows .mixedOrders = true) (hn : l.length = n) (hr : m = List.replicate n false) (h : SeqAt P l Q n m a w.drew) : (Code.region id l.toArray true).wp P Q a w := by
  subst hn
  refine wp_region_held_drew (S := fun w' => Below w.drew.heap.size w.drew w') hm (Below.refl _ _) fun _ => ?_
  unfold SeqAt at h
  rw [hr, List.toArray_replicate] at h
  exact h
theorem seq_take (i : Nat) {n : Nat} {m : List Bool} {o : Oper} {v : Value} {a : Act} {w : World} (hi : l[i]? = some o) (hok : takeOk l m i = true)
    (hQ : ∀ c a w, Q (.panic c) (a.put o.dst v) w → Q (.panic c) a w) (hy : YieldsIf P l.toArray (fun w' => Below w.heap.size w w') o v a)
    (h : SeqAt P l Q n (m.set i true) (a.put o.dst v) w) : SeqAt P l Q (n + 1) m a w := by
  unfold takeOk at hok
  simp only [Bool.and_eq_true] at hok
  refine wpAnyH_take (i := i) (by simpa using hi) hok.1.1 hok.1.2 hok.2 hQ hy (Below.refl _ _) ?_
  unfold SeqAt at h
  rwa [← List.setIfInBounds_toArray] at h
theorem seq_do (i : Nat) {n : Nat} {m : List Bool} {o : Oper} {a : Act} {w : World} (hi : l[i]? = some o) (hok : doOk l m i = true)
    (h : ∀ K' : Act → World → Prop, Shut (∀ a' w', Below w.heap.size w w' → SeqAt P l Q n (m.set i true) a' w' → K' a' w') → if Region.wanted o (yielded l.toArray a.tmps) = true then Oper.wp P o a w K' Q else K' (a.put o.dst undef) w) : SeqAt P l Q (n + 1) m a w := by
  unfold doOk at hok
  refine wpAnyH_ready (by simpa using hok) (by simp) (AllReadyH.cons (i := i) (by simpa using hi) (fun K' hK' => h K' fun a' w' hb hs => hK'.out a' w' hb fun _ => ?_) AllReadyH.nil)
  unfold SeqAt at hs
  rw [← List.setIfInBounds_toArray] at hs
  exact wpAnyH_mono (fun w'' h' => hb.trans (h'.mono hb.size)) _ _ _ _ hs
theorem seq_end {m : List Bool} {a : Act} {w : World} (hok : (Region.ready .any l.toArray m.toArray).isEmpty = true) (h : Q .normal a w) : SeqAt P l Q 0 m a w :=
  ⟨by simpa using hok, h⟩
end
end Go.Proofs.Ytbpajfjeakffkaa

/- Two operations are ready: each may come first. -/
import Derived.Test.YtokijkinlcdjeaaSeq2
namespace Go.Proofs.Ytokijkinlcdjeaa
open Go.RowKit

section
variable {P : Program} {ops : Array Oper} {l : List Oper} {Q : Exit → Act → World → Prop} {S : World → Prop}
def both (l : List Oper) (m : List Bool) (i j : Nat) : Bool := Region.ready .any l.toArray m.toArray == [i, j]
theorem seqS_both (i j : Nat) {n : Nat} {m : List Bool} {o o2 : Oper} {a : Act} {w : World} (hi : l[i]? = some o) (hj : l[j]? = some o2) (hok : both l m i j = true)
    (h : ∀ K' : Act → World → Prop, Shut (∀ (S' : World → Prop) a' w', (∀ v, S' v → S v) → S' w' → SeqS P l Q S' n (m.set i true) a' w' → K' a' w') → if Region.wanted o (yielded l.toArray a.tmps) = true then Oper.wp P o a w K' Q else K' (a.put o.dst undef) w)
    (h2 : ∀ K' : Act → World → Prop, Shut (∀ (S' : World → Prop) a' w', (∀ v, S' v → S v) → S' w' → SeqS P l Q S' n (m.set j true) a' w' → K' a' w') → if Region.wanted o2 (yielded l.toArray a.tmps) = true then Oper.wp P o2 a w K' Q else K' (a.put o2.dst undef) w) :
    SeqS P l Q S (n + 1) m a w := by
  intro hS
  unfold both at hok
  refine wpAnyH_ready (by simpa using hok) (by simp) (AllReadyH.cons (i := i) (by simpa using hi) (fun K' hK' => h K' fun S' a' w' hSS hS' hs => hK'.out a' w' (hSS _ hS') fun _ => ?_)
    (AllReadyH.cons (i := j) (by simpa using hj) (fun K' hK' => h2 K' fun S' a' w' hSS hS' hs => hK'.out a' w' (hSS _ hS') fun _ => ?_) AllReadyH.nil))
  · have := hs hS'
    rw [← List.setIfInBounds_toArray] at this
    exact wpAnyH_mono hSS _ _ _ _ this
  · have := hs hS'
    rw [← List.setIfInBounds_toArray] at this
    exact wpAnyH_mono hSS _ _ _ _ this
end
end Go.Proofs.Ytokijkinlcdjeaa

/- The rule for a region that draws its order, step by step in the order of the text, with a condition on the world of one's own choice: what reads, reads the same in every world that meets it. -/
import Derived.Test.YtbpajfjeakffkaaSeq
namespace Go.Proofs.Ytbpajfjeakffkaa
open Go.RowKit

section
variable {P : Program} {ops : Array Oper} {l : List Oper} {Q : Exit → Act → World → Prop} {S : World → Prop}
/-- those marked have come up; n are left; S holds -/
def SeqS (P : Program) (l : List Oper) (Q : Exit → Act → World → Prop) (S : World → Prop) (n : Nat) (m : List Bool) (a : Act) (w : World) : Prop :=
  S w → wpAnyH P .any l.toArray Q S n m.toArray a w
theorem seqS_start (S : World → Prop) (n : Nat) (m : List Bool) {id : Nat} {a : Act} {w : World} (hm : P.follows .mixedOrders = true) (hn : l.length = n) (hr : m = List.replicate n false) (hS : S w.drew) (h : SeqS P l Q S n m a w.drew) : (Code.region id l.toArray true).wp P Q a w := by
  subst hn
  refine wp_region_held_drew (S := S) hm hS fun _ => ?_
  have := h hS
  rw [hr, List.toArray_replicate] at this
  exact this
theorem seqS_take (i : Nat) {n : Nat} {m : List Bool} {o : Oper} {v : Value} {a : Act} {w : World} (hi : l[i]? = some o) (hok : takeOk l m i = true)
    (hQ : ∀ c a w, Q (.panic c) (a.put o.dst v) w → Q (.panic c) a w) (hy : YieldsIf P l.toArray S o v a)
    (h : SeqS P l Q S n (m.set i true) (a.put o.dst v) w) : SeqS P l Q S (n + 1) m a w := by
  intro hS
  unfold takeOk at hok
  simp only [Bool.and_eq_true] at hok
  refine wpAnyH_take (i := i) (by simpa using hi) hok.1.1 hok.1.2 hok.2 hQ hy hS ?_
  have := h hS
  rwa [← List.setIfInBounds_toArray] at this
theorem seqS_do (i : Nat) {n : Nat} {m : List Bool} {o : Oper} {a : Act} {w : World} (hi : l[i]? = some o) (hok : doOk l m i = true)
    (h : ∀ K' : Act → World → Prop, Shut (∀ (S' : World → Prop) a' w', (∀ v, S' v → S v) → S' w' → SeqS P l Q S' n (m.set i true) a' w' → K' a' w') → if Region.wanted o (yielded l.toArray a.tmps) = true then Oper.wp P o a w K' Q else K' (a.put o.dst undef) w) : SeqS P l Q S (n + 1) m a w := by
  intro hS
  unfold doOk at hok
  refine wpAnyH_ready (by simpa using hok) (by simp) (AllReadyH.cons (i := i) (by simpa using hi) (fun K' hK' => h K' fun S' a' w' hSS hS' hs => hK'.out a' w' (hSS _ hS') fun _ => ?_) AllReadyH.nil)
  have := hs hS'
  rw [← List.setIfInBounds_toArray] at this
  exact wpAnyH_mono hSS _ _ _ _ this
theorem seqS_end {m : List Bool} {a : Act} {w : World} (hok : (Region.ready .any l.toArray m.toArray).isEmpty = true) (h : S w → Q .normal a w) : SeqS P l Q S 0 m a w :=
  fun hS => ⟨by simpa using hok, h hS⟩
end
end Go.Proofs.Ytbpajfjeakffkaa

/- The reader's subs: how many, then each. -/
import Derived.Test.YtokijkinlcdjeaaRecI
import Derived.Test.YtokijkinlcdjeaaSeq3
namespace Go.Proofs.Ytokijkinlcdjeaa
open Go.RowKit WireM

def sstep (d : List UInt8) (s : Int × List Nat) : Int × List Nat := if s.1 < 0 then s else (stepAt d s.1 (szOf 8), s.2 ++ [numAt d s.1 8])
def srun (d : List UInt8) : Nat → Int × List Nat → Int × List Nat
  | 0, s => s
  | n + 1, s => sstep d (srun d n s)
theorem srun_le (d : List UInt8) (n : Nat) (s : Int × List Nat) (h : s.1 ≤ d.length) : (srun d n s).1 ≤ d.length := by
  induction n with
  | zero => exact h
  | succ n ih =>
    unfold srun sstep
    split
    · exact ih
    · exact stepAt_le d _ _ ih
theorem srun_len (d : List UInt8) (n : Nat) (s : Int × List Nat) : (srun d n s).2.length ≤ s.2.length + n := by
  induction n with
  | zero => simp [srun]
  | succ n ih =>
    unfold srun sstep
    split
    · omega
    · simp only [List.length_append, List.length_cons, List.length_nil]; omega
theorem RS.below {w w' : World} {base top g g2 mb : Nat} {d : List UInt8} {q : Int} {R : Rec} {ab sb : Option Addr} {cs : Nat} (h : RS w base top g g2 mb d q R ab sb cs) (hb : Below w.heap.size w w') : RS w' base top g g2 mb d q R ab sb cs :=
  ⟨(hb.block g2 h.lt.1).trans h.cell, h.rd.below hb, h.got.below hb, h.own.below hb, h.ne2, h.nem, h.t2, h.tm, h.m2, (hb.block mb h.lt.2).trans h.map⟩
/-- the appended list goes into the cell -/
theorem RS.setSubs {w w1 : World} {base top g g2 mb : Nat} {d : List UInt8} {q : Int} {R : Rec} {ab sb sb' : Option Addr} {cs cs' : Nat} {U : List Nat} (h : RS w base top g g2 mb d q R ab sb cs)
    (ho : OwnU w1 top (.slice sb' U.length cs') U) (hg : w.grownBy w1 (Value.slice sb R.subs.length cs).ownBlock) (hs : (Value.slice sb' U.length cs').ownBlock = (Value.slice sb R.subs.length cs).ownBlock ∨ (Value.slice sb' U.length cs').ownBlock = some w.heap.size) :
    RS (w1.setCell ⟨g2, 6, none⟩ (.slice sb' U.length cs')) base top g g2 mb d q { R with subs := U } ab sb' cs' := by
  have hne2 : (Value.slice sb' U.length cs').ownBlock ≠ some g2 := by
    rcases hs with e | e
    · rw [e]; exact h.ne2
    · rw [e]; have := h.lt.1; intro e'; injection e'; omega
  have hnem : (Value.slice sb' U.length cs').ownBlock ≠ some mb := by
    rcases hs with e | e
    · rw [e]; exact h.nem
    · rw [e]; have := h.lt.2; intro e'; injection e'; omega
  have hc : w1.heap[g2]? = some (.cells (rcells g R ab sb cs) 51 (0, 0)) := (hg.block g2 h.lt.1 (fun e => h.ne2 e.symm)).trans h.cell
  have hm : w1.heap[mb]? = some partsO := (hg.block mb h.lt.2 (fun e => h.nem e.symm)).trans h.map
  have hgr : w1.grownBy (w1.setCell ⟨g2, 6, none⟩ (.slice sb' U.length cs')) (some g2) := ⟨rfl, rfl, rfl, by simp [World.setCell], fun k _ hne => Below.heap_setCell _ _ _ _ (fun e => hne (by rw [e]))⟩
  have hlt1 := (Array.getElem?_eq_some_iff.1 hm).1
  have hrd : Rd w1 base top g d q ∧ Got w1 base top g ab R.bytes := by
    cases e : (Value.slice sb R.subs.length cs).ownBlock with
    | none => rw [e] at hg; exact ⟨h.rd.below (below_grown hg), h.got.below (below_grown hg)⟩
    | some k => rw [e] at hg; exact ⟨h.rd.kept hg (.inr (h.own.lt k e).1), h.got.keep hg (.inr (.inr (h.own.lt k e).1))⟩
  refine ⟨?_, hrd.1.kept hgr (.inr h.t2), hrd.2.keep hgr (.inr (.inr h.t2)), World.ownsRow.kept ho hgr (.inr hne2), hne2, hnem, h.t2, h.tm, h.m2, (hgr.block mb hlt1 (fun e => by injection e with e; exact h.m2 e)).trans hm⟩
  rw [heap_setCell_same _ _ _ _ _ _ hc]; rfl

end Go.Proofs.Ytokijkinlcdjeaa

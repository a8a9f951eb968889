/- Contracts of wire's readers, by an abstract state: the bytes, and the place (below 0: broken). -/
import Derived.Test.YtcfcdnoebgdfeaaWalkD
import Derived.Lib.SliceRun
namespace Go.Proofs.Ytcfcdnoebgdfeaa
open Go.RowKit WireM

/-- a reader in block g; its bytes in a block of its own; both between base and top -/
structure Rd (w : World) (base top g : Nat) (l : List UInt8) (p : Int) : Prop where
  up : base ≤ g
  lt : g < top
  cells : ∃ h cap, w.heap[g]? = some (.cells #[.slice (some ⟨h, 0, none⟩) l.length cap, .int .i64 p] 66 (0, 0)) ∧ h ≠ g ∧ OwnB w base (.slice (some ⟨h, 0, none⟩) l.length cap) l ∧ base ≤ h ∧ h < top
theorem Failed_any (base top g : Nat) (l : List UInt8) (p : Int) (w : World) (h : Rd w base top g l p) :
    Calls Try.prog 21 #[.pointer (some ⟨g, 0, none⟩)] w fun e w' => e = .returned (.bool (decide (p < 0))) ∧ w = w' := by
  obtain ⟨hb, cap, hg, hne, hown, hb1, hb2⟩ := h.cells
  have c0 := cell_of_row w g 0 _ _ _ hg
  have c1 := cell_of_row w g 1 _ _ _ hg
  simp at c0 c1
  clear hown hg
  have q23 : ∀ (w : World) (x : Addr) (n c : Nat), (binOp .eql 23 (.slice (some x) n c) (.slice none 0 0)).run Try.prog w = .ok (.bool false) w := fun w x n c => by
    have := Go.Lib.run_eql_slice_nil (P := Try.prog) w 23 5 (some x) n c 0 0 Try.underlying23
    simpa using this
  go_enter Try.func21, Try.ntmps21
  go_wp2
  go_ret
  exact ⟨rfl, rfl⟩
theorem next_bad (base top g : Nat) (l : List UInt8) (p n : Int) (w : World) (h : Rd w base top g l p) (hp : p < 0) :
    Calls Try.prog 38 #[.pointer (some ⟨g, 0, none⟩), .int .i64 n] w fun e w' => e = .returned (.tuple #[.slice none 0 0, .bool false]) ∧ w = w' := by
  have hF := Failed_any base top g l p w h
  rw [show decide (p < 0) = true by simpa using hp] at hF
  go_enter Try.func38, Try.ntmps38
  go_wp2_with (go_at_call 21; refine hF.mono ?_; rintro e w' ⟨rfl, rfl⟩)
  go_ret2
  exact ⟨rfl, rfl⟩
theorem Rd.set {base top g : Nat} {l : List UInt8} {p : Int} {w : World} (h : Rd w base top g l p) (p' : Int) :
    Rd (w.setCell ⟨g, 1, none⟩ (.int .i64 p')) base top g l p' ∧ w.grownBy (w.setCell ⟨g, 1, none⟩ (.int .i64 p')) (some g) := by
  obtain ⟨hb, cap, hg, hne, hown, hb1, hb2⟩ := h.cells
  have hgr : w.grownBy (w.setCell ⟨g, 1, none⟩ (.int .i64 p')) (some g) := ⟨rfl, rfl, rfl, by simp [World.setCell], fun k _ hne => Below.heap_setCell _ _ _ _ (fun e => hne (by rw [e]))⟩
  refine ⟨⟨h.up, h.lt, hb, cap, ?_, hne, hown.kept hgr (.inr (by simpa [Value.ownBlock] using hne)), hb1, hb2⟩, hgr⟩
  rw [heap_setCell_same _ _ _ _ _ _ hg]; rfl
theorem Rd.drewR {base top g : Nat} {l : List UInt8} {p : Int} {w : World} (h : Rd w base top g l p) : Rd w.drew base top g l p :=
  ⟨h.up, h.lt, let ⟨a, b, c, d, e, f⟩ := h.cells; ⟨a, b, c, d, e.below (Below.refl _ _).drew, f⟩⟩
theorem grown_drew {w w' : World} {r : Option Nat} (h : w.grownBy w' r) : w.grownBy w'.drew r := ⟨h.os, h.tape, h.output, h.size, h.block⟩
set_option maxRecDepth 100000 in
set_option maxHeartbeats 800000 in
theorem next_no (base top g : Nat) (l : List UInt8) (k : Nat) (n : Int) (w : World) (h : Rd w base top g l k) (hl : l.length ≤ 140737488355328) (hk : k ≤ l.length) (hn : n < 0 ∨ (l.length : Int) - (k : Int) < n) :
    Calls Try.prog 38 #[.pointer (some ⟨g, 0, none⟩), .int .i64 n] w fun e w' => e = .returned (.tuple #[.slice none 0 0, .bool false]) ∧ Rd w' base top g l (-1) ∧ w.grownBy w' (some g) := by
  have hF := Failed_any base top g l k w h
  rw [show decide ((k : Int) < 0) = false by simp] at hF
  have hS := Lib.hid (h.set (-1))
  obtain ⟨hb, cap, hg, hne, hown, hb1, hb2⟩ := h.cells
  have c0 := cell_of_row w g 0 _ _ _ hg
  have c1 := cell_of_row w g 1 _ _ _ hg
  have f1 := frozen_of_row w g 1 _ _ hg
  simp at c0 c1
  clear hown hg h
  rcases hn with hn | hn
  · go_enter Try.func38, Try.ntmps38
    go_wp2_with (go_at_call 21; refine hF.mono ?_; rintro e w' ⟨rfl, rfl⟩)
    go_big_region
    go_wp2_with fail
    go_ret2
    exact ⟨rfl, hS.out.1.drewR, grown_drew hS.out.2⟩
  · go_enter Try.func38, Try.ntmps38
    go_wp2_with (go_at_call 21; refine hF.mono ?_; rintro e w' ⟨rfl, rfl⟩)
    go_big_region
    go_wp2_with fail
    go_ret2
    exact ⟨rfl, hS.out.1.drewR, grown_drew hS.out.2⟩
end Go.Proofs.Ytcfcdnoebgdfeaa

/- The reader of records: its methods, by the place and the record so far. -/
import Derived.Test.YtokijkinlcdjeaaRecH
namespace Go.Proofs.Ytokijkinlcdjeaa
open Go.RowKit WireM

abbrev rcells (g : Nat) (R : Rec) (ab sb : Option Addr) (cs : Nat) : Array Value :=
  #[.pointer (some ⟨g, 0, none⟩), .int .i64 R.kind, .int .u64 R.xid, .int .i64 R.page, .int .i64 R.off, .slice ab R.bytes.length R.bytes.length, .slice sb R.subs.length cs, .int .u64 R.next, .int .u64 R.redo, .int .u64 R.tl]
/-- a record's reader in block g2 over a reader in block g; what was read so far; the parts in block mb -/
structure RS (w : World) (base top g g2 mb : Nat) (d : List UInt8) (q : Int) (R : Rec) (ab sb : Option Addr) (cs : Nat) : Prop where
  cell : w.heap[g2]? = some (.cells (rcells g R ab sb cs) 51 (0, 0))
  rd : Rd w base top g d q
  got : Got w base top g ab R.bytes
  own : OwnU w top (.slice sb R.subs.length cs) R.subs
  ne2 : (Value.slice sb R.subs.length cs).ownBlock ≠ some g2
  nem : (Value.slice sb R.subs.length cs).ownBlock ≠ some mb
  t2 : top ≤ g2
  tm : top ≤ mb
  m2 : mb ≠ g2
  map : w.heap[mb]? = some partsO
theorem RS.lt {w : World} {base top g g2 mb : Nat} {d : List UInt8} {q : Int} {R : Rec} {ab sb : Option Addr} {cs : Nat} (h : RS w base top g g2 mb d q R ab sb cs) : g2 < w.heap.size ∧ mb < w.heap.size :=
  ⟨(Array.getElem?_eq_some_iff.1 h.cell).1, (Array.getElem?_eq_some_iff.1 h.map).1⟩
theorem RS.rdTo {w w' : World} {base top g g2 mb : Nat} {d : List UInt8} {q q' : Int} {R : Rec} {ab sb : Option Addr} {cs : Nat} (h : RS w base top g g2 mb d q R ab sb cs) (hr : Rd w' base top g d q') (hg : w.grownBy w' (some g)) : RS w' base top g g2 mb d q' R ab sb cs :=
  have hgt : g < top := h.rd.lt
  ⟨(hg.block g2 h.lt.1 (fun e => by injection e with e; have := h.t2; omega)).trans h.cell, hr, h.got.keep hg (.inl rfl), h.own.kept hg (.inr (fun e => by have := (h.own.lt g e).1; omega)), h.ne2, h.nem, h.t2, h.tm, h.m2,
    (hg.block mb h.lt.2 (fun e => by injection e with e; have := h.tm; omega)).trans h.map⟩
theorem RS.set {w : World} {base top g g2 mb : Nat} {d : List UInt8} {q : Int} {R R' : Rec} {ab sb : Option Addr} {cs : Nat} (h : RS w base top g g2 mb d q R ab sb cs) (i : Nat) (v : Value)
    (hc : (rcells g R ab sb cs).setIfInBounds i v = rcells g R' ab sb cs) (hb : R'.bytes = R.bytes) (hs : R'.subs = R.subs) :
    RS (w.setCell ⟨g2, i, none⟩ v) base top g g2 mb d q R' ab sb cs ∧ w.grownBy (w.setCell ⟨g2, i, none⟩ v) (some g2) := by
  have hgr : w.grownBy (w.setCell ⟨g2, i, none⟩ v) (some g2) := ⟨rfl, rfl, rfl, by simp [World.setCell], fun k _ hne => Below.heap_setCell _ _ _ _ (fun e => hne (by rw [e]))⟩
  refine ⟨⟨?_, h.rd.kept hgr (.inr h.t2), by rw [hb]; exact h.got.keep hgr (.inr (.inr h.t2)), by rw [hs]; exact h.own.kept hgr (.inr h.ne2), by rw [hs]; exact h.ne2, by rw [hs]; exact h.nem, h.t2, h.tm, h.m2, (hgr.block mb h.lt.2 (fun e => by injection e with e; exact h.m2 e)).trans h.map⟩, hgr⟩
  rw [heap_setCell_same _ _ _ _ _ _ h.cell, ← hc]
theorem below_g {w w' : World} {base g : Nat} (hg : w.grownBy w' (some g)) (h : base ≤ g) (hs : base ≤ w.heap.size) : Below base w w' :=
  ⟨hg.os, hg.tape, hg.output, hg.size, fun k hk => hg.block k (by omega) (fun e => by injection e with e; omega)⟩
/-- one step of the reading: the record's reader stands for the next place and record; all other blocks stay, but those of the reader, and of the list (b) -/
def RStep (w : World) (base top g g2 mb : Nat) (d : List UInt8) (q' : Int) (R' : Rec) (b : Option Nat) (w' : World) : Prop :=
  ∃ ab' sb' cs', RS w' base top g g2 mb d q' R' ab' sb' cs' ∧ Below base w w' ∧ (∀ j, j < w.heap.size → j ≠ g → j ≠ g2 → b ≠ some j → w'.heap[j]? = w.heap[j]?) ∧ ((Value.slice sb' R'.subs.length cs').ownBlock = b ∨ ∃ n, (Value.slice sb' R'.subs.length cs').ownBlock = some n ∧ w.heap.size ≤ n)
theorem two_kept {w w1 w' : World} {g g2 : Nat} (hg1 : w.grownBy w1 (some g)) (hg2 : w1.grownBy w' (some g2)) (b : Option Nat) : ∀ j, j < w.heap.size → j ≠ g → j ≠ g2 → b ≠ some j → w'.heap[j]? = w.heap[j]? :=
  fun j hj h1 h2 _ => (hg2.block j (Nat.lt_of_lt_of_le hj hg1.size) (fun e => h2 (Option.some.inj e))).trans (hg1.block j hj (fun e => h1 (Option.some.inj e)))

set_option maxHeartbeats 1600000 in
theorem rXid (base top g g2 mb : Nat) (d : List UInt8) (q : Int) (R : Rec) (ab sb : Option Addr) (cs : Nat) (w : World) (h : RS w base top g g2 mb d q R ab sb cs) (hd : d.length ≤ 140737488355328) (hq : q ≤ d.length) :
    Calls Try.prog 31 #[.pointer (some ⟨g2, 0, none⟩)] w fun e w' => e = .returned (.tuple #[]) ∧ RStep w base top g g2 mb d (stepAt d q (szOf 8)) { R with xid := numAt d q 8 } (Value.slice sb R.subs.length cs).ownBlock w' := by
  obtain ⟨q', hq'⟩ : ∃ q', stepAt d q (szOf 8) = q' := ⟨_, rfl⟩
  obtain ⟨N, hN⟩ : ∃ N, numAt d q 8 = N := ⟨_, rfl⟩
  have P := Lib.hid (Number_at base top g d q 8 q' N hq' hN w h.rd hd hq)
  rw [hq', hN]
  have z0 : w.cell? ⟨g2, 0, none⟩ = some (.pointer (some ⟨g, 0, none⟩)) := cell_of_row _ _ 0 _ _ _ h.cell
  go_enter Try.func31, Try.ntmps31
  go_wp2_with (go_at_call 20; refine P.out.mono ?_; rintro e w1 ⟨rfl, hr1, hg1⟩; have h1 := h.rdTo hr1 hg1; have hf1 := frozen_of_row _ g2 2 _ _ h1.cell; have z1 : w1.cell? ⟨g2, 2, none⟩ = _ := cell_of_row _ _ 2 _ _ _ h1.cell)
  go_end0
  obtain ⟨h2, hg2⟩ := h1.set (R' := { R with xid := N }) 2 _ rfl rfl rfl
  have hb0 : base ≤ w.heap.size := by have := h.t2; have := h.lt.1; have := h.rd.up; have := h.rd.lt; omega
  exact ⟨rfl, ab, sb, cs, h2, (below_g hg1 h.rd.up hb0).trans (below_g hg2 (by have := h.t2; have := h.rd.up; have := h.rd.lt; omega) (Nat.le_trans hb0 hg1.size)), two_kept hg1 hg2 _, .inl rfl⟩
set_option maxHeartbeats 1600000 in
theorem rNext (base top g g2 mb : Nat) (d : List UInt8) (q : Int) (R : Rec) (ab sb : Option Addr) (cs : Nat) (w : World) (h : RS w base top g g2 mb d q R ab sb cs) (hd : d.length ≤ 140737488355328) (hq : q ≤ d.length) :
    Calls Try.prog 33 #[.pointer (some ⟨g2, 0, none⟩)] w fun e w' => e = .returned (.tuple #[]) ∧ RStep w base top g g2 mb d (stepAt d q (szOf 8)) { R with next := numAt d q 8 } (Value.slice sb R.subs.length cs).ownBlock w' := by
  obtain ⟨q', hq'⟩ : ∃ q', stepAt d q (szOf 8) = q' := ⟨_, rfl⟩
  obtain ⟨N, hN⟩ : ∃ N, numAt d q 8 = N := ⟨_, rfl⟩
  have P := Lib.hid (Number_at base top g d q 8 q' N hq' hN w h.rd hd hq)
  rw [hq', hN]
  have z0 : w.cell? ⟨g2, 0, none⟩ = some (.pointer (some ⟨g, 0, none⟩)) := cell_of_row _ _ 0 _ _ _ h.cell
  go_enter Try.func33, Try.ntmps33
  go_wp2_with (go_at_call 20; refine P.out.mono ?_; rintro e w1 ⟨rfl, hr1, hg1⟩; have h1 := h.rdTo hr1 hg1; have hf1 := frozen_of_row _ g2 7 _ _ h1.cell; have z1 : w1.cell? ⟨g2, 7, none⟩ = _ := cell_of_row _ _ 7 _ _ _ h1.cell)
  go_end0
  obtain ⟨h2, hg2⟩ := h1.set (R' := { R with next := N }) 7 _ rfl rfl rfl
  have hb0 : base ≤ w.heap.size := by have := h.t2; have := h.lt.1; have := h.rd.up; have := h.rd.lt; omega
  exact ⟨rfl, ab, sb, cs, h2, (below_g hg1 h.rd.up hb0).trans (below_g hg2 (by have := h.t2; have := h.rd.up; have := h.rd.lt; omega) (Nat.le_trans hb0 hg1.size)), two_kept hg1 hg2 _, .inl rfl⟩
set_option maxHeartbeats 1600000 in
theorem rRedo (base top g g2 mb : Nat) (d : List UInt8) (q : Int) (R : Rec) (ab sb : Option Addr) (cs : Nat) (w : World) (h : RS w base top g g2 mb d q R ab sb cs) (hd : d.length ≤ 140737488355328) (hq : q ≤ d.length) :
    Calls Try.prog 35 #[.pointer (some ⟨g2, 0, none⟩)] w fun e w' => e = .returned (.tuple #[]) ∧ RStep w base top g g2 mb d (stepAt d q (szOf 8)) { R with redo := numAt d q 8 } (Value.slice sb R.subs.length cs).ownBlock w' := by
  obtain ⟨q', hq'⟩ : ∃ q', stepAt d q (szOf 8) = q' := ⟨_, rfl⟩
  obtain ⟨N, hN⟩ : ∃ N, numAt d q 8 = N := ⟨_, rfl⟩
  have P := Lib.hid (Number_at base top g d q 8 q' N hq' hN w h.rd hd hq)
  rw [hq', hN]
  have z0 : w.cell? ⟨g2, 0, none⟩ = some (.pointer (some ⟨g, 0, none⟩)) := cell_of_row _ _ 0 _ _ _ h.cell
  go_enter Try.func35, Try.ntmps35
  go_wp2_with (go_at_call 20; refine P.out.mono ?_; rintro e w1 ⟨rfl, hr1, hg1⟩; have h1 := h.rdTo hr1 hg1; have hf1 := frozen_of_row _ g2 8 _ _ h1.cell; have z1 : w1.cell? ⟨g2, 8, none⟩ = _ := cell_of_row _ _ 8 _ _ _ h1.cell)
  go_end0
  obtain ⟨h2, hg2⟩ := h1.set (R' := { R with redo := N }) 8 _ rfl rfl rfl
  have hb0 : base ≤ w.heap.size := by have := h.t2; have := h.lt.1; have := h.rd.up; have := h.rd.lt; omega
  exact ⟨rfl, ab, sb, cs, h2, (below_g hg1 h.rd.up hb0).trans (below_g hg2 (by have := h.t2; have := h.rd.up; have := h.rd.lt; omega) (Nat.le_trans hb0 hg1.size)), two_kept hg1 hg2 _, .inl rfl⟩
set_option maxHeartbeats 1600000 in
theorem rTl (base top g g2 mb : Nat) (d : List UInt8) (q : Int) (R : Rec) (ab sb : Option Addr) (cs : Nat) (w : World) (h : RS w base top g g2 mb d q R ab sb cs) (hd : d.length ≤ 140737488355328) (hq : q ≤ d.length) :
    Calls Try.prog 37 #[.pointer (some ⟨g2, 0, none⟩)] w fun e w' => e = .returned (.tuple #[]) ∧ RStep w base top g g2 mb d (stepAt d q (szOf 8)) { R with tl := numAt d q 8 } (Value.slice sb R.subs.length cs).ownBlock w' := by
  obtain ⟨q', hq'⟩ : ∃ q', stepAt d q (szOf 8) = q' := ⟨_, rfl⟩
  obtain ⟨N, hN⟩ : ∃ N, numAt d q 8 = N := ⟨_, rfl⟩
  have P := Lib.hid (Number_at base top g d q 8 q' N hq' hN w h.rd hd hq)
  rw [hq', hN]
  have z0 : w.cell? ⟨g2, 0, none⟩ = some (.pointer (some ⟨g, 0, none⟩)) := cell_of_row _ _ 0 _ _ _ h.cell
  go_enter Try.func37, Try.ntmps37
  go_wp2_with (go_at_call 20; refine P.out.mono ?_; rintro e w1 ⟨rfl, hr1, hg1⟩; have h1 := h.rdTo hr1 hg1; have hf1 := frozen_of_row _ g2 9 _ _ h1.cell; have z1 : w1.cell? ⟨g2, 9, none⟩ = _ := cell_of_row _ _ 9 _ _ _ h1.cell)
  go_end0
  obtain ⟨h2, hg2⟩ := h1.set (R' := { R with tl := N }) 9 _ rfl rfl rfl
  have hb0 : base ≤ w.heap.size := by have := h.t2; have := h.lt.1; have := h.rd.up; have := h.rd.lt; omega
  exact ⟨rfl, ab, sb, cs, h2, (below_g hg1 h.rd.up hb0).trans (below_g hg2 (by have := h.t2; have := h.rd.up; have := h.rd.lt; omega) (Nat.le_trans hb0 hg1.size)), two_kept hg1 hg2 _, .inl rfl⟩
set_option maxHeartbeats 1600000 in
theorem rPage (base top g g2 mb : Nat) (d : List UInt8) (q : Int) (R : Rec) (ab sb : Option Addr) (cs : Nat) (w : World) (h : RS w base top g g2 mb d q R ab sb cs) (hd : d.length ≤ 140737488355328) (hq : q ≤ d.length) :
    Calls Try.prog 39 #[.pointer (some ⟨g2, 0, none⟩)] w fun e w' => e = .returned (.tuple #[]) ∧ RStep w base top g g2 mb d (stepAt d q (szOf 2)) { R with page := ((numAt d q 2 : Nat) : Int) } (Value.slice sb R.subs.length cs).ownBlock w' := by
  obtain ⟨q', hq'⟩ : ∃ q', stepAt d q (szOf 2) = q' := ⟨_, rfl⟩
  obtain ⟨N, hN⟩ : ∃ N, numAt d q 2 = N := ⟨_, rfl⟩
  have P := Lib.hid (Number_at base top g d q 2 q' N hq' hN w h.rd hd hq)
  rw [hq']
  have hNb : N < 65536 := by rw [← hN]; exact val_lt16 d q
  have hwN : IntKind.i64.wrap (N : Int) = (N : Int) := by rw [IntKind.wrap_i64]; omega
  rw [hN]
  have z0 : w.cell? ⟨g2, 0, none⟩ = some (.pointer (some ⟨g, 0, none⟩)) := cell_of_row _ _ 0 _ _ _ h.cell
  go_enter Try.func39, Try.ntmps39
  go_wp2_with (go_at_call 20; refine P.out.mono ?_; rintro e w1 ⟨rfl, hr1, hg1⟩; have h1 := h.rdTo hr1 hg1; have hf1 := frozen_of_row _ g2 3 _ _ h1.cell; have z1 : w1.cell? ⟨g2, 3, none⟩ = _ := cell_of_row _ _ 3 _ _ _ h1.cell)
  go_end0
  obtain ⟨h2, hg2⟩ := h1.set (R' := { R with page := (N : Int) }) 3 _ rfl rfl rfl
  have hb0 : base ≤ w.heap.size := by have := h.t2; have := h.lt.1; have := h.rd.up; have := h.rd.lt; omega
  exact ⟨rfl, ab, sb, cs, h2, (below_g hg1 h.rd.up hb0).trans (below_g hg2 (by have := h.t2; have := h.rd.up; have := h.rd.lt; omega) (Nat.le_trans hb0 hg1.size)), two_kept hg1 hg2 _, .inl rfl⟩
set_option maxHeartbeats 1600000 in
theorem rOff (base top g g2 mb : Nat) (d : List UInt8) (q : Int) (R : Rec) (ab sb : Option Addr) (cs : Nat) (w : World) (h : RS w base top g g2 mb d q R ab sb cs) (hd : d.length ≤ 140737488355328) (hq : q ≤ d.length) :
    Calls Try.prog 41 #[.pointer (some ⟨g2, 0, none⟩)] w fun e w' => e = .returned (.tuple #[]) ∧ RStep w base top g g2 mb d (stepAt d q (szOf 2)) { R with off := ((numAt d q 2 : Nat) : Int) } (Value.slice sb R.subs.length cs).ownBlock w' := by
  obtain ⟨q', hq'⟩ : ∃ q', stepAt d q (szOf 2) = q' := ⟨_, rfl⟩
  obtain ⟨N, hN⟩ : ∃ N, numAt d q 2 = N := ⟨_, rfl⟩
  have P := Lib.hid (Number_at base top g d q 2 q' N hq' hN w h.rd hd hq)
  rw [hq']
  have hNb : N < 65536 := by rw [← hN]; exact val_lt16 d q
  have hwN : IntKind.i64.wrap (N : Int) = (N : Int) := by rw [IntKind.wrap_i64]; omega
  rw [hN]
  have z0 : w.cell? ⟨g2, 0, none⟩ = some (.pointer (some ⟨g, 0, none⟩)) := cell_of_row _ _ 0 _ _ _ h.cell
  go_enter Try.func41, Try.ntmps41
  go_wp2_with (go_at_call 20; refine P.out.mono ?_; rintro e w1 ⟨rfl, hr1, hg1⟩; have h1 := h.rdTo hr1 hg1; have hf1 := frozen_of_row _ g2 4 _ _ h1.cell; have z1 : w1.cell? ⟨g2, 4, none⟩ = _ := cell_of_row _ _ 4 _ _ _ h1.cell)
  go_end0
  obtain ⟨h2, hg2⟩ := h1.set (R' := { R with off := (N : Int) }) 4 _ rfl rfl rfl
  have hb0 : base ≤ w.heap.size := by have := h.t2; have := h.lt.1; have := h.rd.up; have := h.rd.lt; omega
  exact ⟨rfl, ab, sb, cs, h2, (below_g hg1 h.rd.up hb0).trans (below_g hg2 (by have := h.t2; have := h.rd.up; have := h.rd.lt; omega) (Nat.le_trans hb0 hg1.size)), two_kept hg1 hg2 _, .inl rfl⟩
set_option maxHeartbeats 1600000 in
theorem rBytes (base top g g2 mb : Nat) (d : List UInt8) (q : Int) (R : Rec) (ab sb : Option Addr) (cs : Nat) (w : World) (h : RS w base top g g2 mb d q R ab sb cs) (hd : d.length ≤ 140737488355328) (hq : q ≤ d.length) :
    Calls Try.prog 43 #[.pointer (some ⟨g2, 0, none⟩)] w fun e w' => e = .returned (.tuple #[]) ∧ RStep w base top g g2 mb d (blobStep d q) { R with bytes := blobAt d q } (Value.slice sb R.subs.length cs).ownBlock w' := by
  obtain ⟨q', hq'⟩ : ∃ q', blobStep d q = q' := ⟨_, rfl⟩
  obtain ⟨X, hX⟩ : ∃ X, blobAt d q = X := ⟨_, rfl⟩
  have P := rBlob_any base top g d q w h.rd hd hq
  unfold BlobPost at P
  rw [hq', hX] at P
  rw [hq', hX]
  have P := Lib.hid P
  have z0 : w.cell? ⟨g2, 0, none⟩ = some (.pointer (some ⟨g, 0, none⟩)) := cell_of_row _ _ 0 _ _ _ h.cell
  go_enter Try.func43, Try.ntmps43
  go_wp2_with (go_at_call 49; refine P.out.mono ?_; rintro e w1 ⟨⟨ab', rfl, hgt⟩, hr1, hg1⟩; have h1 := h.rdTo hr1 hg1; have hf1 := frozen_of_row _ g2 5 _ _ h1.cell; have z1 : w1.cell? ⟨g2, 5, none⟩ = _ := cell_of_row _ _ 5 _ _ _ h1.cell)
  go_end0
  have hb0 : base ≤ w.heap.size := by have := h.t2; have := h.lt.1; have := h.rd.up; have := h.rd.lt; omega
  have hgr : w1.grownBy (w1.setCell ⟨g2, 5, none⟩ (.slice ab' X.length X.length)) (some g2) := ⟨rfl, rfl, rfl, by simp [World.setCell], fun k _ hne => Below.heap_setCell _ _ _ _ (fun e => hne (by rw [e]))⟩
  refine ⟨rfl, ab', sb, cs, ⟨?_, h1.rd.kept hgr (.inr h1.t2), hgt.keep hgr (.inr (.inr h1.t2)), h1.own.kept hgr (.inr h1.ne2), h1.ne2, h1.nem, h1.t2, h1.tm, h1.m2, (hgr.block mb h1.lt.2 (fun e => by injection e with e; exact h1.m2 e)).trans h1.map⟩, (below_g hg1 h.rd.up hb0).trans (below_g hgr (by have := h.t2; have := h.rd.up; have := h.rd.lt; omega) (Nat.le_trans hb0 hg1.size)), two_kept hg1 hgr _, .inl rfl⟩
  rw [heap_setCell_same _ _ _ _ _ _ h1.cell]; rfl
end Go.Proofs.Ytokijkinlcdjeaa

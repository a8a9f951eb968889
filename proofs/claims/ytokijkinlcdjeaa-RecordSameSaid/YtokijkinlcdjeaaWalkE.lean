/- Contracts of wire's readers, by an abstract state: the bytes, and the place (below 0: broken). -/
import Derived.Test.YtokijkinlcdjeaaWalkA
import Derived.Lib.SliceRun
import Derived.StillTailTactics
namespace Go.Proofs.Ytokijkinlcdjeaa
open Go.RowKit WireM
/-- a reader in block g; its bytes in a block of its own; both between base and top -/
structure Rd (w : World) (base top g : Nat) (l : List UInt8) (p : Int) : Prop where
  up : base ≤ g
  lt : g < top
  cells : ∃ h cap, w.heap[g]? = some (.cells #[.slice (some ⟨h, 0, none⟩) l.length cap, .int .i64 p] 71 (0, 0)) ∧ h ≠ g ∧ OwnB w base (.slice (some ⟨h, 0, none⟩) l.length cap) l ∧ base ≤ h ∧ h < top
theorem Failed_any (base top g : Nat) (l : List UInt8) (p : Int) (w : World) (h : Rd w base top g l p) :
    Calls Try.prog 50 #[.pointer (some ⟨g, 0, none⟩)] w fun e w' => e = .returned (.bool (decide (p < 0))) ∧ w = w' := by
  obtain ⟨hb, cap, hg, hne, hown, hb1, hb2⟩ := h.cells
  have c0 := cell_of_row w g 0 _ _ _ hg
  have c1 := cell_of_row w g 1 _ _ _ hg
  simp at c0 c1
  clear hown hg
  have q23 : ∀ (w : World) (x : Addr) (n c : Nat), (binOp .eql 24 (.slice (some x) n c) (.slice none 0 0)).run Try.prog w = .ok (.bool false) w := fun w x n c => by
    have := Go.Lib.run_eql_slice_nil (P := Try.prog) w 24 5 (some x) n c 0 0 Try.underlying24
    simpa using this
  go_enter Try.func50, Try.ntmps50
  go_wp2
  go_ret
  exact ⟨rfl, rfl⟩
theorem next_bad (base top g : Nat) (l : List UInt8) (p n : Int) (w : World) (h : Rd w base top g l p) (hp : p < 0) :
    Calls Try.prog 48 #[.pointer (some ⟨g, 0, none⟩), .int .i64 n] w fun e w' => e = .returned (.tuple #[.slice none 0 0, .bool false]) ∧ w = w' := by
  have hF := Failed_any base top g l p w h
  rw [show decide (p < 0) = true by simpa using hp] at hF
  go_enter Try.func48, Try.ntmps48
  go_wp2_with (go_at_call 50; refine hF.mono ?_; rintro e w' ⟨rfl, rfl⟩)
  go_ret2
  exact ⟨rfl, rfl⟩
theorem Rd.set {base top g : Nat} {l : List UInt8} {p : Int} {w : World} (h : Rd w base top g l p) (p' : Int) :
    Rd (w.setCell ⟨g, 1, none⟩ (.int .i64 p')) base top g l p' ∧ w.grownBy (w.setCell ⟨g, 1, none⟩ (.int .i64 p')) (some g) := by
  obtain ⟨hb, cap, hg, hne, hown, hb1, hb2⟩ := h.cells
  have hgr : w.grownBy (w.setCell ⟨g, 1, none⟩ (.int .i64 p')) (some g) := ⟨rfl, rfl, rfl, by simp [World.setCell], fun k _ hne => Below.heap_setCell _ _ _ _ (fun e => hne (by rw [e]))⟩
  refine ⟨⟨h.up, h.lt, hb, cap, ?_, hne, hown.kept hgr (.inr (by simpa [Value.ownBlock] using hne)), hb1, hb2⟩, hgr⟩
  rw [heap_setCell_same _ _ _ _ _ _ hg]; rfl
theorem Rd.drewR {base top g : Nat} {l : List UInt8} {p : Int} {w : World} (h : Rd w base top g l p) : Rd w.drew base top g l p :=
  ⟨h.up, h.lt, let ⟨a, b, c, d, e, f⟩ := h.cells; ⟨a, b, c, d, e.below (Below.refl _ _).drew, f⟩⟩
theorem grown_drew {w w' : World} {r : Option Nat} (h : w.grownBy w' r) : w.grownBy w'.drew r := ⟨h.os, h.tape, h.output, h.size, h.block⟩
set_option maxRecDepth 100000 in
set_option maxHeartbeats 800000 in
theorem next_no (base top g : Nat) (l : List UInt8) (k : Nat) (n : Int) (w : World) (h : Rd w base top g l k) (hl : l.length ≤ 140737488355328) (hk : k ≤ l.length) (hn : n < 0 ∨ (l.length : Int) - (k : Int) < n) :
    Calls Try.prog 48 #[.pointer (some ⟨g, 0, none⟩), .int .i64 n] w fun e w' => e = .returned (.tuple #[.slice none 0 0, .bool false]) ∧ Rd w' base top g l (-1) ∧ w.grownBy w' (some g) := by
  have hF := Failed_any base top g l k w h
  rw [show decide ((k : Int) < 0) = false by simp] at hF
  have hS := Lib.hid (h.set (-1))
  obtain ⟨hb, cap, hg, hne, hown, hb1, hb2⟩ := h.cells
  have c0 := cell_of_row w g 0 _ _ _ hg
  have c1 := cell_of_row w g 1 _ _ _ hg
  have f1 := frozen_of_row w g 1 _ _ hg
  simp at c0 c1
  clear hown hg h
  rcases hn with hn | hn
  · go_enter Try.func48, Try.ntmps48
    go_wp2_with (go_at_call 50; refine hF.mono ?_; rintro e w' ⟨rfl, rfl⟩)
    go_big_region
    go_wp2_with fail
    go_ret2
    exact ⟨rfl, hS.out.1.drewR, grown_drew hS.out.2⟩
  · go_enter Try.func48, Try.ntmps48
    go_wp2_with (go_at_call 50; refine hF.mono ?_; rintro e w' ⟨rfl, rfl⟩)
    go_big_region
    go_wp2_with fail
    go_ret2
    exact ⟨rfl, hS.out.1.drewR, grown_drew hS.out.2⟩
/-- what an address must be clear of -/
def Away (a : Option Addr) (base top g : Nat) : Prop := ∀ b o s, a = some ⟨b, o, s⟩ → base ≤ b ∧ b < top ∧ b ≠ g
set_option maxRecDepth 100000 in
set_option maxHeartbeats 800000 in
theorem next_ok (base top g : Nat) (l : List UInt8) (k m : Nat) (w : World) (h : Rd w base top g l k) (hl : l.length ≤ 140737488355328) (hkm : k + m ≤ l.length) :
    Calls Try.prog 48 #[.pointer (some ⟨g, 0, none⟩), .int .i64 m] w fun e w' => (∃ a, e = .returned (.tuple #[.slice a m m, .bool true]) ∧ Bs w' a ((l.drop k).take m) ∧ (a = none → m = 0) ∧ Away a base top g) ∧ Rd w' base top g l ((k + m : Nat) : Int) ∧ w.grownBy w' (some g) := by
  have hF := Failed_any base top g l k w h
  rw [show decide ((k : Int) < 0) = false by simp] at hF
  have hS := Lib.hid (h.set ((k + m : Nat) : Int))
  obtain ⟨hb, cap, hg, hne, hown, hb1, hb2⟩ := h.cells
  have c0 := cell_of_row w g 0 _ _ _ hg
  have c1 := cell_of_row w g 1 _ _ _ hg
  have f1 := frozen_of_row w g 1 _ _ hg
  obtain ⟨_, _, e0, hBs, hcap, _⟩ := hown.form
  cases e0
  have HB := Lib.hid hBs
  clear hBs
  have hmI : (m : Int) ≤ (l.length : Int) - (k : Int) := by omega
  have hadd : (k : Int) + (m : Int) = ((k + m : Nat) : Int) := by omega
  obtain ⟨q, hq⟩ : ∃ q, k + m = q := ⟨_, rfl⟩
  rw [hq] at hS hadd hkm ⊢
  have hkq : k ≤ q := by omega
  have HQ := Lib.hid hq
  simp at c0 c1
  clear hown hg h hq
  go_enter Try.func48, Try.ntmps48
  go_wp2_with (go_at_call 50; refine hF.mono ?_; rintro e w' ⟨rfl, rfl⟩)
  go_big_region
  go_wp2_with fail
  go_big_region
  go_wp2_with fail
  · go_ret2
    have hm0 : m = 0 := by have := HQ.out; omega
    have hqk : q = k := by have := HQ.out; omega
    subst hm0
    subst hqk
    exact ⟨⟨_, rfl, ⟨fun h => absurd (by simp) h, fun b o e i hi => by simp at hi⟩, fun _ => rfl, fun b o s e => by cases e; exact ⟨hb1, hb2, hne⟩⟩, hS.out.1.drewR.drewR, grown_drew (grown_drew hS.out.2)⟩
  · go_ret2
    have hqm : q - k = m := by have := HQ.out; omega
    have hbs : Bs ((w.setCell ⟨g, 1, none⟩ (.int .i64 (q : Int))).drew.drew) (some ⟨hb, 0, none⟩) l := ((Bs_setCell (k := 1) (v := .int .i64 (q : Int)) HB.out (Ne.symm hne)).below (Below.refl _ _).drew).below (Below.refl _ _).drew
    refine ⟨⟨some ⟨hb, k, none⟩, by rw [← hqm]; rfl, ⟨fun _ => ⟨_, _, rfl⟩, fun b o e i hi => ?_⟩, (fun e => by cases e), (fun b o s e => by cases e; exact ⟨hb1, hb2, hne⟩)⟩, hS.out.1.drewR.drewR, grown_drew (grown_drew hS.out.2)⟩
    cases e
    have := hbs.cell hb 0 rfl (k + i) (by simp at hi; omega)
    simp only [Nat.zero_add] at this
    rw [this]; simp
/-- the place behind n bytes that are asked for -/
def stepAt (l : List UInt8) (p n : Int) : Int := if p < 0 then p else if 0 ≤ n ∧ p + n ≤ l.length then p + n else -1
/-- the bytes that are got -/
def gotAt (l : List UInt8) (p n : Int) : List UInt8 := if 0 ≤ p ∧ 0 ≤ n ∧ p + n ≤ l.length then (l.drop p.toNat).take n.toNat else []
/-- a slice that a reader hands out -/
structure Got (w : World) (base top g : Nat) (a : Option Addr) (m : List UInt8) : Prop where
  bs : Bs w a m
  nn : a = none → m.length = 0
  away : Away a base top g
theorem Got.nil (w : World) (base top g : Nat) : Got w base top g none [] := ⟨⟨fun h => absurd rfl h, fun b o e => by cases e⟩, fun _ => rfl, fun b o s e => by cases e⟩
theorem grown_refl (w : World) (r : Option Nat) : w.grownBy w r := ⟨rfl, rfl, rfl, Nat.le_refl _, fun _ _ _ => rfl⟩
def NextPost (w : World) (base top g : Nat) (l : List UInt8) (p n : Int) (e : Ending) (w' : World) : Prop :=
  (∃ a, e = .returned (.tuple #[.slice a (gotAt l p n).length (gotAt l p n).length, .bool (decide (0 ≤ stepAt l p n))]) ∧ Got w' base top g a (gotAt l p n)) ∧ Rd w' base top g l (stepAt l p n) ∧ w.grownBy w' (some g)
theorem next_any (base top g : Nat) (l : List UInt8) (p n : Int) (w : World) (h : Rd w base top g l p) (hl : l.length ≤ 140737488355328) (hp : p ≤ l.length) :
    Calls Try.prog 48 #[.pointer (some ⟨g, 0, none⟩), .int .i64 n] w (NextPost w base top g l p n) := by
  by_cases hp0 : p < 0
  · refine (next_bad base top g l p n w h hp0).mono ?_
    rintro e w' ⟨rfl, rfl⟩
    have e1 : stepAt l p n = p := by simp [stepAt, hp0]
    have e2 : gotAt l p n = [] := by unfold gotAt; rw [if_neg (by omega)]
    unfold NextPost
    rw [e1, e2]
    exact ⟨⟨none, by simp [hp0], Got.nil _ _ _ _⟩, h, grown_refl _ _⟩
  · obtain ⟨k, rfl⟩ : ∃ k : Nat, p = (k : Int) := ⟨p.toNat, by omega⟩
    by_cases hn : 0 ≤ n ∧ (k : Int) + n ≤ l.length
    · obtain ⟨m, rfl⟩ : ∃ m : Nat, n = (m : Int) := ⟨n.toNat, by omega⟩
      refine (next_ok base top g l k m w h hl (by omega)).mono ?_
      rintro e w' ⟨⟨a, rfl, hb, hn0, haw⟩, hrd, hgr⟩
      have e1 : stepAt l (k : Int) (m : Int) = ((k + m : Nat) : Int) := by simp [stepAt]; omega
      have e2 : gotAt l (k : Int) (m : Int) = (l.drop k).take m := by simp [gotAt]; omega
      have e3 : ((l.drop k).take m).length = m := by simp; omega
      unfold NextPost
      rw [e1, e2, e3]
      exact ⟨⟨a, by simp; omega, hb, by rw [e3]; exact hn0, haw⟩, hrd, hgr⟩
    · refine (next_no base top g l k n w h hl (by omega) (by omega)).mono ?_
      rintro e w' ⟨rfl, hrd, hgr⟩
      have e1 : stepAt l (k : Int) n = -1 := by unfold stepAt; rw [if_neg (by omega), if_neg hn]
      have e2 : gotAt l (k : Int) n = [] := by unfold gotAt; rw [if_neg (by omega)]
      unfold NextPost
      rw [e1, e2]
      exact ⟨⟨none, by simp, Got.nil _ _ _ _⟩, hrd, hgr⟩
theorem stepAt_le (l : List UInt8) (p n : Int) (hp : p ≤ l.length) : stepAt l p n ≤ l.length := by
  unfold stepAt; repeat' split
  all_goals omega
def BytesPost (w : World) (base top g : Nat) (l : List UInt8) (p n : Int) (e : Ending) (w' : World) : Prop :=
  (∃ a, e = .returned (.slice a (gotAt l p n).length (gotAt l p n).length) ∧ Got w' base top g a (gotAt l p n)) ∧ Rd w' base top g l (stepAt l p n) ∧ w.grownBy w' (some g)
theorem Bytes_any (base top g : Nat) (l : List UInt8) (p n : Int) (w : World) (h : Rd w base top g l p) (hl : l.length ≤ 140737488355328) (hp : p ≤ l.length) :
    Calls Try.prog 29 #[.pointer (some ⟨g, 0, none⟩), .int .i64 n] w (BytesPost w base top g l p n) := by
  have hN := next_any base top g l p n w h hl hp
  obtain ⟨m, hm⟩ : ∃ m, gotAt l p n = m := ⟨_, rfl⟩
  obtain ⟨q, hq⟩ : ∃ q, stepAt l p n = q := ⟨_, rfl⟩
  have e : ∀ e w', NextPost w base top g l p n e w' → (∃ a, e = .returned (.tuple #[.slice a m.length m.length, .bool (decide (0 ≤ q))]) ∧ Got w' base top g a m) ∧ Hid (Rd w' base top g l q ∧ w.grownBy w' (some g)) := by
    rintro e w' h; rw [← hm, ← hq]; exact h
  have HQ := Lib.hid (And.intro hm hq)
  clear hm hq
  go_enter Try.func29, Try.ntmps29
  go_wp2_with fail
  refine hN.mono ?_
  intro e1 w1 h1
  obtain ⟨⟨a, rfl, hg⟩, H⟩ := e _ _ h1
  clear e h1 hN
  go_wp2_with fail
  go_ret
  unfold BytesPost
  rw [HQ.out.1, HQ.out.2]
  exact ⟨⟨a, rfl, hg⟩, H.out⟩
theorem Get_got (a : Option Addr) (m : List UInt8) (w : World) (h : Bs w a m) (h8 : m.length ≤ 8) :
    Calls Try.prog 18 #[.slice a m.length m.length] w fun e w' => (∃ x : Int, e = .returned (.tuple #[.int .u64 ((val m : Nat) : Int), .int .i64 x])) ∧ w = w' := by
  by_cases h0 : 0 < m.length
  · refine (Get_any a m.length m w h (Nat.le_refl _) h0 h8).mono ?_
    rintro e w' ⟨rfl, rfl⟩
    exact ⟨⟨0, rfl⟩, rfl⟩
  · refine (Get_bad a m.length m.length w (by omega)).mono ?_
    rintro e w' ⟨rfl, rfl⟩
    obtain rfl : m = [] := List.eq_nil_of_length_eq_zero (by omega)
    exact ⟨⟨2, rfl⟩, rfl⟩
/-- the size that is asked for -/
def szOf (size : Int) : Int := if 0 < size ∧ size ≤ 8 then size else -1
theorem gotAt_len (l : List UInt8) (p n : Int) (k : Nat) (hn : n ≤ k) : (gotAt l p n).length ≤ k := by
  unfold gotAt
  split
  · simp; omega
  · simp
theorem szOf_le (size : Int) : szOf size ≤ ((8 : Nat) : Int) := by unfold szOf; split <;> omega
def numAt (l : List UInt8) (p size : Int) : Nat := val (gotAt l p (szOf size))
def NumberPost (w : World) (base top g : Nat) (l : List UInt8) (p n : Int) (e : Ending) (w' : World) : Prop :=
  e = .returned (.int .u64 ((numAt l p n : Nat) : Int)) ∧ Rd w' base top g l (stepAt l p (szOf n)) ∧ w.grownBy w' (some g)
theorem Number_any (base top g : Nat) (l : List UInt8) (p n : Int) (w : World) (h : Rd w base top g l p) (hl : l.length ≤ 140737488355328) (hp : p ≤ l.length) :
    Calls Try.prog 20 #[.pointer (some ⟨g, 0, none⟩), .int .i64 n] w (NumberPost w base top g l p n) := by
  have hB := Bytes_any base top g l p (szOf n) w h hl hp
  have hF := fits_any n w
  have h8 := gotAt_len l p (szOf n) 8 (szOf_le n)
  have e : ∀ e w', BytesPost w base top g l p (szOf n) e w' → ∃ a m, e = .returned (.slice a m.length m.length) ∧ Bs w' a m ∧ m.length ≤ 8 ∧ Hid (m = gotAt l p (szOf n) ∧ Rd w' base top g l (stepAt l p (szOf n)) ∧ w.grownBy w' (some g)) := by
    rintro e w' ⟨⟨a, h1, h2⟩, h3⟩
    exact ⟨a, _, h1, h2.bs, h8, rfl, h3⟩
  have HE := Lib.hid e
  clear e
  by_cases hf : 0 < n ∧ n ≤ 8
  · rw [show szOf n = n by unfold szOf; rw [if_pos hf]] at hB
    rw [show decide (0 < n ∧ n ≤ 8) = true by simpa using hf] at hF
    have HS : Hid (szOf n = n) := by show szOf n = n; unfold szOf; rw [if_pos hf]
    go_enter Try.func20, Try.ntmps20
    go_wp2_with (go_at_call 28; refine hF.mono ?_; rintro e w' ⟨rfl, rfl⟩)
    refine hB.mono ?_
    intro e1 w1 h1
    obtain ⟨a, m, rfl, hg, hm8, H⟩ := HE.out e1 w1 (by rw [HS.out]; exact h1)
    clear hB h1 hF
    have hG := Get_got a m w1 hg hm8
    go_wp2_with fail
    refine hG.mono ?_
    rintro e2 w2 ⟨⟨x, rfl⟩, rfl⟩
    clear hG
    go_wp2_with fail
    go_ret
    unfold NumberPost numAt
    rw [← H.out.1]
    exact ⟨rfl, H.out.2⟩
  · rw [show szOf n = -1 by unfold szOf; rw [if_neg hf]] at hB
    rw [show decide (0 < n ∧ n ≤ 8) = false by simpa using hf] at hF
    have HS : Hid (szOf n = -1) := by show szOf n = -1; unfold szOf; rw [if_neg hf]
    clear hf
    go_enter Try.func20, Try.ntmps20
    go_wp2_with (go_at_call 28; refine hF.mono ?_; rintro e w' ⟨rfl, rfl⟩)
    refine hB.mono ?_
    intro e1 w1 h1
    obtain ⟨a, m, rfl, hg, hm8, H⟩ := HE.out e1 w1 (by rw [HS.out]; exact h1)
    clear hB h1 hF
    have hG := Get_got a m w1 hg hm8
    go_wp2_with fail
    refine hG.mono ?_
    rintro e2 w2 ⟨⟨x, rfl⟩, rfl⟩
    clear hG
    go_wp2_with fail
    go_ret
    unfold NumberPost numAt
    rw [← H.out.1]
    exact ⟨rfl, H.out.2⟩
/-- what a look at a reader leaves -/
def Look (w : World) (base top g : Nat) (l : List UInt8) (p : Int) (w' : World) : Prop := Rd w' base top g l p ∧ w.grownBy w' (some g)
theorem Look.refl {w : World} {base top g : Nat} {l : List UInt8} {p : Int} (h : Rd w base top g l p) : Look w base top g l p w := ⟨h, grown_refl _ _⟩
/-- a blob's bytes -/
def blobAt (l : List UInt8) (p : Int) : List UInt8 := if stepAt l p 2 < 0 then [] else gotAt l (stepAt l p 2) (val (gotAt l p 2))
def blobStep (l : List UInt8) (p : Int) : Int := if stepAt l p 2 < 0 then stepAt l p 2 else stepAt l (stepAt l p 2) (val (gotAt l p 2))
theorem got_two (l : List UInt8) (p : Int) (h : 0 ≤ stepAt l p 2) : ∃ a b, gotAt l p 2 = [a, b] := by
  unfold stepAt at h
  split at h
  · omega
  · split at h
    · unfold gotAt
      rw [if_pos (by omega)]
      have : ((l.drop p.toNat).take (2 : Int).toNat).length = 2 := by simp; omega
      generalize (l.drop p.toNat).take (2 : Int).toNat = L at this
      match L, this with
      | [a, b], _ => exact ⟨a, b, rfl⟩
    · omega
def BlobPost (w : World) (base top g : Nat) (l : List UInt8) (p : Int) (e : Ending) (w' : World) : Prop :=
  (∃ a, e = .returned (.slice a (blobAt l p).length (blobAt l p).length) ∧ Got w' base top g a (blobAt l p)) ∧ Rd w' base top g l (blobStep l p) ∧ w.grownBy w' (some g)
theorem grown_trans {w a b : World} {r : Option Nat} (h : w.grownBy a r) (k : a.grownBy b r) : w.grownBy b r :=
  ⟨k.os.trans h.os, k.tape.trans h.tape, k.output.trans h.output, Nat.le_trans h.size k.size, fun j hj hne => (k.block j (Nat.lt_of_lt_of_le hj h.size) hne).trans (h.block j hj hne)⟩
set_option maxHeartbeats 800000 in
theorem rBlob_any (base top g : Nat) (l : List UInt8) (p : Int) (w : World) (h : Rd w base top g l p) (hl : l.length ≤ 140737488355328) (hp : p ≤ l.length) :
    Calls Try.prog 49 #[.pointer (some ⟨g, 0, none⟩)] w (BlobPost w base top g l p) := by
  have hN := next_any base top g l p 2 w h hl hp
  by_cases hq : stepAt l p 2 < 0
  · have e : ∀ e w', NextPost w base top g l p 2 e w' → (∃ a m, e = .returned (.tuple #[.slice a m m, .bool false])) ∧ Hid (Rd w' base top g l (stepAt l p 2) ∧ w.grownBy w' (some g)) := by
      rintro e w' ⟨⟨a, h1, _⟩, h2⟩
      rw [show decide (0 ≤ stepAt l p 2) = false by simpa using hq] at h1
      exact ⟨⟨a, _, h1⟩, h2⟩
    have H1 : Hid (blobAt l p = []) := by show _ = _; unfold blobAt; rw [if_pos hq]
    have H2 : Hid (blobStep l p = stepAt l p 2) := by show _ = _; unfold blobStep; rw [if_pos hq]
    clear hq
    go_enter Try.func49, Try.ntmps49
    go_wp2_with fail
    refine hN.mono ?_
    intro e1 w1 h1
    obtain ⟨⟨a, m, rfl⟩, H⟩ := e _ _ h1
    clear e h1 hN
    go_wp2_with fail
    go_ret
    unfold BlobPost
    rw [H1.out, H2.out]
    exact ⟨⟨none, rfl, Got.nil _ _ _ _⟩, H.out⟩
  · obtain ⟨x, y, hxy⟩ := got_two l p (by omega)
    have hq1 := stepAt_le l p 2 hp
    have e : ∀ e w', NextPost w base top g l p 2 e w' → ∃ a, e = .returned (.tuple #[.slice a 2 2, .bool true]) ∧ Bs w' a [x, y] ∧ Hid (Rd w' base top g l (stepAt l p 2) ∧ w.grownBy w' (some g)) := by
      rintro e w' ⟨⟨a, h1, h3⟩, h2⟩
      rw [show decide (0 ≤ stepAt l p 2) = true by simp; omega] at h1
      rw [hxy] at h1 h3
      exact ⟨a, h1, h3.bs, h2⟩
    have H1 : Hid (blobAt l p = gotAt l (stepAt l p 2) (val [x, y])) := by show _ = _; unfold blobAt; rw [if_neg hq, hxy]
    have H2 : Hid (blobStep l p = stepAt l (stepAt l p 2) (val [x, y])) := by show _ = _; unfold blobStep; rw [if_neg hq, hxy]
    have hv : ((val [x, y] : Nat) : Int) = (x.toNat : Int) * 256 + (y.toNat : Int) := by simp [val]
    have hB := fun w' (h' : Rd w' base top g l (stepAt l p 2)) => Bytes_any base top g l (stepAt l p 2) (val [x, y]) w' h' hl hq1
    rw [hv] at hB H1 H2
    clear hv hq hxy hq1
    have hx := x.toNat_lt
    have hy := y.toNat_lt
    have HB := Lib.hid hB
    clear hB
    go_enter Try.func49, Try.ntmps49
    go_wp2_with fail
    refine hN.mono ?_
    intro e1 w1 h1
    obtain ⟨a, rfl, hbs, H⟩ := e _ _ h1
    clear e h1 hN
    obtain ⟨b, o, rfl⟩ := hbs.ex (k := 0) (by simp)
    have d0 := hbs.cell b o rfl 0 (by simp)
    have d1 := hbs.cell b o rfl 1 (by simp)
    simp at d0 d1
    clear hbs
    go_wp2_with fail
    go_still_tail 11, (by kernel_rfl)
    change wpList _ _ _ _ _ w1.drew
    have k1 : IntKind.i64.wrap (x.toNat : Int) = x.toNat := by rw [IntKind.wrap_i64]; omega
    have k2 : IntKind.i64.wrap (y.toNat : Int) = y.toNat := by rw [IntKind.wrap_i64]; omega
    have k3 : IntKind.i64.wrap ((x.toNat : Int) * 256) = (x.toNat : Int) * 256 := by rw [IntKind.wrap_i64]; omega
    have k4 : IntKind.i64.wrap ((x.toNat : Int) * 256 + (y.toNat : Int)) = (x.toNat : Int) * 256 + (y.toNat : Int) := by rw [IntKind.wrap_i64]; omega
    rw [k1, k2, k3, k4]
    clear k1 k2 k3 k4
    have hB := HB.out w1.drew H.out.1.drewR
    go_wp2_with fail
    refine hB.mono ?_
    clear hB
    intro e2 w2 h2
    have H3 : Hid _ := h2
    obtain ⟨⟨a2, rfl, hg2⟩, _⟩ := h2
    go_wp2_with fail
    go_ret
    unfold BlobPost
    rw [H1.out, H2.out]
    have h3 := H3.out
    unfold BytesPost at h3
    exact ⟨⟨a2, rfl, hg2⟩, h3.2.1, grown_trans H.out.2 (grown_trans (grown_drew (grown_refl _ _)) h3.2.2)⟩
end Go.Proofs.Ytokijkinlcdjeaa

/- Contracts of wire's readers, go on: the next bytes. -/
import Derived.Test.YtcfcdnoebgdfeaaWalkE
namespace Go.Proofs.Ytcfcdnoebgdfeaa
open Go.RowKit WireM

/-- what an address must be clear of -/
def Away (a : Option Addr) (base top g : Nat) : Prop := ∀ b o s, a = some ⟨b, o, s⟩ → base ≤ b ∧ b < top ∧ b ≠ g
set_option maxRecDepth 100000 in
set_option maxHeartbeats 800000 in
theorem next_ok (base top g : Nat) (l : List UInt8) (k m : Nat) (w : World) (h : Rd w base top g l k) (hl : l.length ≤ 140737488355328) (hkm : k + m ≤ l.length) :
    Calls Try.prog 38 #[.pointer (some ⟨g, 0, none⟩), .int .i64 m] w fun e w' => (∃ a, e = .returned (.tuple #[.slice a m m, .bool true]) ∧ Bs w' a ((l.drop k).take m) ∧ (a = none → m = 0) ∧ Away a base top g) ∧ Rd w' base top g l ((k + m : Nat) : Int) ∧ w.grownBy w' (some g) := by
  have hF := Failed_any base top g l k w h
  rw [show decide ((k : Int) < 0) = false by simp] at hF
  have hS := Lib.hid (h.set ((k + m : Nat) : Int))
  obtain ⟨hb, cap, hg, hne, hown, hb1, hb2⟩ := h.cells
  have c0 := cell_of_row w g 0 _ _ _ hg
  have c1 := cell_of_row w g 1 _ _ _ hg
  have f1 := frozen_of_row w g 1 _ _ hg
  obtain ⟨_, _, e0, hBs, hcap, _⟩ := hown.form
  cases e0
  have HB := Lib.hid hBs
  clear hBs
  have hmI : (m : Int) ≤ (l.length : Int) - (k : Int) := by omega
  have hadd : (k : Int) + (m : Int) = ((k + m : Nat) : Int) := by omega
  obtain ⟨q, hq⟩ : ∃ q, k + m = q := ⟨_, rfl⟩
  rw [hq] at hS hadd hkm ⊢
  have hkq : k ≤ q := by omega
  have HQ := Lib.hid hq
  simp at c0 c1
  clear hown hg h hq
  go_enter Try.func38, Try.ntmps38
  go_wp2_with (go_at_call 21; refine hF.mono ?_; rintro e w' ⟨rfl, rfl⟩)
  go_big_region
  go_wp2_with fail
  go_big_region
  go_wp2_with fail
  · go_ret2
    have hm0 : m = 0 := by have := HQ.out; omega
    have hqk : q = k := by have := HQ.out; omega
    subst hm0
    subst hqk
    exact ⟨⟨_, rfl, ⟨fun h => absurd (by simp) h, fun b o e i hi => by simp at hi⟩, fun _ => rfl, fun b o s e => by cases e; exact ⟨hb1, hb2, hne⟩⟩, hS.out.1.drewR.drewR, grown_drew (grown_drew hS.out.2)⟩
  · go_ret2
    have hqm : q - k = m := by have := HQ.out; omega
    have hbs : Bs ((w.setCell ⟨g, 1, none⟩ (.int .i64 (q : Int))).drew.drew) (some ⟨hb, 0, none⟩) l := ((Bs_setCell (k := 1) (v := .int .i64 (q : Int)) HB.out (Ne.symm hne)).below (Below.refl _ _).drew).below (Below.refl _ _).drew
    refine ⟨⟨some ⟨hb, k, none⟩, by rw [← hqm]; rfl, ⟨fun _ => ⟨_, _, rfl⟩, fun b o e i hi => ?_⟩, (fun e => by cases e), (fun b o s e => by cases e; exact ⟨hb1, hb2, hne⟩)⟩, hS.out.1.drewR.drewR, grown_drew (grown_drew hS.out.2)⟩
    cases e
    have := hbs.cell hb 0 rfl (k + i) (by simp at hi; omega)
    simp only [Nat.zero_add] at this
    rw [this]; simp
/-! ### one contract for each reader -/
/-- the place behind n bytes that are asked for -/
def stepAt (l : List UInt8) (p n : Int) : Int := if p < 0 then p else if 0 ≤ n ∧ p + n ≤ l.length then p + n else -1
/-- the bytes that are got -/
def gotAt (l : List UInt8) (p n : Int) : List UInt8 := if 0 ≤ p ∧ 0 ≤ n ∧ p + n ≤ l.length then (l.drop p.toNat).take n.toNat else []
/-- a slice that a reader hands out -/
structure Got (w : World) (base top g : Nat) (a : Option Addr) (m : List UInt8) : Prop where
  bs : Bs w a m
  nn : a = none → m.length = 0
  away : Away a base top g
theorem Got.nil (w : World) (base top g : Nat) : Got w base top g none [] := ⟨⟨fun h => absurd rfl h, fun b o e => by cases e⟩, fun _ => rfl, fun b o s e => by cases e⟩
theorem grown_refl (w : World) (r : Option Nat) : w.grownBy w r := ⟨rfl, rfl, rfl, Nat.le_refl _, fun _ _ _ => rfl⟩
def NextPost (w : World) (base top g : Nat) (l : List UInt8) (p n : Int) (e : Ending) (w' : World) : Prop :=
  (∃ a, e = .returned (.tuple #[.slice a (gotAt l p n).length (gotAt l p n).length, .bool (decide (0 ≤ stepAt l p n))]) ∧ Got w' base top g a (gotAt l p n)) ∧ Rd w' base top g l (stepAt l p n) ∧ w.grownBy w' (some g)
theorem next_any (base top g : Nat) (l : List UInt8) (p n : Int) (w : World) (h : Rd w base top g l p) (hl : l.length ≤ 140737488355328) (hp : p ≤ l.length) :
    Calls Try.prog 38 #[.pointer (some ⟨g, 0, none⟩), .int .i64 n] w (NextPost w base top g l p n) := by
  by_cases hp0 : p < 0
  · refine (next_bad base top g l p n w h hp0).mono ?_
    rintro e w' ⟨rfl, rfl⟩
    have e1 : stepAt l p n = p := by simp [stepAt, hp0]
    have e2 : gotAt l p n = [] := by unfold gotAt; rw [if_neg (by omega)]
    unfold NextPost
    rw [e1, e2]
    exact ⟨⟨none, by simp [hp0], Got.nil _ _ _ _⟩, h, grown_refl _ _⟩
  · obtain ⟨k, rfl⟩ : ∃ k : Nat, p = (k : Int) := ⟨p.toNat, by omega⟩
    by_cases hn : 0 ≤ n ∧ (k : Int) + n ≤ l.length
    · obtain ⟨m, rfl⟩ : ∃ m : Nat, n = (m : Int) := ⟨n.toNat, by omega⟩
      refine (next_ok base top g l k m w h hl (by omega)).mono ?_
      rintro e w' ⟨⟨a, rfl, hb, hn0, haw⟩, hrd, hgr⟩
      have e1 : stepAt l (k : Int) (m : Int) = ((k + m : Nat) : Int) := by simp [stepAt]; omega
      have e2 : gotAt l (k : Int) (m : Int) = (l.drop k).take m := by simp [gotAt]; omega
      have e3 : ((l.drop k).take m).length = m := by simp; omega
      unfold NextPost
      rw [e1, e2, e3]
      exact ⟨⟨a, by simp; omega, hb, by rw [e3]; exact hn0, haw⟩, hrd, hgr⟩
    · refine (next_no base top g l k n w h hl (by omega) (by omega)).mono ?_
      rintro e w' ⟨rfl, hrd, hgr⟩
      have e1 : stepAt l (k : Int) n = -1 := by unfold stepAt; rw [if_neg (by omega), if_neg hn]
      have e2 : gotAt l (k : Int) n = [] := by unfold gotAt; rw [if_neg (by omega)]
      unfold NextPost
      rw [e1, e2]
      exact ⟨⟨none, by simp, Got.nil _ _ _ _⟩, hrd, hgr⟩
theorem stepAt_le (l : List UInt8) (p n : Int) (hp : p ≤ l.length) : stepAt l p n ≤ l.length := by
  unfold stepAt; repeat' split
  all_goals omega
end Go.Proofs.Ytcfcdnoebgdfeaa

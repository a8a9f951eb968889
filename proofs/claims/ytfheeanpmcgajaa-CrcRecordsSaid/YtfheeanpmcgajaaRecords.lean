/- The walk of understudylaw02.CrcRecords: it returns true for any lists of bytes and any word. -/
import Derived.Test.YtfheeanpmcgajaaOwn
import Derived.Deep.RegionHeld3
import Derived.WalkLawsBesides
namespace Go.Proofs.Ytfheeanpmcgajaa
open Go.RowKit CrcM

theorem BBs.belowB {B : Nat} {w w' : World} {a : Option Addr} {L : List (List UInt8)} (hs : w.heap.size = B) (h : BBs w a L) (hb : Below B w w') : BBs w' a L := by
  subst hs; exact h.below hb

set_option maxRecDepth 100000 in
set_option maxHeartbeats 1600000 in
theorem records_any (a : Option Addr) (ca : Nat) (L : List (List UInt8)) (s : W) (w : World) (h : BBs w a L) (hlen : L.length ≤ 9223372036854775807)
    (hcap : ∀ b o, a = some ⟨b, o, none⟩ → ∀ i (hi : i < L.length), ∀ ai ci, w.cell? ⟨b, o + i, none⟩ = some (.slice ai (L[i]).length ci) → (L[i]).length ≤ ci ∧ (ai = none → ci = 0)) :
    Calls Try.prog 4 #[.slice a L.length ca, .int .u32 (c32 s)] w fun e w' => e = .returned (.bool true) ∧ Below w.heap.size w w' := by
  go_enter Try.func4, Try.ntmps4
  go_wp2
  go_loopw [5, 6] (fun v i wr => ∃ k : Nat, k ≤ L.length ∧ i = .int .i64 k ∧ OwnB wr w.heap.size v (L.take k).flatten ∧ Below w.heap.size w wr ∧ (L.take k).flatten.length ≤ 20000) (fun _ i _ => L.length - (intOf i).toNat)
  case atStart => exact ⟨0, by omega, rfl, OwnB.nil _ _, Below.refl _ _, by simp⟩
  case round =>
    obtain ⟨k, hk, rfl, hown, hbel, hsm⟩ := hrel
    by_cases hlt : k < L.length
    · obtain ⟨b, o, rfl⟩ := h.ex hlt
      obtain ⟨ai, ci, hc, hp, hpl⟩ := (h.belowB rfl hbel).cell b o rfl k hlt
      have hsz := hbel.size
      have hcc := hcap b o rfl k hlt ai ci (((h.cell b o rfl k hlt).elim fun ai' h' => h'.elim fun ci' h' => by
        have := hbel.cell (p := ⟨b, o + k, none⟩) (block_lt_of_cell h'.1)
        rw [← this]; exact hc))
      have hts := Lib.hid (flatten_take_snoc L k hlt)
      obtain ⟨l, hll⟩ : ∃ l, L[k] = l := ⟨_, rfl⟩
      rw [hll] at hc hp hpl hts hcc
      have HC := Lib.hid hll; clear hll
      have hd : decide ((k : Int) < (L.length : Int)) = true := by simp; omega
      have hl0 : (0 : Int) ≤ (l.length : Int) ∧ (l.length : Int) ≤ (ci : Int) := by omega
      have hpd : Bs wr.drew ai l := ⟨hp.addr, hp.cell⟩
      have hownd : OwnB wr.drew w.heap.size u5 (L.take k).flatten := hown
      have hbr : b < wr.heap.size := block_lt_of_cell hc
      have hbw : b < w.heap.size := (h.cell b o rfl k hlt).elim fun ai' h' => h'.elim fun ci' h' => block_lt_of_cell h'.1
      have hne : some b ≠ u5.ownBlock := fun e => by have := (hown.lt b e.symm).1; omega
      by_cases h20 : l.length ≤ 20001
      · have hm0 : ((20001 : Int) < (l.length : Int)) = False := by simp; omega
        clear hcap h
        go_wp2_with fail
        go_region_held3 (fun w' => w'.cell? ⟨b, o + k, none⟩ = some (.slice ai l.length ci)) (first | exact hc | exact (World.cell?_of_block (hgrow.block b hbr hne)).trans hc) ((refine step_append_b rfl _ _ rfl w.heap.size u5 _ rfl hownd ai l l.length ci rfl rfl hpd hcc.2 (by omega) hsz ?_; intro v' w' hown' hgrow))
        have hbel' : Below w.heap.size w w' := below_grown_own (hbel.drew) hsz hownd hgrow
        obtain ⟨A, hA⟩ : ∃ A, (L.take k).flatten ++ l = A := ⟨_, rfl⟩
        rw [hA] at hown'
        have HA := Lib.hid hA
        clear hA hownd hpd hc hp
        obtain ⟨a', c', rfl, hb', hc', hn'⟩ := hown'.form
        clear hgrow hown
        by_cases h2 : A.length ≤ 20000
        · have hg : decide ((20000 : Int) < (A.length : Int)) = false := by simp; omega
          go_wp2
          go_roundw
          case rel => exact ⟨k + 1, by omega, by go_num, by rw [hts.out, HA.out]; exact hown', hbel', by rw [hts.out, HA.out]; exact h2⟩
          case measure => simp [intOf]; omega
        · have hg : decide ((20000 : Int) < (A.length : Int)) = true := by simp; omega
          go_wp2_with (go_at_call 7; refine (known_any _).mono ?_; rintro e w3 ⟨rfl, hb3⟩)
          go_ret
          exact ⟨rfl, belT hbel' hb3⟩
      · have hm0 : ((20001 : Int) < (l.length : Int)) = True := by simp; omega
        have hci : (20001 : Int) ≤ (ci : Int) := by omega
        have hpt : Bs wr.drew ai (l.take 20001) := ⟨fun _ => hp.addr (by intro e; rw [e] at h20; simp at h20), fun b o e i hi => by
          rw [List.getElem_take]; exact hp.cell b o e i (by simp at hi; omega)⟩
        have htl : (l.take 20001).length = 20001 := by simp; omega
        clear hcap h
        go_wp2_with fail
        go_region_held3 (fun w' => w'.cell? ⟨b, o + k, none⟩ = some (.slice ai l.length ci)) (first | exact hc | exact (World.cell?_of_block (hgrow.block b hbr hne)).trans hc) ((refine step_append_b rfl _ _ rfl w.heap.size u5 _ rfl hownd ai (l.take 20001) 20001 ci rfl htl.symm hpt hcc.2 (by rw [htl]; omega) hsz ?_; intro v' w' hown' hgrow))
        have hbel' : Below w.heap.size w w' := below_grown_own (hbel.drew) hsz hownd hgrow
        obtain ⟨A, hA⟩ : ∃ A, (L.take k).flatten ++ l.take 20001 = A := ⟨_, rfl⟩
        have hAl : 20000 < A.length := by rw [← hA, List.length_append, htl]; omega
        rw [hA] at hown'
        clear hownd hpd hc hp htl hpt hA
        obtain ⟨a', c', rfl, hb', hc', hn'⟩ := hown'.form
        have hg : decide ((20000 : Int) < (A.length : Int)) = true := by simp; omega
        clear hgrow hown
        go_wp2_with (go_at_call 7; refine (known_any _).mono ?_; rintro e w3 ⟨rfl, hb3⟩)
        go_ret
        exact ⟨rfl, belT hbel' hb3⟩
    · have hd0 : decide ((k : Int) < (L.length : Int)) = false := by simp; omega
      have hkl : L.take k = L := List.take_of_length_le (by omega)
      rw [hkl] at hown hsm
      obtain ⟨A, hA⟩ : ∃ A, L.flatten = A := ⟨_, rfl⟩
      rw [hA] at hown hsm
      have HA := Lib.hid hA
      obtain ⟨a1, c1, rfl, hb1, hc1, hn1⟩ := hown.form
      have hL := h.belowB rfl hbel
      clear hkl hown hcap h hA
      go_wp2_with (go_at_call 9; refine (Sum_none _).mono ?_; rintro e w2 ⟨rfl, hb2⟩)
      clear hlt hk hd0
      go_loopw [7, 8, 9] (fun x y i wi => ∃ k : Nat, k ≤ L.length ∧ i = .int .i64 k ∧ x = .int .u32 (c32 (sum (L.take k).flatten)) ∧ y = .int .u32 (c32 (more s (L.take k).flatten)) ∧ Below w2.heap.size w2 wi) (fun _ _ i _ => L.length - (intOf i).toNat)
      case atStart => exact ⟨0, by omega, rfl, rfl, by rw [List.take_zero]; show _ = Value.int .u32 (c32 (more s [])); unfold more; rw [R_nil, BitVec.xor_assoc]; simp, Below.refl _ _⟩
      case round =>
        obtain ⟨wi, rfl⟩ : ∃ wi : World, wi = wr := ⟨_, rfl⟩
        obtain ⟨k, hk, rfl, rfl, rfl, hbi⟩ := hrel
        by_cases hlt : k < L.length
        · obtain ⟨b, o, rfl⟩ := hL.ex hlt
          obtain ⟨ai, ci, hc, hp, hpl⟩ := ((hL.below hb2).below hbi).cell b o rfl k hlt
          have hts := Lib.hid (flatten_take_snoc L k hlt)
          obtain ⟨l, hll⟩ : ∃ l, L[k] = l := ⟨_, rfl⟩
          rw [hll] at hc hp hpl hts
          have HC := Lib.hid hll; clear hll
          obtain ⟨F, hF⟩ : ∃ F, (L.take k).flatten = F := ⟨_, rfl⟩
          rw [hF] at hts
          have HF := Lib.hid hF
          rw [hF]
          clear hF
          have hpd : Bs wi.drew ai l := ⟨hp.addr, hp.cell⟩
          have hcd : wi.drew.cell? ⟨b, o + k, none⟩ = some (.slice ai l.length ci) := hc
          have hk0 : (0 : Int) ≤ (k : Int) ∧ (k : Int) < (L.length : Int) := by omega
          have hd2 : decide ((k : Int) < (L.length : Int)) = true := by simp; omega
          go_wp2_with fail
          go_region_held3 (fun w' => w'.cell? ⟨b, o + k, none⟩ = some (.slice ai l.length ci)) (first | exact hc | exact Below.cellSome hX hcd | exact Below.cellSome hY (Below.cellSome hX hcd)) (first | (go_at_call 12; refine (More_any _ _ _ l _ hpd hpl).mono ?_; rintro e wX ⟨rfl, hX⟩) | (go_at_call 12; refine (More_any _ _ _ l _ (hpd.below hX) hpl).mono ?_; rintro e wY ⟨rfl, hY⟩))
          have hbi2 : Below w2.heap.size w2 wY := belT (belT hbi.drew hX) hY
          clear hpd hcd hc hp
          go_wp2
          go_roundw
          case rel => exact ⟨k + 1, by omega, by go_num, by rw [hts.out]; exact congrArg (fun x => Value.int .u32 (c32 x)) (more_append 0#32 F l).symm, by rw [hts.out, more_append], hbi2⟩
          case measure => simp [intOf]; omega
        · have hkl : L.take k = L := List.take_of_length_le (by omega)
          rw [hkl, HA.out]
          have hLi := (hL.below hb2).below hbi
          have hbA := (hb1.below hb2).below hbi
          have hS := Sum_any a ca L wi hLi hlen
          rw [HA.out] at hS
          clear hkl hL
          go_wp2_with (first | (go_at_call 9; refine hS.mono ?_; rintro e w3 ⟨rfl, hb3⟩; clear hS) | (go_at_call 8; refine (refSum_any _ _ A _ (hbA.below hb3) (by omega)).mono ?_; rintro e w4 ⟨rfl, rfl⟩) | (go_at_call 13; refine (refMore_any _ _ _ A _ (hbA.below hb3) (by omega)).mono ?_; rintro e w4 ⟨rfl, rfl⟩) | (go_at_call 12; refine (More_any _ _ _ A _ (hbA.below hb3) (by omega)).mono ?_; rintro e w4 ⟨rfl, hb4⟩) | (go_at_call 7; refine (known_any _).mono ?_; rintro e w5 ⟨rfl, hb5⟩))
          go_ret
          exact ⟨rfl, belT (belT (belT (belT (belT hbel hb2) hbi) hb3) hb4) hb5⟩
end Go.Proofs.Ytfheeanpmcgajaa

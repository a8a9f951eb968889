/- Contract of flip of understudylaw02: a bit of bytes that the call itself has made is turned. -/
import Derived.Test.YtfheeanpmcgajaaOwn
import Derived.WalkLawsBesides
namespace Go.Proofs.Ytfheeanpmcgajaa
open Go.RowKit CrcM

/-- a bit's place: modulo all bits -/
def place (n : Int) (l : List UInt8) : Nat := (n.emod (8 * l.length)).toNat
theorem place_lt (n : Int) (l : List UInt8) (h : 0 < l.length) : place n l < 8 * l.length := by
  unfold place
  have h1 := Int.emod_nonneg n (show (8 * (l.length : Int)) ≠ 0 by omega)
  have h2 := Int.emod_lt_of_pos n (show 0 < (8 * (l.length : Int)) by omega)
  show (n % (8 * (l.length : Int))).toNat < _
  omega
theorem shl_u8 (j : Nat) (h : j < 8) : IntKind.u8.wrap (2 ^ j) = (((1 : UInt8) <<< UInt8.ofNat j).toNat : Int) := by
  have : ∀ j : Fin 8, IntKind.u8.wrap (2 ^ j.1) = (((1 : UInt8) <<< UInt8.ofNat j.1).toNat : Int) := by decide
  exact this ⟨j, h⟩
theorem xor_u8 (a b : UInt8) : bits .xor .u8 (a.toNat : Int) (b.toNat : Int) = ((a ^^^ b).toNat : Int) := by
  rw [xor_u8_nat _ _ a.toNat_lt b.toNat_lt]; simp
theorem OwnB.set {w : World} {base g cap : Nat} {l : List UInt8} {n : Nat} (hn : n = l.length) (h : OwnB w base (.slice (some ⟨g, 0, none⟩) n cap) l) (i : Nat) (hi : i < l.length) (c : UInt8) :
    OwnB (w.setCell ⟨g, i, none⟩ (.int .u8 (c.toNat : Int))) base (.slice (some ⟨g, 0, none⟩) n cap) (l.set i c) ∧ w.grownBy (w.setCell ⟨g, i, none⟩ (.int .u8 (c.toNat : Int))) (some g) := by
  subst hn
  rcases h.2 with ⟨h', _⟩ | ⟨g', cap', cur, h', hb, hg, hn, hm, hs, ht⟩
  · simp at h'
  · simp only [Value.slice.injEq, Option.some.injEq, Addr.mk.injEq, and_true, true_and] at h'
    obtain ⟨rfl, rfl⟩ := h'
    have hcur : i < cur.size := by rw [hs]; omega
    refine ⟨⟨by rw [bv_length]; simp, .inr ⟨g, cap, cur.setIfInBounds i (.int .u8 (c.toNat : Int)), by rw [List.length_set], hb, heap_setCell_same _ _ _ _ _ _ hg, by rw [List.length_set]; exact hn, hm, by simp [hs], ?_⟩⟩, ⟨rfl, rfl, rfl, by simp [World.setCell], fun k _ hne => Below.heap_setCell _ _ _ _ (fun e => hne (by rw [e]))⟩⟩
    rw [Array.toList_setIfInBounds, List.take_set, List.length_set, ht]
    simp [bv, List.map_set]
theorem OwnB.cell {w : World} {base g cap n : Nat} {l : List UInt8} (hn : n = l.length) (h : OwnB w base (.slice (some ⟨g, 0, none⟩) n cap) l) (i : Nat) (hi : i < l.length) :
    w.cell? ⟨g, i, none⟩ = some (.int .u8 (l[i].toNat : Int)) ∧ w.frozen? ⟨g, i, none⟩ = false := by
  subst hn
  refine ⟨(h.cellAt i (by omega)).trans (bv_get l i hi), ?_⟩
  rcases h.2 with ⟨h', _⟩ | ⟨g', cap', cur, h', hb, hg, _⟩
  · simp at h'
  · simp only [Value.slice.injEq, Option.some.injEq, Addr.mk.injEq, and_true, true_and] at h'
    obtain ⟨rfl, rfl⟩ := h'
    exact frozen_of_row _ _ _ _ _ hg
set_option maxRecDepth 100000 in
set_option maxHeartbeats 800000 in
theorem flip_any (g cap base : Nat) (l : List UInt8) (n : Int) (w : World) (h : OwnB w base (.slice (some ⟨g, 0, none⟩) l.length cap) l) (h0 : 0 < l.length) (h9 : l.length ≤ 9000)
    (hn : -9223372036854775808 ≤ n ∧ n ≤ 9223372036854775807) :
    Calls Try.prog 16 #[.slice (some ⟨g, 0, none⟩) l.length cap, .int .i64 n] w fun e w' => e = .returned (.tuple #[]) ∧ OwnB w' base (.slice (some ⟨g, 0, none⟩) l.length cap) (flipL l (place n l)) ∧ w.grownBy w' (some g) := by
  have hp := place_lt n l h0
  obtain ⟨p, hpe⟩ : ∃ p, place n l = p := ⟨_, rfl⟩
  have hpi : n % (8 * (l.length : Int)) = (p : Int) := by
    rw [← hpe]; unfold place
    have h1 := Int.emod_nonneg n (show (8 * (l.length : Int)) ≠ 0 by omega)
    show n % (8 * (l.length : Int)) = ((n % (8 * (l.length : Int))).toNat : Int)
    omega
  rw [hpe] at hp ⊢
  clear hpe
  have hpl : p / 8 < l.length := by omega
  obtain ⟨hc, hf⟩ := h.cell rfl (p / 8) hpl
  have hst := h.set rfl (p / 8) hpl (l[p / 8] ^^^ (1 <<< UInt8.ofNat (p % 8)))
  have hfl : flipL l p = l.set (p / 8) (l[p / 8] ^^^ (1 <<< UInt8.ofNat (p % 8))) := by
    unfold flipL
    rw [List.getD_eq_getElem?_getD, List.getElem?_eq_getElem hpl]; rfl
  rw [hfl]
  have HST := Lib.hid hst
  clear hst hfl h
  obtain ⟨c, hcc⟩ : ∃ c, l[p / 8] = c := ⟨_, rfl⟩
  rw [hcc] at hc HST ⊢
  clear hcc
  have hsh : (2 : Int) ^ (p % 8) % 256 = (((1 : UInt8) <<< UInt8.ofNat (p % 8)).toNat : Int) := by
    have := shl_u8 (p % 8) (by omega)
    rw [IntKind.wrap_u8] at this; exact this
  have hx := xor_u8 c (1 <<< UInt8.ofNat (p % 8))
  have hX : bits .xor .u8 (c.toNat : Int) ((2 : Int) ^ (p % 8) % 256) = ((c ^^^ 1 <<< UInt8.ofNat (p % 8)).toNat : Int) := by
    rw [← hx]
    rw [hsh]
  have HX := Lib.hid hX
  clear hX hx hsh
  have hcb : 0 ≤ (c.toNat : Int) ∧ (c.toNat : Int) ≤ 255 := by have := c.toNat_lt; omega
  have hpI : (0 : Int) ≤ (p : Int) ∧ (p : Int) < 8 * (l.length : Int) := by omega
  by_cases hn0 : 0 ≤ n
  · go_enter Try.func16, Try.ntmps16
    go_wp2
    go_end0
    rw [HX.out]
    exact ⟨rfl, HST.out.1, HST.out.2⟩
  · have hm := Int.tmod_eq_emod (a := n) (b := 8 * (l.length : Int))
    rw [hpi] at hm
    obtain ⟨q, hq⟩ : ∃ q, n.tmod (8 * (l.length : Int)) = q := ⟨_, rfl⟩
    rw [hq] at hm
    have hq2 : (q = 0 ∧ (p : Int) = 0) ∨ (q < 0 ∧ -(8 * (l.length : Int)) < q ∧ q + 8 * (l.length : Int) = p) := by
      split at hm
      · next hd =>
        rcases hd with hd | hd
        · omega
        · have : (p : Int) = 0 := by rw [← hpi]; exact Int.emod_eq_zero_of_dvd hd
          omega
      · have h8 : (8 * (l.length : Int)).natAbs = 8 * l.length := by omega
        rw [h8] at hm
        by_cases hz : (p : Int) = 0
        · exfalso
          rename_i hnd
          exact hnd (.inr (Int.dvd_of_emod_eq_zero (hpi.trans hz)))
        · omega
    clear hm
    rcases hq2 with ⟨hqa, hqb⟩ | ⟨hqa, hqb, hqc⟩
    · have hp0 : p = 0 := by omega
      subst hp0
      have hX0 : bits .xor .u8 (c.toNat : Int) 1 = ((c ^^^ 1).toNat : Int) := xor_u8 c 1
      have HX0 := Lib.hid hX0
      clear hX0
      rw [hqa] at hq
      clear hqa hqb
      go_enter Try.func16, Try.ntmps16
      go_wp2
      go_end0
      rw [HX0.out]
      exact ⟨rfl, HST.out.1, HST.out.2⟩
    · go_enter Try.func16, Try.ntmps16
      go_wp2
      go_end0
      rw [HX.out]
      exact ⟨rfl, HST.out.1, HST.out.2⟩
end Go.Proofs.Ytfheeanpmcgajaa

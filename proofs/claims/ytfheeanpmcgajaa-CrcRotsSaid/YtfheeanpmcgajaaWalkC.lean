/- Contracts of the reference step and of through, for any word and any row of 32 words. -/
import Derived.Test.YtfheeanpmcgajaaWalkB
import Derived.Deep.RegionHeld3
import Derived.Deep.RegionWith
import Derived.Deep.LoopGhost
namespace Go.Proofs.Ytfheeanpmcgajaa
open Go.RowKit CrcM

/-! ### the reference -/
theorem mod_two (p : W) : (c32 p % 2 == 1) = p.getLsbD 0 := by
  have e : p.getLsbD 0 = decide (p.toNat % 2 = 1) := by
    show p.toNat.testBit 0 = _
    simp [Nat.testBit_zero]
  rw [e]; unfold c32
  rcases Nat.mod_two_eq_zero_or_one p.toNat with h | h <;> simp [h] <;> omega
theorem L_odd (p : W) (h : p.getLsbD 0 = true) : bits .xor .u32 (c32 p / 2) 2197175160 = c32 (L p) := by
  rw [c32_half]
  refine (c32_xor (p >>> 1) 2197175160#32).trans ?_
  unfold L; rw [h]; rfl
theorem L_even (p : W) (h : p.getLsbD 0 = false) : c32 p / 2 = c32 (L p) := by
  rw [c32_half, L_of_even p h]
theorem step_any (p : W) (w : World) :
    Calls Try.prog 19 #[.int .u32 (c32 p)] w fun e w' => e = .returned (.int .u32 (c32 (S p))) ∧ w = w' := by
  go_enter Try.func19, Try.ntmps19
  go_wp2
  go_loop [0, 3] (fun s i => ∃ (k : Nat) (y : W), k ≤ 8 ∧ i = .int .i64 k ∧ s = .int .u32 (c32 y) ∧ Hid (y = Lk k p)) (fun _ i => 8 - (intOf i).toNat)
  case atStart => exact ⟨0, p, by omega, rfl, rfl, rfl⟩
  case round =>
    obtain ⟨k, y, hk, rfl, rfl, HY⟩ := hrel
    have hb := c32_lt y
    have hm := mod_two y
    by_cases hlt : k < 8
    · cases h : y.getLsbD 0
      · rw [h] at hm
        have e := L_even y h
        clear h
        go_wp2
        go_round
        case rel => exact ⟨k + 1, L y, by omega, by go_num, by rw [e], by rw [Hid, Lk_succ', ← HY.out]⟩
        case measure => simp [intOf]; omega
      · rw [h] at hm
        have e := L_odd y h
        clear h
        go_wp2
        go_round
        case rel => exact ⟨k + 1, L y, by omega, by go_num, rfl, by rw [Hid, Lk_succ', ← HY.out]⟩
        case measure => simp [intOf]; omega
    · go_wp2
      go_ret
      refine ⟨ret_int ?_, rfl⟩
      rw [HY.out, show k = 8 by omega]; rfl

/-- a row of 32 words -/
structure Row (m : Array Value) (f : Nat → W) (n : Nat) : Prop where
  size : m.size = 32
  at_ : ∀ i, i < n → m[i]? = some (.int .u32 (c32 (f i)))
theorem shr_mod (x : W) (i : Nat) : ((c32 x / (2 : Int) ^ i).tmod 2 == 1) = x.getLsbD i := by
  have e : x.getLsbD i = decide (x.toNat / 2 ^ i % 2 = 1) := by
    show x.toNat.testBit i = _
    rw [Nat.testBit_eq_decide_div_mod_eq]
  rw [e]; unfold c32
  have h2 : ((x.toNat : Int) / (2 : Int) ^ i) = ((x.toNat / 2 ^ i : Nat) : Int) := by
    rw [Int.natCast_ediv, Int.natCast_pow]; rfl
  rw [h2]
  generalize x.toNat / 2 ^ i = q
  rw [Int.tmod_eq_emod_of_nonneg (by omega)]
  rcases Nat.mod_two_eq_zero_or_one q with h | h <;> simp [h] <;> omega
theorem through_any (m : Array Value) (f : Nat → W) (hm : Row m f 32) (x : W) (w : World) :
    Calls Try.prog 20 #[.agg m, .int .u32 (c32 x)] w fun e w' => e = .returned (.int .u32 (c32 (img f x 32))) ∧ w' = w.alloc (.cells m 42) := by
  go_enter Try.func20, Try.ntmps20
  go_wp2
  go_loop [5, 6] (fun s i => ∃ (k : Nat) (y : W), k ≤ 32 ∧ i = .int .i64 k ∧ s = .int .u32 (c32 y) ∧ Hid (y = img f x k)) (fun _ i => 32 - (intOf i).toNat)
  case atStart => exact ⟨0, 0#32, by omega, rfl, rfl, rfl⟩
  case round =>
    obtain ⟨k, y, hk, rfl, rfl, HY⟩ := hrel
    by_cases hlt : k < 32
    · have hc := hm.at_ k hlt
      have hs := shr_mod x k
      have hx := c32_xor y (f k)
      cases h : x.getLsbD k
      · rw [h] at hs
        have H := Lib.hid h; clear h
        go_wp2
        go_round
        case rel => exact ⟨k + 1, y, by omega, by go_num, rfl, by rw [Hid, HY.out]; simp only [img, H.out]; simp⟩
        case measure => simp [intOf]; omega
      · rw [h] at hs
        have H := Lib.hid h; clear h
        go_wp2
        go_round
        case rel => exact ⟨k + 1, y ^^^ f k, by omega, by go_num, rfl, by rw [Hid, HY.out]; simp only [img, H.out]; simp⟩
        case measure => simp [intOf]; omega
    · go_wp2
      go_ret
      refine ⟨ret_int ?_, rfl⟩
      rw [HY.out, show k = 32 by omega]
end Go.Proofs.Ytfheeanpmcgajaa

/- Contracts of crc.times, crc.shifted, crc.Join and crc.Zeros, for any words and any number. -/
import Derived.Test.YtfheeanpmcgajaaWalkA
import Derived.BigQuiet
import Derived.Deep.QuietTactic
namespace Go.Proofs.Ytfheeanpmcgajaa
open Go.RowKit CrcM

/-! ### crc.times -/
def msk : Nat → Int
  | 0 => 0
  | k+1 => c32 (bit k)
theorem bit_toNat (k : Nat) (h : k < 32) : (bit k).toNat = 2 ^ k := by
  unfold bit
  rw [BitVec.toNat_ofNat, Nat.mod_eq_of_lt (Nat.pow_lt_pow_right (by omega) h)]
theorem msk_ne (k : Nat) (h : k < 32) : (msk (k + 1) != 0) = true := by
  have : 0 < 2 ^ k := Nat.two_pow_pos k
  simp only [msk, c32, bit_toNat k h, bne_iff_ne]
  omega
theorem msk_half (k : Nat) (h : k < 32) : msk (k + 1) / 2 = msk k := by
  cases k with
  | zero => decide
  | succ k =>
    simp only [msk, c32, bit_toNat _ h, bit_toNat k (by omega)]
    rw [Nat.pow_succ]
    omega
theorem and_bit (a : W) (k : Nat) (h : k < 32) : a &&& bit k = if a.getLsbD k then bit k else 0#32 := by
  apply BitVec.eq_of_getLsbD_eq
  intro i hi
  rw [BitVec.getLsbD_and, getLsbD_bit _ _ hi]
  by_cases e : i = k
  · subst e
    cases hx : a.getLsbD i
    · simp
    · simp only [if_true]; rw [getLsbD_bit _ _ hi]; simp
  · cases hx : a.getLsbD k
    · simp [e]
    · simp only [if_true]; rw [getLsbD_bit _ _ hi]; simp [e]
theorem msk_and (a : W) (k : Nat) (h : k < 32) : (bits .and .u32 (c32 a) (msk (k + 1)) != 0) = a.getLsbD k := by
  simp only [msk]
  rw [c32_and, and_bit a k h]
  cases a.getLsbD k
  · rfl
  · exact msk_ne k h
theorem times_any (a b : W) (w : World) :
    Calls Try.prog 22 #[.int .u32 (c32 a), .int .u32 (c32 b)] w fun e w' => e = .returned (.int .u32 (c32 (times a b))) ∧ w = w' := by
  go_enter Try.func22, Try.ntmps22
  go_wp2
  go_loop [1, 5, 6] (fun b' p m => ∃ (k : Nat) (y z : W), k ≤ 32 ∧ b' = .int .u32 (c32 y) ∧ p = .int .u32 (c32 z) ∧ m = .int .u32 (msk k) ∧ Hid (z ^^^ tms a k y = times a b)) (fun _ _ m => (intOf m).toNat)
  case atStart => exact ⟨32, b, 0#32, by omega, rfl, rfl, rfl, by simp [times, Hid]⟩
  case round =>
    obtain ⟨k, y, z, hk, rfl, rfl, rfl, HZ⟩ := hrel
    cases k with
    | zero =>
      have h0 : (msk 0 != 0) = false := rfl
      go_wp2
      go_ret
      refine ⟨ret_int ?_, rfl⟩
      have := HZ.out
      simp [tms] at this
      rw [this]
    | succ k =>
      have h0 := msk_ne k (by omega)
      have h1 := msk_half k (by omega)
      have h2 := msk_and a k (by omega)
      have hlt : (msk k).toNat < (msk (k + 1)).toNat := by
        have e : (msk (k+1)) ≠ 0 := by simpa using h0
        have : 0 ≤ msk (k+1) := (c32_lt _).1
        omega
      have hx := c32_xor z y
      cases ha : a.getLsbD k
      · rw [ha] at h2
        have HA := Lib.hid ha; clear ha
        go_wp2_with (go_at_call 21; refine (byX_any _ _).mono ?_; rintro e w' ⟨rfl, rfl⟩)
        go_round
        case rel => exact ⟨k, L y, z, by omega, rfl, rfl, rfl, by have := HZ.out; have h := HA.out; simp only [tms, h] at this; simpa [Hid] using this⟩
        case measure => simpa [intOf] using hlt
      · rw [ha] at h2
        have HA := Lib.hid ha; clear ha
        go_wp2_with (go_at_call 21; refine (byX_any _ _).mono ?_; rintro e w' ⟨rfl, rfl⟩)
        go_round
        case rel => exact ⟨k, L y, z ^^^ y, by omega, rfl, rfl, rfl, by have := HZ.out; have h := HA.out; simp only [tms, h] at this; rw [Hid, ← this]; simp [BitVec.xor_assoc]⟩
        case measure => simpa [intOf] using hlt

/-! ### crc.shifted: so many bytes of noughts -/
def farI (n : Int) (r : W) : W := far n.toNat r
theorem shifted_any (r : W) (n : Int) (hn : n ≤ 9223372036854775807) (w : World) :
    Calls Try.prog 18 #[.int .u32 (c32 r), .int .i64 n] w fun e w' => e = .returned (.int .u32 (c32 (farI n r))) ∧ w = w' := by
  go_enter Try.func18, Try.ntmps18
  go_wp2
  go_loop [0, 1, 5] (fun r' m p => ∃ (k : Int) (j : Nat) (y : W), k ≤ 9223372036854775807 ∧ r' = .int .u32 (c32 y) ∧ m = .int .i64 k ∧ p = .int .u32 (c32 (Lk (8 * j) one)) ∧ Hid (far (j * k.toNat) y = farI n r)) (fun _ m _ => (intOf m).toNat)
  case atStart => exact ⟨n, 1, r, hn, rfl, rfl, by rw [x8]; rfl, by simp [Hid, farI]⟩
  case round =>
    obtain ⟨k, j, y, hk, rfl, rfl, rfl, HZ⟩ := hrel
    by_cases h0 : 0 < k
    · have hq : 0 ≤ k / 2 ∧ k / 2 < k := by omega
      have hp := times_pow (8 * j) y
      have hs := square (8 * j)
      rw [show 2 * (8 * j) = 8 * (2 * j) by omega] at hs
      by_cases h1 : k % 2 = 1
      · have hb : (k % 2 == 1) = true := by simp [h1]
        have HK := Lib.hid h1; clear h1
        go_wp2_with (go_at_call 22; refine (times_any _ _ _).mono ?_; rintro e w' ⟨rfl, rfl⟩)
        go_round
        case rel => exact ⟨k / 2, 2 * j, Lk (8 * j) y, by omega, rfl, rfl, rfl, by
          have := HZ.out; have h := HK.out
          rw [Hid, ← this]
          show far (2 * j * (k / 2).toNat) (far j y) = _
          rw [← far_add]
          congr 1
          have : k.toNat = 2 * (k / 2).toNat + 1 := by omega
          rw [this]
          rw [Nat.mul_add, ← Nat.mul_assoc, Nat.mul_comm j 2]; omega⟩
        case measure => simp [intOf]; omega
      · have hb : (k % 2 == 1) = false := by simp [h1]
        have HK := Lib.hid h1; clear h1
        go_wp2_with (go_at_call 22; refine (times_any _ _ _).mono ?_; rintro e w' ⟨rfl, rfl⟩)
        go_round
        case rel => exact ⟨k / 2, 2 * j, y, by omega, rfl, rfl, rfl, by
          have := HZ.out; have h := HK.out
          rw [Hid, ← this]
          congr 1
          have : k.toNat = 2 * (k / 2).toNat := by omega
          rw [this]
          rw [← Nat.mul_assoc, Nat.mul_comm j 2]⟩
        case measure => simp [intOf]; omega
    · go_wp2
      go_ret
      refine ⟨ret_int ?_, rfl⟩
      have := HZ.out
      rw [show k.toNat = 0 by omega, Nat.mul_zero] at this
      rw [← this]; rfl
theorem Join_any (a b : W) (n : Int) (hn : n ≤ 9223372036854775807) (w : World) :
    Calls Try.prog 11 #[.int .u32 (c32 a), .int .u32 (c32 b), .int .i64 n] w fun e w' => e = .returned (.int .u32 (c32 (farI n a ^^^ b))) ∧ w = w' := by
  have hx := c32_xor (farI n a) b
  go_enter Try.func11, Try.ntmps11
  go_wp2_with (go_at_call 18; refine (shifted_any _ _ (by omega) _).mono ?_; rintro e w' ⟨rfl, rfl⟩)
  go_ret
  exact ⟨rfl, rfl⟩
theorem c32_not (a : W) : bits .xor .u32 IntKind.u32.max (c32 a) = c32 (a ^^^ ones) := by
  rw [BitVec.xor_comm]; exact c32_xor ones a
theorem Zeros_any (a : W) (n : Int) (hn : n ≤ 9223372036854775807) (w : World) :
    Calls Try.prog 14 #[.int .u32 (c32 a), .int .i64 n] w fun e w' => e = .returned (.int .u32 (c32 (farI n (a ^^^ ones) ^^^ ones))) ∧ w = w' := by
  have hx2 := c32_not (farI n (a ^^^ ones))
  go_enter Try.func14, Try.ntmps14
  go_wp2_with (go_at_call 18; rw [c32_not]; refine (shifted_any _ _ (by omega) _).mono ?_; rintro e w' ⟨rfl, rfl⟩)
  go_ret
  exact ⟨rfl, rfl⟩
end Go.Proofs.Ytfheeanpmcgajaa

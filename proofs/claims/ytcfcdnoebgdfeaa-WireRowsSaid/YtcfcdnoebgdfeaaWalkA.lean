/- Contracts of wire's fits, Put, Get and of the reference's weight, Room, Put, Get. -/
import Derived.Test.YtcfcdnoebgdfeaaBase
import Derived.Test.YtcfcdnoebgdfeaaMath
namespace Go.Proofs.Ytcfcdnoebgdfeaa
open Go.RowKit WireM

theorem fits_any (size : Int) (w : World) : Calls Try.prog 32 #[.int .i64 size] w fun e w' => e = .returned (.bool (decide (0 < size ∧ size ≤ 8))) ∧ w = w' := by
  by_cases h : 0 < size
  · by_cases h8 : size ≤ 8
    · have : decide (0 < size ∧ size ≤ 8) = true := by simp [h, h8]
      rw [this]
      go_enter Try.func32, Try.ntmps32
      go_wp2
      go_ret
      exact ⟨rfl, rfl⟩
    · have : decide (0 < size ∧ size ≤ 8) = false := by simp [h, h8]
      rw [this]
      go_enter Try.func32, Try.ntmps32
      go_wp2
      go_ret
      exact ⟨rfl, rfl⟩
  · have : decide (0 < size ∧ size ≤ 8) = false := by simp [h]
    rw [this]
    go_enter Try.func32, Try.ntmps32
    go_wp2
    go_ret
    exact ⟨rfl, rfl⟩
theorem set_low (n k j : Nat) (h : j < k) : (List.replicate (k - j) 0 ++ be n j).set (k - 1 - j) (UInt8.ofNat (n / 256 ^ j)) = List.replicate (k - (j + 1)) 0 ++ be n (j + 1) := by
  rw [show k - j = (k - (j + 1)) + 1 by omega, List.replicate_succ', List.append_assoc, List.set_append_right _ _ (by simp; omega)]
  congr 1
  simp only [List.length_replicate, show k - 1 - j - (k - (j + 1)) = 0 by omega]
  simp [be]
/-- Put fills: any number, a size that fits -/
theorem put_bad (n : Int) (size : Int) (h : ¬ (0 < size ∧ size ≤ 8)) (w : World) : Calls Try.prog 10 #[.int .u64 n, .int .i64 size] w fun e w' => e = .returned (.tuple #[.slice none 0 0, .int .i64 2]) ∧ w = w' := by
  have hd : decide (0 < size ∧ size ≤ 8) = false := by simpa using h
  have hf := fits_any size w
  rw [hd] at hf
  go_enter Try.func10, Try.ntmps10
  go_wp2_with (go_at_call 32; refine hf.mono ?_; rintro e w' ⟨rfl, rfl⟩)
  go_ret2
  exact ⟨rfl, rfl⟩
set_option maxHeartbeats 800000 in
theorem put_fits (n k : Nat) (hn : n < 18446744073709551616) (h0 : 0 < k) (h8 : k ≤ 8) (w : World) : Calls Try.prog 10 #[.int .u64 n, .int .i64 k] w fun e w' =>
    Below w.heap.size w w' ∧ ((n < 256 ^ k ∧ ∃ v, e = .returned (.tuple #[v, .int .i64 0]) ∧ OwnB w' w.heap.size v (be n k)) ∨ (¬ n < 256 ^ k ∧ e = .returned (.tuple #[.slice none 0 0, .int .i64 2]))) := by
  have hd : decide (0 < (k : Int) ∧ (k : Int) ≤ 8) = true := by simp; omega
  have hf := fits_any k w
  rw [hd] at hf
  go_enter Try.func10, Try.ntmps10
  go_wp2_with (first | (go_at_call 32; refine hf.mono ?_; rintro e w' ⟨rfl, rfl⟩) | (refine wpList_make_b rfl (.tmp 11) (.tmp 11) rfl w.heap.size k _ rfl rfl rfl (by omega) (Nat.le_refl _) ?_; intro w1 hown1 hg1))
  have hb1 : Below w.heap.size w w1 := below_grown hg1
  clear hf hd hg1
  go_wp2_with fail
  go_loopw [0, 7] (fun x a wr => ∃ j : Nat, j ≤ k ∧ x = .int .u64 ((n / 256 ^ j : Nat) : Int) ∧ a = .int .i64 ((k : Int) - 1 - (j : Int)) ∧ OwnB wr w.heap.size (.slice (some ⟨w.heap.size, 0, none⟩) k k) (List.replicate (k - j) 0 ++ be n j) ∧ Below w.heap.size w wr) (fun _ a _ => (intOf a + 1).toNat)
  case atStart => exact ⟨0, by omega, by simp, by simp, by simpa [be] using hown1, hb1⟩
  case round =>
    clear hown1 hb1
    obtain ⟨j, hj, rfl, rfl, hown, hbel⟩ := hrel
    have hlen : (List.replicate (k - j) (0 : UInt8) ++ be n j).length = k := by simp [be_length]; omega
    have hX : n / 256 ^ j ≤ n := Nat.div_le_self _ _
    by_cases hjk : j < k
    · obtain ⟨hc, hfz⟩ := hown.cell hlen.symm (k - 1 - j) (by rw [hlen]; omega)
      obtain ⟨c0, hc0⟩ : ∃ c0, (List.replicate (k - j) (0 : UInt8) ++ be n j)[k - 1 - j]'(by rw [hlen]; omega) = c0 := ⟨_, rfl⟩
      rw [hc0] at hc
      clear hc0
      have hst := hown.set hlen.symm (k - 1 - j) (by rw [hlen]; omega) (UInt8.ofNat (n / 256 ^ j))
      rw [set_low n k j hjk, ofNat_toNat8] at hst
      have hnx : n / 256 ^ (j + 1) = n / 256 ^ j / 256 := by rw [Nat.pow_succ, Nat.div_div_eq_div_mul]
      have HNX := Lib.hid hnx
      have hidx : (k : Int) - 1 - (j : Int) = ((k - 1 - j : Nat) : Int) := by omega
      have HI := Lib.hid hidx
      rw [hidx]
      obtain ⟨X, hXe⟩ : ∃ X, n / 256 ^ j = X := ⟨_, rfl⟩
      rw [hXe] at hX hst HNX ⊢
      obtain ⟨p, hp⟩ : ∃ p, k - 1 - j = p := ⟨_, rfl⟩
      have hpk : p < k := by omega
      have HP := Lib.hid hp
      rw [hp] at hc hfz hst ⊢
      have HST := Lib.hid hst
      have hXI : (X : Int) < 18446744073709551616 := by omega
      clear hst hnx hidx hXe hp hlen hown
      go_wp2
      go_roundw
      case rel => 
        refine ⟨j + 1, by omega, ?_, ?_, ?_, ?_⟩
        · rw [HNX.out]; first | rfl | simp
        · have := HP.out; congr 1; omega
        · exact HST.out.1
        · exact hbel.grown HST.out.2 hbel.size (fun k hk => by cases hk; exact Nat.le_refl _)
      case measure => simp [intOf]
    · obtain rfl : k = j := by omega
      simp only [Nat.sub_self, List.replicate_zero, List.nil_append] at hown
      clear hlen hjk hj
      by_cases hr : n < 256 ^ k
      · have hz : n / 256 ^ k = 0 := Nat.div_eq_of_lt hr
        rw [hz]
        have HR := Lib.hid hr
        clear hr hz hX
        go_wp2
        go_ret2
        exact ⟨hbel, .inl ⟨HR.out, _, rfl, hown⟩⟩
      · have hz : 0 < n / 256 ^ k := Nat.div_pos (by omega) (Nat.pow_pos (by omega))
        obtain ⟨X, hXe⟩ : ∃ X, n / 256 ^ k = X := ⟨_, rfl⟩
        rw [hXe] at hz hX ⊢
        have HR := Lib.hid hr
        clear hXe hr
        go_wp2
        go_ret2
        exact ⟨hbel, .inr ⟨HR.out, rfl⟩⟩
end Go.Proofs.Ytcfcdnoebgdfeaa

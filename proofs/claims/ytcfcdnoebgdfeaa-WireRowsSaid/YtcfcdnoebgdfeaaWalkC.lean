/- Contracts of the reference's Put, and of wire's Join and Blob. -/
import Derived.Test.YtcfcdnoebgdfeaaWalkB
namespace Go.Proofs.Ytcfcdnoebgdfeaa
open Go.RowKit WireM

theorem take_be (n k j : Nat) (h : j < k) : (be n k).take (j + 1) = (be n k).take j ++ [UInt8.ofNat (n / 256 ^ (k - 1 - j))] := by
  rw [take_snoc _ j (by rw [be_length]; exact h), be_get]
theorem put_step (n p : Nat) : UInt8.ofNat (n % 256 ^ (p + 1) / 256 ^ p) = UInt8.ofNat (n / 256 ^ p) := by
  rw [Nat.pow_succ, Nat.mod_mul_right_div_self]
  apply UInt8.toNat_inj.1
  simp
theorem put_rest (n p : Nat) : n % 256 ^ (p + 1) % 256 ^ p = n % 256 ^ p :=
  Nat.mod_mod_of_dvd n (Nat.pow_dvd_pow 256 (by omega))
set_option maxRecDepth 100000 in
set_option maxHeartbeats 800000 in
theorem refPut_any (n k : Nat) (hn : n < 256 ^ k) (h8 : k ≤ 8) (w : World) : Calls Try.prog 15 #[.int .u64 n, .int .i64 k] w fun e w' =>
    Below w.heap.size w w' ∧ ∃ v, e = .returned v ∧ OwnB w' w.heap.size v (be n k) := by
  have hnb : n < 18446744073709551616 := Nat.lt_of_lt_of_le hn (pow_le8 k h8)
  go_enter Try.func15, Try.ntmps15
  go_wp2
  go_loopw [0, 5, 6, 7] (fun x v i _ wr => ∃ j : Nat, j ≤ k ∧ i = .int .i64 j ∧ x = .int .u64 ((n % 256 ^ (k - j) : Nat) : Int) ∧ OwnB wr w.heap.size v ((be n k).take j) ∧ Below w.heap.size w wr) (fun _ _ i _ _ => k - (intOf i).toNat)
  case atStart => exact ⟨0, by omega, rfl, by rw [Nat.sub_zero, Nat.mod_eq_of_lt hn], OwnB.nil _ _, Below.refl _ _⟩
  case round =>
    obtain ⟨j, hj, rfl, rfl, hown, hbel⟩ := hrel
    by_cases hjk : j < k
    · obtain ⟨p, hp⟩ : ∃ p, k - 1 - j = p := ⟨_, rfl⟩
      have hpe : k - j = p + 1 := by omega
      have hp7 : p ≤ 7 := by omega
      have hw := fun w => weight_any p hp7 w
      have htk := take_be n k j hjk
      have hps := put_step n p
      have hpr := put_rest n p
      have hpos : 0 < 256 ^ p := Nat.pow_pos (by omega)
      have hmod : n % 256 ^ (p + 1) ≤ n := Nat.mod_le _ _
      have hkj : k - (j + 1) = p := by omega
      rw [hp] at htk
      rw [← hps] at htk
      rw [hpe]
      have hpI : (k : Int) - 1 - (j : Int) = (p : Int) := by omega
      have hpw : 256 ^ p ≤ 72057594037927936 := pow_le7 p hp7
      obtain ⟨P, hP⟩ : ∃ P, 256 ^ p = P := ⟨_, rfl⟩
      obtain ⟨X, hX⟩ : ∃ X, n % 256 ^ (p + 1) = X := ⟨_, rfl⟩
      rw [hP] at htk hw hpr hpos hpw
      rw [hX] at htk hpr hmod ⊢
      have hdl : X / P ≤ X := Nat.div_le_self _ _
      have hdv : (X : Int) / (P : Int) = ((X / P : Nat) : Int) := by simp
      obtain ⟨D, hD⟩ : ∃ D, X / P = D := ⟨_, rfl⟩
      rw [hD] at htk hdl hdv
      have hwD : IntKind.u64.wrap (D : Int) = (D : Int) := by rw [IntKind.wrap_u64]; omega
      have hXP : (X : Int) % (P : Int) = ((X % P : Nat) : Int) := by simp
      rw [hpr] at hXP
      have HR := Lib.hid (And.intro hpr (And.intro hkj (And.intro hP htk)))
      have hown' := fun o => hown.below (below_alloc wr o)
      have hXb : X < 18446744073709551616 := by omega
      clear hp hpe hps hpr hkj hX hP htk hmod hown hD
      go_wp2_with (first | (go_at_call 33; refine (hw _).mono ?_; rintro e w' ⟨rfl, rfl⟩) | (at_builtin; go_loud (refine wpList_append_b rfl (.tmp 18) (.tmp 23) rfl w.heap.size _ _ rfl (hown' _) (some ⟨wr.heap.size, 0, none⟩) [UInt8.ofNat D] 1 1 rfl rfl (Bs_alloc wr [UInt8.ofNat D] _ _ _ _ (by simp [u8s]) rfl) (by simp) (by rw [List.length_take, be_length, List.length_singleton]; omega) (by have := hbel.size; simp; omega) ?_); intro v1 w1 hown1 hg1))
      have hb1 : Below w.heap.size w w1 := below_grown_own (hbel.alloc hbel.size _) (by have := hbel.size; simp; omega) (hown' _) hg1
      clear hg1 hown'
      rw [← HR.out.2.2.2] at hown1
      go_wp2_with fail
      go_roundw
      case rel => exact ⟨j + 1, by omega, by go_num, by rw [HR.out.2.1, HR.out.2.2.1, hXP], hown1, hb1⟩
      case measure => simp [intOf]; omega
    · have hkj : k = j := by omega
      rw [← hkj, List.take_of_length_le (by rw [be_length]; omega)] at hown
      clear hjk hj
      go_wp2_with fail
      go_ret
      exact ⟨hbel, _, rfl, hown⟩
set_option maxHeartbeats 800000 in
theorem Join_any (a : Option Addr) (cap : Nat) (L : List (List UInt8)) (w : World) (h : BBs w a L) (hlen : L.length ≤ 9223372036854775807) (hsum : L.flatten.length ≤ 140737488355328) :
    Calls Try.prog 27 #[.slice a L.length cap] w fun e w' => Below w.heap.size w w' ∧ ∃ v, e = .returned v ∧ OwnB w' w.heap.size v L.flatten := by
  go_enter Try.func27, Try.ntmps27
  go_wp2
  go_loopw [3, 8] (fun v i wr => ∃ k : Nat, k ≤ L.length ∧ i = .int .i64 k ∧ OwnB wr w.heap.size v (L.take k).flatten ∧ Below w.heap.size w wr) (fun _ i _ => L.length - (intOf i).toNat)
  case atStart => exact ⟨0, by omega, rfl, OwnB.nil _ _, Below.refl _ _⟩
  case round =>
    obtain ⟨k, hk, rfl, hown, hbel⟩ := hrel
    by_cases hlt : k < L.length
    · obtain ⟨b, o, rfl⟩ := h.ex hlt
      obtain ⟨ai, ci, hc, hp, hpl, hpn⟩ := (h.belowB rfl hbel).cell b o rfl k hlt
      have hsz := hbel.size
      have hts := flatten_take_snoc L k hlt
      have hfl : ((L.take k).flatten ++ L[k]).length ≤ L.flatten.length := by
        rw [← hts]
        conv => rhs; rw [← List.take_append_drop (k + 1) L]
        rw [List.flatten_append, List.length_append]; omega
      have HT := Lib.hid hts
      clear hts
      obtain ⟨l, hll⟩ : ∃ l, L[k] = l := ⟨_, rfl⟩
      rw [hll] at hc hp hpl hfl HT
      clear hll
      obtain ⟨F, hF⟩ : ∃ F, (L.take k).flatten = F := ⟨_, rfl⟩
      rw [hF] at hfl HT hown
      clear hF
      have hfl2 : F.length + l.length ≤ 140737488355328 := by rw [← List.length_append]; omega
      have hd : decide ((k : Int) < (L.length : Int)) = true := by simp; omega
      clear hfl
      go_wp2_with (first | (at_builtin; refine wpList_append_b rfl (.tmp 12) (.tmp 13) rfl w.heap.size _ F rfl hown ai l l.length ci rfl rfl hp hpn hfl2 hsz ?_; intro v1 w1 hown1 hg1) | fail)
      have hb1 : Below w.heap.size w w1 := below_grown_own hbel hsz hown hg1
      rw [← HT.out] at hown1
      clear hg1 hown hp hc
      go_wp2_with fail
      go_roundw
      case rel => exact ⟨k + 1, by omega, by go_num, hown1, hb1⟩
      case measure => simp [intOf]; omega
    · have hd0 : decide ((k : Int) < (L.length : Int)) = false := by simp; omega
      have hkl : L.take k = L := List.take_of_length_le (by omega)
      rw [hkl] at hown
      clear hkl hsum
      go_wp2_with fail
      go_ret
      exact ⟨hbel, _, rfl, hown⟩
end Go.Proofs.Ytcfcdnoebgdfeaa

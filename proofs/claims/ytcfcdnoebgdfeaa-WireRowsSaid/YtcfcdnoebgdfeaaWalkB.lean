/- Contracts of the reference's weight, Room, Put, Get, and of wire's Get. -/
import Derived.Test.YtcfcdnoebgdfeaaWalkA
namespace Go.Proofs.Ytcfcdnoebgdfeaa
open Go.RowKit WireM

theorem pow_le7 (j : Nat) (h : j ≤ 7) : 256 ^ j ≤ 72057594037927936 := by
  have : ∀ j : Fin 8, 256 ^ j.1 ≤ 72057594037927936 := by decide
  exact this ⟨j, by omega⟩
theorem pow_le8 (j : Nat) (h : j ≤ 8) : 256 ^ j ≤ 18446744073709551616 := by
  have : ∀ j : Fin 9, 256 ^ j.1 ≤ 18446744073709551616 := by decide
  exact this ⟨j, by omega⟩
theorem weight_any (k : Nat) (hk : k ≤ 7) (w : World) : Calls Try.prog 33 #[.int .i64 k] w fun e w' => e = .returned (.int .u64 ((256 ^ k : Nat) : Int)) ∧ w = w' := by
  go_enter Try.func33, Try.ntmps33
  go_wp2
  go_loop [3, 4] (fun x i => ∃ j : Nat, j ≤ k ∧ i = .int .i64 j ∧ x = .int .u64 ((256 ^ j : Nat) : Int)) (fun _ i => k - (intOf i).toNat)
  case atStart => exact ⟨0, by omega, rfl, rfl⟩
  case round =>
    obtain ⟨j, hj, rfl, rfl⟩ := hrel
    by_cases hjk : j < k
    · have h7 := pow_le7 (j + 1) (by omega)
      have hp : 256 ^ (j + 1) = 256 ^ j * 256 := Nat.pow_succ ..
      obtain ⟨X, hX⟩ : ∃ X, 256 ^ j = X := ⟨_, rfl⟩
      rw [hX] at hp ⊢
      rw [hp] at h7
      have HP := Lib.hid hp
      have hXI : (X : Int) * 256 ≤ 72057594037927936 ∧ (0 : Int) ≤ (X : Int) := by omega
      clear hp hX
      go_wp2
      go_round
      case rel => exact ⟨j + 1, by omega, by go_num, by rw [HP.out]; simp⟩
      case measure => simp [intOf]; omega
    · obtain rfl : k = j := by omega
      go_wp2
      go_ret
      exact ⟨rfl, rfl⟩
theorem Room_any (n : Nat) (size : Int) (w : World) : Calls Try.prog 11 #[.int .u64 n, .int .i64 size] w fun e w' => e = .returned (.bool (decide (room n size) || (decide (size = 8)))) ∧ w = w' := by
  by_cases h1 : size < 1
  · have hr : (decide (room n size) || decide (size = 8)) = false := by
      simp only [Bool.or_eq_false_iff, decide_eq_false_iff_not]; exact ⟨fun h => by have := h.1; omega, by omega⟩
    rw [hr]
    clear hr
    go_enter Try.func11, Try.ntmps11
    go_wp2
    go_ret
    exact ⟨rfl, rfl⟩
  · by_cases h8 : 8 < size
    · have hr : (decide (room n size) || decide (size = 8)) = false := by
        simp only [Bool.or_eq_false_iff, decide_eq_false_iff_not]; exact ⟨fun h => by have := h.2.1; omega, by omega⟩
      rw [hr]
      clear hr
      go_enter Try.func11, Try.ntmps11
      go_wp2
      go_ret
      exact ⟨rfl, rfl⟩
    · obtain ⟨k, rfl⟩ : ∃ k : Nat, size = (k : Int) := ⟨size.toNat, by omega⟩
      by_cases e8 : k = 8
      · subst e8
        have hr : (decide (room n ((8 : Nat) : Int)) || decide (((8 : Nat) : Int) = 8)) = true := by simp
        rw [hr]
        clear hr
        go_enter Try.func11, Try.ntmps11
        go_wp2
        go_ret
        exact ⟨rfl, rfl⟩
      · have hr : (decide (room n (k : Int)) || decide ((k : Int) = 8)) = decide (n < 256 ^ k) := by
          rw [show decide ((k : Int) = 8) = false by simp; omega, Bool.or_false, decide_eq_decide]
          unfold room
          simp only [Int.toNat_natCast]
          constructor
          · exact fun h => h.2.2
          · exact fun h => ⟨by omega, by omega, h⟩
        rw [hr]
        have hk8 : ((k : Int) == 8) = false := by simp; omega
        have hw := weight_any k (by omega) w
        obtain ⟨X, hX⟩ : ∃ X, 256 ^ k = X := ⟨_, rfl⟩
        rw [hX] at hw ⊢
        have hXd : decide (n < X) = decide ((n : Int) < (X : Int)) := by simp
        have HXd := Lib.hid hXd
        clear hr hX hXd
        go_enter Try.func11, Try.ntmps11
        go_wp2_with (go_at_call 33; refine hw.mono ?_; rintro e w' ⟨rfl, rfl⟩)
        go_ret
        exact ⟨by rw [HXd.out]; rfl, rfl⟩
theorem val_drop (l : List UInt8) (j : Nat) (h : j < l.length) : val (l.drop j) = (l[j]).toNat * 256 ^ (l.length - 1 - j) + val (l.drop (j + 1)) := by
  rw [List.drop_eq_getElem_cons h]
  simp only [val, List.length_drop]
  rw [show l.length - (j + 1) = l.length - 1 - j by omega]
set_option maxHeartbeats 800000 in
theorem refGet_any (a : Option Addr) (cap : Nat) (l : List UInt8) (w : World) (h : Bs w a l) (h8 : l.length ≤ 8) :
    Calls Try.prog 16 #[.slice a l.length cap] w fun e w' => e = .returned (.int .u64 ((val l : Nat) : Int)) ∧ Below w.heap.size w w' := by
  have hv : val l < 18446744073709551616 := Nat.lt_of_lt_of_le (val_lt l) (pow_le8 _ h8)
  go_enter Try.func16, Try.ntmps16
  go_wp2
  go_loopw [3, 4] (fun x i wr => ∃ (j X : Nat), j ≤ l.length ∧ i = .int .i64 j ∧ x = .int .u64 (X : Int) ∧ Hid (X + val (l.drop j) = val l) ∧ Below w.heap.size w wr) (fun _ i _ => l.length - (intOf i).toNat)
  case atStart => exact ⟨0, 0, by omega, rfl, rfl, by simp [Hid], Below.refl _ _⟩
  case round =>
    obtain ⟨j, X, hj, rfl, rfl, HX, hbel⟩ := hrel
    by_cases hjl : j < l.length
    · obtain ⟨b, o, rfl⟩ := h.ex hjl
      have hc := (h.below hbel).cell b o rfl j hjl
      have hvd := val_drop l j hjl
      have hw := fun w => weight_any (l.length - 1 - j) (by omega) w
      obtain ⟨c, hcc⟩ : ∃ c, l[j] = c := ⟨_, rfl⟩
      rw [hcc] at hc hvd
      clear hcc
      have hct := c.toNat_lt
      obtain ⟨P, hP⟩ : ∃ P, 256 ^ (l.length - 1 - j) = P := ⟨_, rfl⟩
      rw [hP] at hvd hw
      obtain ⟨p, hp⟩ : ∃ p, l.length - 1 - j = p := ⟨_, rfl⟩
      have hpI : (l.length : Int) - 1 - (j : Int) = (p : Int) := by omega
      rw [hp] at hw
      have hle : X + c.toNat * P ≤ val l := by have := HX.out; omega
      have HV := Lib.hid hvd
      obtain ⟨M, hM⟩ : ∃ M, c.toNat * P = M := ⟨_, rfl⟩
      have hMI : (c.toNat : Int) * (P : Int) = (M : Int) := by rw [← hM]; simp
      rw [hM] at hle
      have HM := Lib.hid hM
      have hMb : (M : Int) < 18446744073709551616 ∧ (X : Int) + (M : Int) < 18446744073709551616 := by omega
      have hcb : (0 : Int) ≤ (c.toNat : Int) ∧ (c.toNat : Int) ≤ 255 := by omega
      have hw1 : IntKind.i64.wrap ((l.length : Int) - 1) = (l.length : Int) - 1 := by rw [IntKind.wrap_i64]; omega
      have hw2 : IntKind.i64.wrap ((l.length : Int) - 1 - (j : Int)) = (p : Int) := by rw [IntKind.wrap_i64]; omega
      have hw3 : IntKind.u64.wrap (c.toNat : Int) = (c.toNat : Int) := by rw [IntKind.wrap_u64]; omega
      have hw4 : IntKind.u64.wrap (M : Int) = (M : Int) := by rw [IntKind.wrap_u64]; omega
      have hw5 : IntKind.u64.wrap ((X : Int) + (M : Int)) = (X : Int) + (M : Int) := by rw [IntKind.wrap_u64]; omega
      clear hvd hP hp hM hct hpI
      go_wp2_with fail
      go_region_held3 (fun w' => w'.cell? ⟨b, o + j, none⟩ = some (.int .u8 (c.toNat : Int))) (first | exact hc) (first | (go_at_call 33; refine (hw _).mono ?_; rintro e w' ⟨rfl, rfl⟩))
      go_wp2_with fail
      go_roundw
      case rel => exact ⟨j + 1, X + M, by omega, by go_num, by simp, by have := HX.out; have := HV.out; have := HM.out; show _ = _; omega, hbel.drew⟩
      case measure => simp [intOf]; omega
    · obtain rfl : l.length = j := by omega
      have hX := HX.out
      rw [List.drop_length] at hX
      have hXe : X = val l := by simpa [val] using hX
      have HE := Lib.hid hXe
      clear hX hXe
      go_wp2
      go_ret
      exact ⟨by rw [HE.out]; rfl, hbel⟩
theorem val_take_drop (l : List UInt8) (j : Nat) (h : j < l.length) : val (l.drop (l.length - (j + 1))) = (l[l.length - 1 - j]).toNat * 256 ^ j + val (l.drop (l.length - j)) := by
  rw [show l.length - (j + 1) = l.length - 1 - j by omega, val_drop l (l.length - 1 - j) (by omega)]
  rw [show l.length - 1 - (l.length - 1 - j) = j by omega, show l.length - 1 - j + 1 = l.length - j by omega]
theorem val_drop_le (l : List UInt8) (k : Nat) : val (l.drop k) ≤ val l := by
  have := val_append (l.take k) (l.drop k)
  rw [List.take_append_drop] at this
  omega
theorem Get_bad (a : Option Addr) (cap n : Nat) (w : World) (h : ¬ (0 < n ∧ n ≤ 8)) :
    Calls Try.prog 14 #[.slice a n cap] w fun e w' => e = .returned (.tuple #[.int .u64 0, .int .i64 2]) ∧ w = w' := by
  have hd : decide (0 < (n : Int) ∧ (n : Int) ≤ 8) = false := by simp; omega
  have hf := fits_any n w
  rw [hd] at hf
  go_enter Try.func14, Try.ntmps14
  go_wp2_with (go_at_call 32; refine hf.mono ?_; rintro e w' ⟨rfl, rfl⟩)
  go_ret2
  exact ⟨rfl, rfl⟩
set_option maxRecDepth 100000 in
set_option maxHeartbeats 800000 in
theorem Get_any (a : Option Addr) (cap : Nat) (l : List UInt8) (w : World) (h : Bs w a l) (hcap : l.length ≤ cap) (h0 : 0 < l.length) (h8 : l.length ≤ 8) :
    Calls Try.prog 14 #[.slice a l.length cap] w fun e w' => e = .returned (.tuple #[.int .u64 ((val l : Nat) : Int), .int .i64 0]) ∧ w = w' := by
  have hv : val l < 18446744073709551616 := Nat.lt_of_lt_of_le (val_lt l) (pow_le8 _ h8)
  have hd : decide (0 < (l.length : Int) ∧ (l.length : Int) ≤ 8) = true := by simp; omega
  have hf := fits_any l.length w
  rw [hd] at hf
  obtain ⟨b, o, rfl⟩ := h.ex h0
  go_enter Try.func14, Try.ntmps14
  go_wp2_with (go_at_call 32; refine hf.mono ?_; rintro e w' ⟨rfl, rfl⟩)
  clear hf hd
  go_loop [0, 2, 4] (fun s x i => ∃ (j X : Nat), j ≤ l.length ∧ s = .slice (some ⟨b, o, none⟩) (l.length - j) cap ∧ i = .int .u64 ((8 * j : Nat) : Int) ∧ x = .int .u64 (X : Int) ∧ Hid (X = val (l.drop (l.length - j)))) (fun s _ _ => match s with | .slice _ n _ => n | _ => 0)
  case atStart => exact ⟨0, 0, by omega, rfl, rfl, rfl, by simp [Hid, val]⟩
  case round =>
    obtain ⟨j, X, hj, rfl, rfl, rfl, HX⟩ := hrel
    by_cases hjl : j < l.length
    · have hc := h.cell b o rfl (l.length - 1 - j) (by omega)
      have hvd := val_take_drop l j hjl
      have hle := val_drop_le l (l.length - (j + 1))
      obtain ⟨c, hcc⟩ : ∃ c, l[l.length - 1 - j]'(by omega) = c := ⟨_, rfl⟩
      rw [hcc] at hc hvd
      clear hcc
      have hct := c.toNat_lt
      obtain ⟨q, hq⟩ : ∃ q, l.length - j = q := ⟨_, rfl⟩
      obtain ⟨p, hp⟩ : ∃ p, l.length - 1 - j = p := ⟨_, rfl⟩
      have hqp : q = p + 1 := by omega
      rw [hp] at hc
      rw [hvd, ← HX.out] at hle
      rw [← HX.out] at hvd
      have HV := Lib.hid hvd
      obtain ⟨M, hM⟩ : ∃ M, c.toNat * 256 ^ j = M := ⟨_, rfl⟩
      rw [hM] at hle
      have HM := Lib.hid hM
      have hsh : (c.toNat : Int) * 2 ^ (8 * j) = (M : Int) := by
        have e : (2 ^ (8 * j) : Nat) = 256 ^ j := by rw [Nat.pow_mul]
        have e2 : (2 : Int) ^ (8 * j) = ((256 ^ j : Nat) : Int) := by rw [← e]; simp
        rw [← hM, e2]; simp
      obtain ⟨s, hs⟩ : ∃ s, 8 * j = s := ⟨_, rfl⟩
      rw [hs] at hsh ⊢
      have hs64 : s < 64 := by omega
      have HS := Lib.hid hs
      clear hs
      have hw4 : IntKind.u64.wrap (M : Int) = (M : Int) := by rw [IntKind.wrap_u64]; omega
      have hw5 : IntKind.u64.wrap ((X : Int) + (M : Int)) = (X : Int) + (M : Int) := by rw [IntKind.wrap_u64]; omega
      have hcb : (0 : Int) ≤ (c.toNat : Int) ∧ (c.toNat : Int) ≤ 255 := by omega
      have hpp : p < cap := by omega
      have hp8 : p < 8 := by omega
      have hj8 : j < 8 := by omega
      have hqs : l.length - (j + 1) = p := by omega
      have HQ := Lib.hid hqs
      rw [hq]
      clear hvd hM hct hle hqs
      subst hqp
      clear hq hp
      go_wp2_with fail
      go_round
      case rel => exact ⟨j + 1, X + M, by omega, by rw [HQ.out], by have := HS.out; congr 1; omega, by simp, by have := HV.out; have := HM.out; show _ = _; omega⟩
      case measure => simp
    · have hX := HX.out
      have hz : l.length - j = 0 := by omega
      rw [hz] at hX ⊢
      have hXe : X = val l := by simpa using hX
      have HE := Lib.hid hXe
      clear hX hXe hz hv
      go_wp2_with fail
      go_ret2
      exact ⟨by rw [HE.out]; rfl, rfl⟩
end Go.Proofs.Ytcfcdnoebgdfeaa

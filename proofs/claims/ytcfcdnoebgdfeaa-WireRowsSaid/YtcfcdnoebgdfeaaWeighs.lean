/- WireWeighs: the walk. -/
import Derived.Test.YtcfcdnoebgdfeaaKnown
import Derived.Test.YtcfcdnoebgdfeaaSeq
namespace Go.Proofs.Ytcfcdnoebgdfeaa
open Go.RowKit WireM

theorem Room_is (n : Nat) (hn : n < 18446744073709551616) (size : Int) (w : World) : Calls Try.prog 11 #[.int .u64 n, .int .i64 size] w fun e w' => e = .returned (.bool (decide (room n size))) ∧ w = w' := by
  have h := Room_any n size w
  have e : (decide (room n size) || decide (size = 8)) = decide (room n size) := by
    by_cases h8 : size = 8
    · subst h8
      have : room n 8 := ⟨by omega, by omega, by show n < 256 ^ 8; omega⟩
      simp [this]
    · simp [h8]
  rwa [e] at h
/-- Put, all ways -/
theorem put_room (n k : Nat) (hr : room n k) (w : World) : Calls Try.prog 10 #[.int .u64 n, .int .i64 k] w fun e w' => (∃ a c, e = .returned (.tuple #[.slice a k c, .int .i64 0]) ∧ k ≤ c ∧ Bs w' a (be n k)) ∧ Below w.heap.size w w' := by
  obtain ⟨h1, h2, h3⟩ := hr
  simp only [Int.toNat_natCast] at h3
  have hn : n < 18446744073709551616 := Nat.lt_of_lt_of_le h3 (pow_le8 k (by omega))
  refine (put_fits n k hn (by omega) (by omega) w).mono ?_
  rintro e w' ⟨hb, h⟩
  rcases h with ⟨_, v, rfl, ho⟩ | ⟨h, _⟩
  · obtain ⟨a, c, rfl, hB, hc, _⟩ := ho.form
    rw [be_length] at hc
    exact ⟨⟨a, c, by rw [be_length], hc, hB⟩, hb⟩
  · omega
theorem put_noroom (n : Nat) (hn : n < 18446744073709551616) (size : Int) (hr : ¬ room n size) (w : World) : Calls Try.prog 10 #[.int .u64 n, .int .i64 size] w fun e w' => e = .returned (.tuple #[.slice none 0 0, .int .i64 2]) ∧ Below w.heap.size w w' := by
  by_cases h : 0 < size ∧ size ≤ 8
  · obtain ⟨k, rfl⟩ : ∃ k : Nat, size = (k : Int) := ⟨size.toNat, by omega⟩
    refine (put_fits n k hn (by omega) (by omega) w).mono ?_
    rintro e w' ⟨hb, h'⟩
    rcases h' with ⟨h', _⟩ | ⟨_, h'⟩
    · exact absurd ⟨by omega, by omega, by simpa using h'⟩ hr
    · exact ⟨h', hb⟩
  · refine (put_bad n size h w).mono ?_
    rintro e w' ⟨rfl, rfl⟩
    exact ⟨rfl, Below.refl _ _⟩
theorem str_size (l : List UInt8) : (str l).size = l.length := rfl
theorem str_append (l m : List UInt8) : str l ++ str m = str (l ++ m) := by
  apply ByteArray.ext; simp [str]
theorem str_zero (l : List UInt8) : ByteArray.mk #[0] ++ str l = str (0 :: l) := str_append [0] l
theorem weighs_no (n : Nat) (hn : n < 18446744073709551616) (size : Int) (hr : ¬ room n size) (w : World) : Calls Try.prog 3 #[.int .u64 n, .int .i64 size] w fun e w' => e = .returned (.bool true) ∧ Below w.heap.size w w' := by
  have hP := put_noroom n hn size hr w
  have hR := fun w => Room_is n hn size w
  rw [show decide (room n size) = false by simpa using hr] at hR
  clear hr
  go_enter Try.func3, Try.ntmps3
  go_wp2_with fail
  refine hP.mono ?_
  rintro e w1 ⟨rfl, hb1⟩
  clear hP
  go_wp2_with (first | (go_at_call 11; refine (hR _).mono ?_; rintro e w' ⟨rfl, rfl⟩) | (go_at_call 12; refine (num_any _ _).mono ?_; rintro e w' ⟨rfl, rfl⟩) | (go_at_call 13; refine (known_any _).mono ?_; rintro e w2 ⟨rfl, hb2⟩))
  go_ret
  exact ⟨rfl, belT hb1 hb2⟩
set_option maxHeartbeats 1600000 in
theorem weighs_yes (n k : Nat) (hr : room n k) (w : World) : Calls Try.prog 3 #[.int .u64 n, .int .i64 k] w fun e w' => e = .returned (.bool true) ∧ Below w.heap.size w w' := by
  obtain ⟨h1, h2, h3⟩ := id hr
  simp only [Int.toNat_natCast] at h3
  have hn : n < 18446744073709551616 := Nat.lt_of_lt_of_le h3 (pow_le8 k (by omega))
  have hR := fun w => Room_is n hn k w
  rw [show decide (room n k) = true by simpa using hr] at hR
  have hP := put_room n k hr w
  have hv : val (be n k) = n := by rw [val_be]; exact Nat.mod_eq_of_lt h3
  have hG : ∀ w a c, Bs w a (be n k) → k ≤ c → Calls Try.prog 14 #[.slice a k c] w fun e w' => e = .returned (.tuple #[.int .u64 n, .int .i64 0]) ∧ w = w' := by
    intro w a c h hc
    have := Get_any a c (be n k) w h (by rw [be_length]; exact hc) (by rw [be_length]; omega) (by rw [be_length]; omega)
    rwa [be_length, hv] at this
  have hQ : ∀ w, Calls Try.prog 15 #[.int .u64 n, .int .i64 k] w fun e w' => (∃ a c, e = .returned (.slice a k c) ∧ Bs w' a (be n k)) ∧ Below w.heap.size w w' := by
    intro w
    refine (refPut_any n k h3 (by omega) w).mono ?_
    rintro e w' ⟨hb, v, rfl, ho⟩
    obtain ⟨a, c, rfl, hB, hc, _⟩ := ho.form
    exact ⟨⟨a, c, by rw [be_length], hB⟩, hb⟩
  have HG := Lib.hid hG
  have HQ := Lib.hid hQ
  have HR := Lib.hid hr
  have H3 := Lib.hid h3
  have hk8 : k ≤ 8 := by omega
  have hk1 : 1 ≤ k := by omega
  clear hG hQ hr h3 hv h1 h2
  go_enter Try.func3, Try.ntmps3
  go_wp2_with fail
  refine hP.mono ?_
  rintro e w1 ⟨⟨a1, c1, rfl, hc1, hB1⟩, hb1⟩
  clear hP
  go_wp2_with (go_at_call 11; refine (hR _).mono ?_; rintro e w' ⟨rfl, rfl⟩)
  refine (HG.out w1 a1 c1 hB1 hc1).mono ?_
  rintro e w' ⟨rfl, rfl⟩
  have k1 := conv_N a1 c1 k (be n k) (be_length _ _) w1.drew (hB1.below (Below.refl _ _).drew)
  have hK : ∀ w2, Below w1.heap.size w1 w2 → (convert 23 9 (.slice a1 k c1)).run Try.prog w2 = .ok (.string (str (be n k))) w2 := fun w2 h => conv_N a1 c1 k (be n k) (be_length _ _) w2 (hB1.below h)
  have HK := Lib.hid hK
  clear hK
  have hbe : ((str (be n k)).toList == (str (be n k)).toList) = true := by simp
  have hnn : ((n : Int) == (n : Int)) = true := by simp
  go_wp2_with fail
  have KF : ∀ w', Below w1.drew.heap.size w1.drew w' → (convert 23 9 (.slice a1 k c1)).run Try.prog w' = .ok (.string (str (be n k))) w' := fun w2 h => HK.out w2 (belT (Below.refl _ _).drew h)
  clear k1
  refine seq_start 20 [false, false, false, false, false, false, false, false, false, false, false, false, false, false, false, false, false, false, false, false] (by kernel_rfl) rfl rfl ?_
  refine seq_take 0 (v := ?_) rfl (by kernel_rfl) (fun _ _ _ h => h) (Or.inl ⟨by rfl, fun w' hb => ?_⟩) ?_
  rotate_left
  · have kf := KF w' hb
    go_simp
    with_reducible rfl
  simp only [Act.put, List.setIfInBounds_toArray, List.set_cons_zero, List.set_cons_succ]
  refine seq_take 1 (v := ?_) rfl (by kernel_rfl) (fun _ _ _ h => h) (Or.inl ⟨by rfl, fun w' hb => ?_⟩) ?_
  rotate_left
  · have kf := KF w' hb
    go_simp
    with_reducible rfl
  simp only [Act.put, List.setIfInBounds_toArray, List.set_cons_zero, List.set_cons_succ]
  refine seq_take 2 (v := ?_) rfl (by kernel_rfl) (fun _ _ _ h => h) (Or.inl ⟨by rfl, fun w' hb => ?_⟩) ?_
  rotate_left
  · have kf := KF w' hb
    go_simp
    with_reducible rfl
  simp only [Act.put, List.setIfInBounds_toArray, List.set_cons_zero, List.set_cons_succ]
  refine seq_take 3 (v := ?_) rfl (by kernel_rfl) (fun _ _ _ h => h) (Or.inl ⟨by rfl, fun w' hb => ?_⟩) ?_
  rotate_left
  · have kf := KF w' hb
    go_simp
    with_reducible rfl
  simp only [Act.put, List.setIfInBounds_toArray, List.set_cons_zero, List.set_cons_succ]
  refine seq_do 4 rfl (by kernel_rfl) (fun K hK => ?_)
  go_simp
  refine (HQ.out _).mono ?_
  rintro e w2 ⟨⟨a2, c2, rfl, hB2⟩, hb2⟩
  refine hK.out _ _ hb2 ?_
  clear hK K
  simp only [List.set_cons_zero, List.set_cons_succ]
  replace KF : ∀ w', Below w2.heap.size w2 w' → (convert 23 9 (.slice a2 k c2)).run Try.prog w' = .ok (.string (str (be n k))) w' := fun w' h => conv_N a2 c2 k (be n k) (be_length _ _) w' (hB2.below h)
  refine seq_take 5 (v := ?_) rfl (by kernel_rfl) (fun _ _ _ h => h) (Or.inl ⟨by rfl, fun w' hb => ?_⟩) ?_
  rotate_left
  · have kf := KF w' hb
    go_simp
    with_reducible rfl
  simp only [Act.put, List.setIfInBounds_toArray, List.set_cons_zero, List.set_cons_succ]
  refine seq_take 6 (v := ?_) rfl (by kernel_rfl) (fun _ _ _ h => h) (Or.inl ⟨by rfl, fun w' hb => ?_⟩) ?_
  rotate_left
  · have kf := KF w' hb
    go_simp
    with_reducible rfl
  simp only [Act.put, List.setIfInBounds_toArray, List.set_cons_zero, List.set_cons_succ]
  refine seq_take 7 (v := ?_) rfl (by kernel_rfl) (fun _ _ _ h => h) (Or.inl ⟨by rfl, fun w' hb => ?_⟩) ?_
  rotate_left
  · have kf := KF w' hb
    go_simp
    with_reducible rfl
  simp only [Act.put, List.setIfInBounds_toArray, List.set_cons_zero, List.set_cons_succ]
  refine seq_take 8 (v := ?_) rfl (by kernel_rfl) (fun _ _ _ h => h) (Or.inl ⟨by rfl, fun w' hb => ?_⟩) ?_
  rotate_left
  · have kf := KF w' hb
    go_simp
    with_reducible rfl
  simp only [Act.put, List.setIfInBounds_toArray, List.set_cons_zero, List.set_cons_succ]
  refine seq_take 9 (v := ?_) rfl (by kernel_rfl) (fun _ _ _ h => h) (Or.inl ⟨by rfl, fun w' hb => ?_⟩) ?_
  rotate_left
  · have kf := KF w' hb
    go_simp
    with_reducible rfl
  simp only [Act.put, List.setIfInBounds_toArray, List.set_cons_zero, List.set_cons_succ]
  refine seq_take 10 (v := ?_) rfl (by kernel_rfl) (fun _ _ _ h => h) (Or.inl ⟨by rfl, fun w' hb => ?_⟩) ?_
  rotate_left
  · have kf := KF w' hb
    go_simp
    with_reducible rfl
  simp only [Act.put, List.setIfInBounds_toArray, List.set_cons_zero, List.set_cons_succ]
  refine seq_take 11 (v := ?_) rfl (by kernel_rfl) (fun _ _ _ h => h) (Or.inl ⟨by rfl, fun w' hb => ?_⟩) ?_
  rotate_left
  · have kf := KF w' hb
    go_simp
    with_reducible rfl
  simp only [Act.put, List.setIfInBounds_toArray, List.set_cons_zero, List.set_cons_succ]
  refine seq_take 12 (v := ?_) rfl (by kernel_rfl) (fun _ _ _ h => h) (Or.inl ⟨by rfl, fun w' hb => ?_⟩) ?_
  rotate_left
  · have kf := KF w' hb
    go_simp
    with_reducible rfl
  simp only [Act.put, List.setIfInBounds_toArray, List.set_cons_zero, List.set_cons_succ]
  refine seq_take 13 (v := ?_) rfl (by kernel_rfl) (fun _ _ _ h => h) (Or.inl ⟨by rfl, fun w' hb => ?_⟩) ?_
  rotate_left
  · have kf := KF w' hb
    go_simp
    with_reducible rfl
  simp only [Act.put, List.setIfInBounds_toArray, List.set_cons_zero, List.set_cons_succ]
  refine seq_take 15 (v := ?_) rfl (by kernel_rfl) (fun _ _ _ h => h) (Or.inl ⟨by rfl, fun w' hb => ?_⟩) ?_
  rotate_left
  · have kf := KF w' hb
    go_simp
    with_reducible rfl
  simp only [Act.put, List.setIfInBounds_toArray, List.set_cons_zero, List.set_cons_succ]
  refine seq_do 14 rfl (by kernel_rfl) (fun K hK => ?_)
  go_simp
  go_at_call 12
  refine (num_any _ _).mono ?_
  rintro e w' ⟨rfl, rfl⟩
  refine hK.out _ _ (Below.refl _ _) ?_
  clear hK K
  simp only [List.set_cons_zero, List.set_cons_succ]
  refine seq_do 16 rfl (by kernel_rfl) (fun K hK => ?_)
  go_simp
  go_at_call 12
  refine (num_any _ _).mono ?_
  rintro e w' ⟨rfl, rfl⟩
  refine hK.out _ _ (Below.refl _ _) ?_
  clear hK K
  simp only [List.set_cons_zero, List.set_cons_succ]
  refine seq_take 17 (v := ?_) rfl (by kernel_rfl) (fun _ _ _ h => h) (Or.inl ⟨by rfl, fun w' hb => ?_⟩) ?_
  rotate_left
  · have kf := KF w' hb
    go_simp
    with_reducible rfl
  simp only [Act.put, List.setIfInBounds_toArray, List.set_cons_zero, List.set_cons_succ]
  refine seq_take 18 (v := ?_) rfl (by kernel_rfl) (fun _ _ _ h => h) (Or.inl ⟨by rfl, fun w' hb => ?_⟩) ?_
  rotate_left
  · have kf := KF w' hb
    go_simp
    with_reducible rfl
  simp only [Act.put, List.setIfInBounds_toArray, List.set_cons_zero, List.set_cons_succ]
  refine seq_take 19 (v := ?_) rfl (by kernel_rfl) (fun _ _ _ h => h) (Or.inl ⟨by rfl, fun w' hb => ?_⟩) ?_
  rotate_left
  · have kf := KF w' hb
    go_simp
    with_reducible rfl
  simp only [Act.put, List.setIfInBounds_toArray, List.set_cons_zero, List.set_cons_succ]
  refine seq_end (by kernel_rfl) ?_
  clear KF HK
  have hB12 := hB1.below (belT (Below.refl _ _).drew hb2)
  have hb12 : Below w.heap.size w w2 := belT hb1 (belT (Below.refl _ _).drew hb2)
  by_cases hk : k = 8
  · have hW : ∀ w, Calls Try.prog 10 #[.int .u64 n, .int .i64 ((k : Int) + 1)] w fun e w' => e = .returned (.tuple #[.slice none 0 0, .int .i64 2]) ∧ Below w.heap.size w w' :=
      fun w => put_noroom n hn ((k : Int) + 1) (fun h => by have := h.2.1; omega) w
    have hk8' : ((k : Int) == 8) = true := by simp; omega
    clear hk
    go_wp2_with fail
    refine (hW _).mono ?_
    rintro e w3 ⟨rfl, hb3⟩
    clear hW
    go_wp2_with (first | (go_at_call 12; refine (num_any _ _).mono ?_; rintro e w' ⟨rfl, rfl⟩) | (go_at_call 13; refine (known_any _).mono ?_; rintro e w4 ⟨rfl, hb4⟩))
    go_ret
    exact ⟨rfl, belT (belT hb12 hb3) hb4⟩
  · have hr2 : room n ((k + 1 : Nat) : Int) := ⟨by omega, by omega, by
      simp only [Int.toNat_natCast]; exact Nat.lt_of_lt_of_le H3.out (Nat.pow_le_pow_right (by omega) (by omega))⟩
    have hW : ∀ w, Calls Try.prog 10 #[.int .u64 n, .int .i64 ((k : Int) + 1)] w fun e w' => (∃ a c, e = .returned (.tuple #[.slice a (k + 1) c, .int .i64 0]) ∧ k + 1 ≤ c ∧ Bs w' a (0 :: be n k)) ∧ Below w.heap.size w w' := by
      intro w
      have := put_room n (k + 1) hr2 w
      rw [be_wide n k H3.out] at this
      exact this
    have hk8' : ((k : Int) == 8) = false := by simp; omega
    clear hk hr2
    go_wp2_with fail
    refine (hW _).mono ?_
    rintro e w3 ⟨⟨a3, c3, rfl, hc3, hB3⟩, hb3⟩
    clear hW
    have k3 := conv_N a3 c3 (k + 1) (0 :: be n k) (by simp [be_length]) w3 hB3
    have k1 := conv_N a1 c1 k (be n k) (be_length _ _) w3 (hB12.below hb3)
    have hcat : ((str (0 :: be n k)).toList == (ByteArray.mk #[0] ++ str (be n k)).toList) = true := by rw [str_zero, beq_iff_eq]
    have hsz : ¬ 9223372036854775807 < 1 + (str (be n k)).size := by rw [str_size, be_length]; omega
    go_wp2_with (first | (go_at_call 12; refine (num_any _ _).mono ?_; rintro e w' ⟨rfl, rfl⟩) | (go_at_call 13; refine (known_any _).mono ?_; rintro e w4 ⟨rfl, hb4⟩))
    go_ret
    exact ⟨rfl, belT (belT hb12 hb3) hb4⟩
theorem weighs_any (n : Nat) (hn : n < 18446744073709551616) (size : Int) (w : World) : Calls Try.prog 3 #[.int .u64 n, .int .i64 size] w fun e w' => e = .returned (.bool true) ∧ Below w.heap.size w w' := by
  by_cases hr : room n size
  · obtain ⟨k, rfl⟩ : ∃ k : Nat, size = (k : Int) := ⟨size.toNat, by have := hr.1; omega⟩
    exact weighs_yes n k hr w
  · exact weighs_no n hn size hr w
end Go.Proofs.Ytcfcdnoebgdfeaa

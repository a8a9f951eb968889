/- Contracts of wire's fits, Put, Get. -/
import Derived.Test.YtokijkinlcdjeaaBase
import Derived.Test.YtokijkinlcdjeaaMath
namespace Go.Proofs.Ytokijkinlcdjeaa
open Go.RowKit WireM
theorem fits_any (size : Int) (w : World) : Calls Try.prog 28 #[.int .i64 size] w fun e w' => e = .returned (.bool (decide (0 < size ∧ size ≤ 8))) ∧ w = w' := by
  by_cases h : 0 < size
  · by_cases h8 : size ≤ 8
    · have : decide (0 < size ∧ size ≤ 8) = true := by simp [h, h8]
      rw [this]
      go_enter Try.func28, Try.ntmps28
      go_wp2
      go_ret
      exact ⟨rfl, rfl⟩
    · have : decide (0 < size ∧ size ≤ 8) = false := by simp [h, h8]
      rw [this]
      go_enter Try.func28, Try.ntmps28
      go_wp2
      go_ret
      exact ⟨rfl, rfl⟩
  · have : decide (0 < size ∧ size ≤ 8) = false := by simp [h]
    rw [this]
    go_enter Try.func28, Try.ntmps28
    go_wp2
    go_ret
    exact ⟨rfl, rfl⟩
theorem set_low (n k j : Nat) (h : j < k) : (List.replicate (k - j) 0 ++ be n j).set (k - 1 - j) (UInt8.ofNat (n / 256 ^ j)) = List.replicate (k - (j + 1)) 0 ++ be n (j + 1) := by
  rw [show k - j = (k - (j + 1)) + 1 by omega, List.replicate_succ', List.append_assoc, List.set_append_right _ _ (by simp; omega)]
  congr 1
  simp only [List.length_replicate, show k - 1 - j - (k - (j + 1)) = 0 by omega]
  simp [be]
/-- Put fills: any number, a size that fits -/
theorem put_bad (n : Int) (size : Int) (h : ¬ (0 < size ∧ size ≤ 8)) (w : World) : Calls Try.prog 46 #[.int .u64 n, .int .i64 size] w fun e w' => e = .returned (.tuple #[.slice none 0 0, .int .i64 2]) ∧ w = w' := by
  have hd : decide (0 < size ∧ size ≤ 8) = false := by simpa using h
  have hf := fits_any size w
  rw [hd] at hf
  go_enter Try.func46, Try.ntmps46
  go_wp2_with (go_at_call 28; refine hf.mono ?_; rintro e w' ⟨rfl, rfl⟩)
  go_ret2
  exact ⟨rfl, rfl⟩
set_option maxHeartbeats 800000 in
theorem put_fits (n k : Nat) (hn : n < 18446744073709551616) (h0 : 0 < k) (h8 : k ≤ 8) (w : World) : Calls Try.prog 46 #[.int .u64 n, .int .i64 k] w fun e w' =>
    Below w.heap.size w w' ∧ ((n < 256 ^ k ∧ ∃ v, e = .returned (.tuple #[v, .int .i64 0]) ∧ OwnB w' w.heap.size v (be n k)) ∨ (¬ n < 256 ^ k ∧ e = .returned (.tuple #[.slice none 0 0, .int .i64 2]))) := by
  have hd : decide (0 < (k : Int) ∧ (k : Int) ≤ 8) = true := by simp; omega
  have hf := fits_any k w
  rw [hd] at hf
  go_enter Try.func46, Try.ntmps46
  go_wp2_with (first | (go_at_call 28; refine hf.mono ?_; rintro e w' ⟨rfl, rfl⟩) | (refine wpList_make_b rfl (.tmp 11) (.tmp 11) rfl w.heap.size k _ rfl rfl rfl (by omega) (Nat.le_refl _) ?_; intro w1 hown1 hg1))
  have hb1 : Below w.heap.size w w1 := below_grown hg1
  clear hf hd hg1
  go_wp2_with fail
  go_loopw [0, 7] (fun x a wr => ∃ j : Nat, j ≤ k ∧ x = .int .u64 ((n / 256 ^ j : Nat) : Int) ∧ a = .int .i64 ((k : Int) - 1 - (j : Int)) ∧ OwnB wr w.heap.size (.slice (some ⟨w.heap.size, 0, none⟩) k k) (List.replicate (k - j) 0 ++ be n j) ∧ Below w.heap.size w wr) (fun _ a _ => (intOf a + 1).toNat)
  case atStart => exact ⟨0, by omega, by simp, by simp, by simpa [be] using hown1, hb1⟩
  case round =>
    clear hown1 hb1
    obtain ⟨j, hj, rfl, rfl, hown, hbel⟩ := hrel
    have hlen : (List.replicate (k - j) (0 : UInt8) ++ be n j).length = k := by simp [be_length]; omega
    have hX : n / 256 ^ j ≤ n := Nat.div_le_self _ _
    by_cases hjk : j < k
    · obtain ⟨hc, hfz⟩ := hown.cell hlen.symm (k - 1 - j) (by rw [hlen]; omega)
      obtain ⟨c0, hc0⟩ : ∃ c0, (List.replicate (k - j) (0 : UInt8) ++ be n j)[k - 1 - j]'(by rw [hlen]; omega) = c0 := ⟨_, rfl⟩
      rw [hc0] at hc
      clear hc0
      have hst := hown.set hlen.symm (k - 1 - j) (by rw [hlen]; omega) (UInt8.ofNat (n / 256 ^ j))
      rw [set_low n k j hjk, ofNat_toNat8] at hst
      have hnx : n / 256 ^ (j + 1) = n / 256 ^ j / 256 := by rw [Nat.pow_succ, Nat.div_div_eq_div_mul]
      have HNX := Lib.hid hnx
      have hidx : (k : Int) - 1 - (j : Int) = ((k - 1 - j : Nat) : Int) := by omega
      have HI := Lib.hid hidx
      rw [hidx]
      obtain ⟨X, hXe⟩ : ∃ X, n / 256 ^ j = X := ⟨_, rfl⟩
      rw [hXe] at hX hst HNX ⊢
      obtain ⟨p, hp⟩ : ∃ p, k - 1 - j = p := ⟨_, rfl⟩
      have hpk : p < k := by omega
      have HP := Lib.hid hp
      rw [hp] at hc hfz hst ⊢
      have HST := Lib.hid hst
      have hXI : (X : Int) < 18446744073709551616 := by omega
      clear hst hnx hidx hXe hp hlen hown
      go_wp2
      go_roundw
      case rel => 
        refine ⟨j + 1, by omega, ?_, ?_, ?_, ?_⟩
        · rw [HNX.out]; first | rfl | simp
        · have := HP.out; congr 1; omega
        · exact HST.out.1
        · exact hbel.grown HST.out.2 hbel.size (fun k hk => by cases hk; exact Nat.le_refl _)
      case measure => simp [intOf]
    · obtain rfl : k = j := by omega
      simp only [Nat.sub_self, List.replicate_zero, List.nil_append] at hown
      clear hlen hjk hj
      by_cases hr : n < 256 ^ k
      · have hz : n / 256 ^ k = 0 := Nat.div_eq_of_lt hr
        rw [hz]
        have HR := Lib.hid hr
        clear hr hz hX
        go_wp2
        go_ret2
        exact ⟨hbel, .inl ⟨HR.out, _, rfl, hown⟩⟩
      · have hz : 0 < n / 256 ^ k := Nat.div_pos (by omega) (Nat.pow_pos (by omega))
        obtain ⟨X, hXe⟩ : ∃ X, n / 256 ^ k = X := ⟨_, rfl⟩
        rw [hXe] at hz hX ⊢
        have HR := Lib.hid hr
        clear hXe hr
        go_wp2
        go_ret2
        exact ⟨hbel, .inr ⟨HR.out, rfl⟩⟩
theorem pow_le7 (j : Nat) (h : j ≤ 7) : 256 ^ j ≤ 72057594037927936 := by
  have : ∀ j : Fin 8, 256 ^ j.1 ≤ 72057594037927936 := by decide
  exact this ⟨j, by omega⟩
theorem pow_le8 (j : Nat) (h : j ≤ 8) : 256 ^ j ≤ 18446744073709551616 := by
  have : ∀ j : Fin 9, 256 ^ j.1 ≤ 18446744073709551616 := by decide
  exact this ⟨j, by omega⟩
theorem val_drop (l : List UInt8) (j : Nat) (h : j < l.length) : val (l.drop j) = (l[j]).toNat * 256 ^ (l.length - 1 - j) + val (l.drop (j + 1)) := by
  rw [List.drop_eq_getElem_cons h]
  simp only [val, List.length_drop]
  rw [show l.length - (j + 1) = l.length - 1 - j by omega]
theorem val_take_drop (l : List UInt8) (j : Nat) (h : j < l.length) : val (l.drop (l.length - (j + 1))) = (l[l.length - 1 - j]).toNat * 256 ^ j + val (l.drop (l.length - j)) := by
  rw [show l.length - (j + 1) = l.length - 1 - j by omega, val_drop l (l.length - 1 - j) (by omega)]
  rw [show l.length - 1 - (l.length - 1 - j) = j by omega, show l.length - 1 - j + 1 = l.length - j by omega]
theorem val_drop_le (l : List UInt8) (k : Nat) : val (l.drop k) ≤ val l := by
  have := val_append (l.take k) (l.drop k)
  rw [List.take_append_drop] at this
  omega
theorem Get_bad (a : Option Addr) (cap n : Nat) (w : World) (h : ¬ (0 < n ∧ n ≤ 8)) :
    Calls Try.prog 18 #[.slice a n cap] w fun e w' => e = .returned (.tuple #[.int .u64 0, .int .i64 2]) ∧ w = w' := by
  have hd : decide (0 < (n : Int) ∧ (n : Int) ≤ 8) = false := by simp; omega
  have hf := fits_any n w
  rw [hd] at hf
  go_enter Try.func18, Try.ntmps18
  go_wp2_with (go_at_call 28; refine hf.mono ?_; rintro e w' ⟨rfl, rfl⟩)
  go_ret2
  exact ⟨rfl, rfl⟩
set_option maxRecDepth 100000 in
set_option maxHeartbeats 800000 in
theorem Get_any (a : Option Addr) (cap : Nat) (l : List UInt8) (w : World) (h : Bs w a l) (hcap : l.length ≤ cap) (h0 : 0 < l.length) (h8 : l.length ≤ 8) :
    Calls Try.prog 18 #[.slice a l.length cap] w fun e w' => e = .returned (.tuple #[.int .u64 ((val l : Nat) : Int), .int .i64 0]) ∧ w = w' := by
  have hv : val l < 18446744073709551616 := Nat.lt_of_lt_of_le (val_lt l) (pow_le8 _ h8)
  have hd : decide (0 < (l.length : Int) ∧ (l.length : Int) ≤ 8) = true := by simp; omega
  have hf := fits_any l.length w
  rw [hd] at hf
  obtain ⟨b, o, rfl⟩ := h.ex h0
  go_enter Try.func18, Try.ntmps18
  go_wp2_with (go_at_call 28; refine hf.mono ?_; rintro e w' ⟨rfl, rfl⟩)
  clear hf hd
  go_loop [0, 2, 4] (fun s x i => ∃ (j X : Nat), j ≤ l.length ∧ s = .slice (some ⟨b, o, none⟩) (l.length - j) cap ∧ i = .int .u64 ((8 * j : Nat) : Int) ∧ x = .int .u64 (X : Int) ∧ Hid (X = val (l.drop (l.length - j)))) (fun s _ _ => match s with | .slice _ n _ => n | _ => 0)
  case atStart => exact ⟨0, 0, by omega, rfl, rfl, rfl, by simp [Hid, val]⟩
  case round =>
    obtain ⟨j, X, hj, rfl, rfl, rfl, HX⟩ := hrel
    by_cases hjl : j < l.length
    · have hc := h.cell b o rfl (l.length - 1 - j) (by omega)
      have hvd := val_take_drop l j hjl
      have hle := val_drop_le l (l.length - (j + 1))
      obtain ⟨c, hcc⟩ : ∃ c, l[l.length - 1 - j]'(by omega) = c := ⟨_, rfl⟩
      rw [hcc] at hc hvd
      clear hcc
      have hct := c.toNat_lt
      obtain ⟨q, hq⟩ : ∃ q, l.length - j = q := ⟨_, rfl⟩
      obtain ⟨p, hp⟩ : ∃ p, l.length - 1 - j = p := ⟨_, rfl⟩
      have hqp : q = p + 1 := by omega
      rw [hp] at hc
      rw [hvd, ← HX.out] at hle
      rw [← HX.out] at hvd
      have HV := Lib.hid hvd
      obtain ⟨M, hM⟩ : ∃ M, c.toNat * 256 ^ j = M := ⟨_, rfl⟩
      rw [hM] at hle
      have HM := Lib.hid hM
      have hsh : (c.toNat : Int) * 2 ^ (8 * j) = (M : Int) := by
        have e : (2 ^ (8 * j) : Nat) = 256 ^ j := by rw [Nat.pow_mul]
        have e2 : (2 : Int) ^ (8 * j) = ((256 ^ j : Nat) : Int) := by rw [← e]; simp
        rw [← hM, e2]; simp
      obtain ⟨s, hs⟩ : ∃ s, 8 * j = s := ⟨_, rfl⟩
      rw [hs] at hsh ⊢
      have hs64 : s < 64 := by omega
      have HS := Lib.hid hs
      clear hs
      have hw4 : IntKind.u64.wrap (M : Int) = (M : Int) := by rw [IntKind.wrap_u64]; omega
      have hw5 : IntKind.u64.wrap ((X : Int) + (M : Int)) = (X : Int) + (M : Int) := by rw [IntKind.wrap_u64]; omega
      have hcb : (0 : Int) ≤ (c.toNat : Int) ∧ (c.toNat : Int) ≤ 255 := by omega
      have hpp : p < cap := by omega
      have hp8 : p < 8 := by omega
      have hj8 : j < 8 := by omega
      have hqs : l.length - (j + 1) = p := by omega
      have HQ := Lib.hid hqs
      rw [hq]
      clear hvd hM hct hle hqs
      subst hqp
      clear hq hp
      go_wp2_with fail
      go_round
      case rel => exact ⟨j + 1, X + M, by omega, by rw [HQ.out], by have := HS.out; congr 1; omega, by simp, by have := HV.out; have := HM.out; show _ = _; omega⟩
      case measure => simp
    · have hX := HX.out
      have hz : l.length - j = 0 := by omega
      rw [hz] at hX ⊢
      have hXe : X = val l := by simpa using hX
      have HE := Lib.hid hXe
      clear hX hXe hz hv
      go_wp2_with fail
      go_ret2
      exact ⟨by rw [HE.out]; rfl, rfl⟩
theorem take_be (n k j : Nat) (h : j < k) : (be n k).take (j + 1) = (be n k).take j ++ [UInt8.ofNat (n / 256 ^ (k - 1 - j))] := by
  rw [take_snoc _ j (by rw [be_length]; exact h), be_get]
theorem OwnB.mono {w : World} {base base' : Nat} {v : Value} {l : List UInt8} (h : OwnB w base v l) (hb : base' ≤ base) : OwnB w base' v l := by
  rcases h.2 with ⟨h', h2⟩ | ⟨g', cap', cur, h', hg', hr⟩
  · exact ⟨h.1, .inl ⟨h', h2⟩⟩
  · exact ⟨h.1, .inr ⟨g', cap', cur, h', Nat.le_trans hb hg', hr⟩⟩
def blobL (l : List UInt8) : List UInt8 := be l.length 2 ++ l
theorem be_two (n : Nat) : be n 2 = [UInt8.ofNat (n / 256), UInt8.ofNat n] := by simp [be]
/-- Put, all ways -/
theorem put_room (n k : Nat) (hr : room n k) (w : World) : Calls Try.prog 46 #[.int .u64 n, .int .i64 k] w fun e w' => (∃ a c, e = .returned (.tuple #[.slice a k c, .int .i64 0]) ∧ k ≤ c ∧ Bs w' a (be n k)) ∧ Below w.heap.size w w' := by
  obtain ⟨h1, h2, h3⟩ := hr
  simp only [Int.toNat_natCast] at h3
  have hn : n < 18446744073709551616 := Nat.lt_of_lt_of_le h3 (pow_le8 k (by omega))
  refine (put_fits n k hn (by omega) (by omega) w).mono ?_
  rintro e w' ⟨hb, h⟩
  rcases h with ⟨_, v, rfl, ho⟩ | ⟨h, _⟩
  · obtain ⟨a, c, rfl, hB, hc, _⟩ := ho.form
    rw [be_length] at hc
    exact ⟨⟨a, c, by rw [be_length], hc, hB⟩, hb⟩
  · omega
theorem put_noroom (n : Nat) (hn : n < 18446744073709551616) (size : Int) (hr : ¬ room n size) (w : World) : Calls Try.prog 46 #[.int .u64 n, .int .i64 size] w fun e w' => e = .returned (.tuple #[.slice none 0 0, .int .i64 2]) ∧ Below w.heap.size w w' := by
  by_cases h : 0 < size ∧ size ≤ 8
  · obtain ⟨k, rfl⟩ : ∃ k : Nat, size = (k : Int) := ⟨size.toNat, by omega⟩
    refine (put_fits n k hn (by omega) (by omega) w).mono ?_
    rintro e w' ⟨hb, h'⟩
    rcases h' with ⟨h', _⟩ | ⟨_, h'⟩
    · exact absurd ⟨by omega, by omega, by simpa using h'⟩ hr
    · exact ⟨h', hb⟩
  · refine (put_bad n size h w).mono ?_
    rintro e w' ⟨rfl, rfl⟩
    exact ⟨rfl, Below.refl _ _⟩
theorem str_size (l : List UInt8) : (str l).size = l.length := rfl
theorem str_append (l m : List UInt8) : str l ++ str m = str (l ++ m) := by
  apply ByteArray.ext; simp [str]
end Go.Proofs.Ytokijkinlcdjeaa

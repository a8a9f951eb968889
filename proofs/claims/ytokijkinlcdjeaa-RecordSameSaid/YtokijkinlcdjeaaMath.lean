/- Bytes by their weights: plain lists and numbers. -/
import Derived.Test.YtokijkinlcdjeaaRows
namespace Go.Proofs.Ytokijkinlcdjeaa.WireM

/-- the number that bytes write -/
def val : List UInt8 → Nat
  | [] => 0
  | c :: l => c.toNat * 256 ^ l.length + val l
/-- a number in so many bytes -/
def be (n : Nat) : Nat → List UInt8
  | 0 => []
  | k+1 => UInt8.ofNat (n / 256 ^ k) :: be n k
theorem be_length (n k : Nat) : (be n k).length = k := by
  induction k with
  | zero => rfl
  | succ k ih => simp [be, ih]
theorem ofNat_toNat8 (x : Nat) : (UInt8.ofNat x).toNat = x % 256 := by simp
theorem val_lt (l : List UInt8) : val l < 256 ^ l.length := by
  induction l with
  | nil => simp [val]
  | cons c l ih =>
    simp only [val, List.length_cons, Nat.pow_succ]
    have := c.toNat_lt
    have : c.toNat * 256 ^ l.length + 256 ^ l.length ≤ 256 * 256 ^ l.length := by
      rw [← Nat.succ_mul]; exact Nat.mul_le_mul_right _ (by omega)
    omega
theorem val_append (l m : List UInt8) : val (l ++ m) = val l * 256 ^ m.length + val m := by
  induction l with
  | nil => simp [val]
  | cons c l ih =>
    simp only [List.cons_append, val, ih, List.length_append, Nat.pow_add, Nat.add_mul, Nat.mul_assoc, Nat.add_assoc]
theorem val_be (n k : Nat) : val (be n k) = n % 256 ^ k := by
  induction k with
  | zero => simp [be, val, Nat.mod_one]
  | succ k ih =>
    simp only [be, val, be_length, ih, ofNat_toNat8, Nat.pow_succ]
    rw [Nat.mod_mul (a := 256 ^ k) (b := 256)]
    rw [Nat.mul_comm, Nat.add_comm]
theorem val_inj (a b : List UInt8) (h : a.length = b.length) (hv : val a = val b) : a = b := by
  induction a generalizing b with
  | nil => exact (List.eq_nil_of_length_eq_zero (by simpa using h.symm)).symm
  | cons c a ih =>
    cases b with
    | nil => simp at h
    | cons d b =>
      have hl : a.length = b.length := by simpa using h
      simp only [val, hl] at hv
      have h1 := val_lt a
      have h2 := val_lt b
      rw [hl] at h1
      have hcd : c.toNat = d.toNat := by
        have e1 : (c.toNat * 256 ^ b.length + val a) / 256 ^ b.length = c.toNat := by
          rw [Nat.mul_comm, Nat.mul_add_div (by exact Nat.pow_pos (by omega)), Nat.div_eq_of_lt h1]; omega
        have e2 : (d.toNat * 256 ^ b.length + val b) / 256 ^ b.length = d.toNat := by
          rw [Nat.mul_comm, Nat.mul_add_div (by exact Nat.pow_pos (by omega)), Nat.div_eq_of_lt h2]; omega
        rw [← e1, hv, e2]
      rw [UInt8.toNat_inj.1 hcd, ih b hl (by rw [hcd] at hv; omega)]
theorem be_val (l : List UInt8) : be (val l) l.length = l :=
  val_inj _ _ (be_length _ _) (by rw [val_be]; exact Nat.mod_eq_of_lt (val_lt l))
theorem be_mod (n k : Nat) : be (n % 256 ^ k) k = be n k :=
  val_inj _ _ (by rw [be_length, be_length]) (by rw [val_be, val_be, Nat.mod_mod])
theorem be_get (n k i : Nat) (h : i < (be n k).length) : (be n k)[i] = UInt8.ofNat (n / 256 ^ (k - 1 - i)) := by
  induction k generalizing i with
  | zero => simp [be] at h
  | succ k ih =>
    cases i with
    | zero => simp [be]
    | succ i =>
      simp only [be, List.getElem_cons_succ]
      rw [ih]
      congr 3
      omega
theorem be_drop (n k i : Nat) (h : i ≤ k) : (be n k).drop (k - i) = be n i := by
  induction k with
  | zero => rw [show i = 0 by omega]; rfl
  | succ k ih =>
    by_cases e : i = k + 1
    · subst e; simp
    · rw [show k + 1 - i = (k - i) + 1 by omega]
      simp only [be, List.drop_succ_cons]
      exact ih (by omega)
/-- a number with room ahead of it -/
theorem be_wide (n k : Nat) (h : n < 256 ^ k) : be n (k + 1) = 0 :: be n k := by
  simp only [be, Nat.div_eq_of_lt h]; rfl
def room (n : Nat) (size : Int) : Prop := 1 ≤ size ∧ size ≤ 8 ∧ n < 256 ^ size.toNat
instance (n : Nat) (size : Int) : Decidable (room n size) := by unfold room; infer_instance
/-- order of numbers is order of texts of one length -/
theorem val_order (a b : List UInt8) (h : a.length = b.length) : (val a < val b ↔ a < b) := by
  induction a generalizing b with
  | nil =>
    obtain rfl : b = [] := List.eq_nil_of_length_eq_zero (by simpa using h.symm)
    simp [val]
  | cons c a ih =>
    cases b with
    | nil => simp at h
    | cons d b =>
      have hl : a.length = b.length := by simpa using h
      have h1 := val_lt a
      have h2 := val_lt b
      rw [hl] at h1
      simp only [val, hl]
      rw [List.cons_lt_cons_iff]
      have hP : 0 < 256 ^ b.length := Nat.pow_pos (by omega)
      rcases Nat.lt_trichotomy c.toNat d.toNat with hcd | hcd | hcd
      · have : c.toNat * 256 ^ b.length + 256 ^ b.length ≤ d.toNat * 256 ^ b.length := by
          rw [← Nat.succ_mul]; exact Nat.mul_le_mul_right _ hcd
        constructor
        · intro _; left; exact UInt8.lt_iff_toNat_lt.2 hcd
        · intro _; omega
      · have e : c = d := UInt8.toNat_inj.1 hcd
        subst e
        constructor
        · intro h'; right; exact ⟨rfl, (ih b hl).1 (by omega)⟩
        · rintro (h' | ⟨_, h'⟩)
          · exact absurd (UInt8.lt_iff_toNat_lt.1 h') (by omega)
          · have := (ih b hl).2 h'; omega
      · have : d.toNat * 256 ^ b.length + 256 ^ b.length ≤ c.toNat * 256 ^ b.length := by
          rw [← Nat.succ_mul]; exact Nat.mul_le_mul_right _ hcd
        constructor
        · intro h'; omega
        · rintro (h' | ⟨h', _⟩)
          · exact absurd (UInt8.lt_iff_toNat_lt.1 h') (by omega)
          · rw [h'] at hcd; omega
end Go.Proofs.Ytokijkinlcdjeaa.WireM

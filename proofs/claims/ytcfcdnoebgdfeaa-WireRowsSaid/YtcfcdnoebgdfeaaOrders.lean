/- WireOrders: the walk. -/
import Derived.Test.YtcfcdnoebgdfeaaKnown
namespace Go.Proofs.Ytcfcdnoebgdfeaa
open Go.RowKit WireM

theorem bytesLess_iff (l m : List UInt8) : Op.bytesLess l m = true ↔ l < m := by
  induction l generalizing m with
  | nil => cases m <;> simp [Op.bytesLess]
  | cons a l ih =>
    cases m with
    | nil => simp [Op.bytesLess]
    | cons b m =>
      rw [List.cons_lt_cons_iff]
      simp [Op.bytesLess, ih]
def okLen (l : List UInt8) : Prop := 0 < l.length ∧ l.length ≤ 8
theorem Get_yes (a : Option Addr) (cap : Nat) (l : List UInt8) (w : World) (h : Bs w a l) (hcap : l.length ≤ cap) (ho : okLen l) :
    Calls Try.prog 14 #[.slice a l.length cap] w fun e w' => e = .returned (.tuple #[.int .u64 ((val l : Nat) : Int), .int .i64 0]) ∧ w = w' := Get_any a cap l w h hcap ho.1 ho.2
theorem orders_out (a b : Option Addr) (ca cb : Nat) (la lb : List UInt8) (w : World) (h : 9000 < la.length ∨ 9000 < lb.length) (h1 : la.length ≤ 9223372036854775807) (h2 : lb.length ≤ 9223372036854775807) :
    Calls Try.prog 4 #[.slice a la.length ca, .slice b lb.length cb] w fun e w' => e = .returned (.bool true) ∧ Below w.heap.size w w' := by
  rcases Nat.lt_or_ge 9000 la.length with h' | h'
  · clear h
    go_enter Try.func4, Try.ntmps4
    go_wp2_with (go_at_call 13; refine (known_any _).mono ?_; rintro e w1 ⟨rfl, hb1⟩)
    go_ret
    exact ⟨rfl, hb1⟩
  · have h'' : 9000 < lb.length := by omega
    clear h
    go_enter Try.func4, Try.ntmps4
    go_wp2_with (go_at_call 13; refine (known_any _).mono ?_; rintro e w1 ⟨rfl, hb1⟩)
    go_ret
    exact ⟨rfl, hb1⟩
set_option maxHeartbeats 1600000 in
theorem orders_nn (a b : Option Addr) (ca cb : Nat) (la lb : List UInt8) (w : World) (h1 : la.length ≤ 9000) (h2 : lb.length ≤ 9000) (ha : ¬ okLen la) (hb : ¬ okLen lb) :
    Calls Try.prog 4 #[.slice a la.length ca, .slice b lb.length cb] w fun e w' => e = .returned (.bool true) ∧ Below w.heap.size w w' := by
  have GA := fun w => Get_bad a ca la.length w ha
  have GB := fun w => Get_bad b cb lb.length w hb
  have ha' : la.length < 1 ∨ 8 < la.length := by unfold okLen at ha; omega
  have hb' : lb.length < 1 ∨ 8 < lb.length := by unfold okLen at hb; omega
  clear ha hb
  rcases ha' with ha' | ha' <;> rcases hb' with hb' | hb'
  all_goals
    go_enter Try.func4, Try.ntmps4
    go_wp2_with fail
    refine (GA _).mono ?_
    rintro e w' ⟨rfl, rfl⟩
    go_wp2_with fail
    refine (GB _).mono ?_
    rintro e w' ⟨rfl, rfl⟩
    go_wp2_with (first | (go_at_call 12; refine (num_any _ _).mono ?_; rintro e w' ⟨rfl, rfl⟩) | (go_at_call 13; refine (known_any _).mono ?_; rintro e w1 ⟨rfl, hb1⟩))
    go_ret
    exact ⟨rfl, hb1⟩
set_option maxHeartbeats 1600000 in
theorem orders_yn (a b : Option Addr) (ca cb : Nat) (la lb : List UInt8) (w : World) (hB : Bs w a la) (hc : la.length ≤ ca) (h1 : la.length ≤ 9000) (h2 : lb.length ≤ 9000) (ha : okLen la) (hb : ¬ okLen lb) :
    Calls Try.prog 4 #[.slice a la.length ca, .slice b lb.length cb] w fun e w' => e = .returned (.bool true) ∧ Below w.heap.size w w' := by
  have GA := Get_yes a ca la w hB hc ha
  have GB := fun w => Get_bad b cb lb.length w hb
  obtain ⟨ha1, ha2⟩ := ha
  have hb' : lb.length < 1 ∨ 8 < lb.length := by unfold okLen at hb; omega
  clear hb hB
  obtain ⟨n, hn⟩ : ∃ n, val la = n := ⟨_, rfl⟩
  rw [hn] at GA
  clear hn
  rcases hb' with hb' | hb'
  all_goals
    go_enter Try.func4, Try.ntmps4
    go_wp2_with fail
    refine GA.mono ?_
    rintro e w' ⟨rfl, rfl⟩
    go_wp2_with fail
    refine (GB _).mono ?_
    rintro e w' ⟨rfl, rfl⟩
    go_wp2_with (first | (go_at_call 12; refine (num_any _ _).mono ?_; rintro e w' ⟨rfl, rfl⟩) | (go_at_call 13; refine (known_any _).mono ?_; rintro e w1 ⟨rfl, hb1⟩))
    go_ret
    exact ⟨rfl, hb1⟩
set_option maxHeartbeats 1600000 in
theorem orders_ny (a b : Option Addr) (ca cb : Nat) (la lb : List UInt8) (w : World) (hB : Bs w b lb) (hc : lb.length ≤ cb) (h1 : la.length ≤ 9000) (h2 : lb.length ≤ 9000) (ha : ¬ okLen la) (hb : okLen lb) :
    Calls Try.prog 4 #[.slice a la.length ca, .slice b lb.length cb] w fun e w' => e = .returned (.bool true) ∧ Below w.heap.size w w' := by
  have GA := fun w => Get_bad a ca la.length w ha
  have GB := Get_yes b cb lb w hB hc hb
  obtain ⟨hb1, hb2⟩ := hb
  have ha' : la.length < 1 ∨ 8 < la.length := by unfold okLen at ha; omega
  clear ha hB
  obtain ⟨n, hn⟩ : ∃ n, val lb = n := ⟨_, rfl⟩
  rw [hn] at GB
  clear hn
  rcases ha' with ha' | ha'
  all_goals
    go_enter Try.func4, Try.ntmps4
    go_wp2_with fail
    refine (GA _).mono ?_
    rintro e w' ⟨rfl, rfl⟩
    go_wp2_with fail
    refine GB.mono ?_
    rintro e w' ⟨rfl, rfl⟩
    go_wp2_with (first | (go_at_call 12; refine (num_any _ _).mono ?_; rintro e w' ⟨rfl, rfl⟩) | (go_at_call 13; refine (known_any _).mono ?_; rintro e w1 ⟨rfl, hb1⟩))
    go_ret
    exact ⟨rfl, hb1⟩
theorem order_facts (la lb : List UInt8) (h : la.length = lb.length) : ∃ n m, val la = n ∧ val lb = m ∧
    ((n < m ∧ ((n : Int) == (m : Int)) = false ∧ Op.bytesLess (str la).toList (str lb).toList = true ∧ ((str la).toList == (str lb).toList) = false) ∨
     (n = m ∧ Op.bytesLess (str la).toList (str lb).toList = false ∧ ((str la).toList == (str lb).toList) = true) ∨
     (m < n ∧ ((n : Int) == (m : Int)) = false ∧ Op.bytesLess (str la).toList (str lb).toList = false ∧ ((str la).toList == (str lb).toList) = false)) := by
  refine ⟨_, _, rfl, rfl, ?_⟩
  have e2 : Op.bytesLess (str la).toList (str lb).toList = decide (val la < val lb) := by
    rw [str_toList, str_toList, Bool.eq_iff_iff, bytesLess_iff, decide_eq_true_eq, val_order la lb h]
  have e4 : ((str la).toList == (str lb).toList) = decide (val la = val lb) := by
    rw [str_beq, decide_eq_decide]
    exact ⟨fun e => by rw [e], fun e => val_inj la lb h e⟩
  rw [e2, e4]
  rcases Nat.lt_trichotomy (val la) (val lb) with h' | h' | h'
  · exact .inl ⟨h', by simp; omega, by simpa using h', by simp; omega⟩
  · exact .inr (.inl ⟨h', by simp; omega, by simpa using h'⟩)
  · exact .inr (.inr ⟨h', by simp; omega, by simp; omega, by simp; omega⟩)
set_option maxHeartbeats 3200000 in
theorem orders_yy (a b : Option Addr) (ca cb : Nat) (la lb : List UInt8) (w : World) (hA : Bs w a la) (hB : Bs w b lb) (hca : la.length ≤ ca) (hc : lb.length ≤ cb) (h1 : la.length ≤ 9000) (h2 : lb.length ≤ 9000) (ha : okLen la) (hb : okLen lb) :
    Calls Try.prog 4 #[.slice a la.length ca, .slice b lb.length cb] w fun e w' => e = .returned (.bool true) ∧ Below w.heap.size w w' := by
  have GA := Get_yes a ca la w hA hca ha
  have GB := Get_yes b cb lb w hB hc hb
  by_cases hl : la.length = lb.length
  · obtain ⟨n, m, hn, hm, hf⟩ := order_facts la lb hl
    have HRA := Lib.hid (refGet_any a ca la w hA ha.2)
    have HRB := Lib.hid (fun w' (h : Below w.heap.size w w') => refGet_any b cb lb w' (hB.below h) hb.2)
    have HKA := Lib.hid (fun w' (h : Below w.heap.size w w') => conv_str a ca la w' (hA.below h))
    have HKB := Lib.hid (fun w' (h : Below w.heap.size w w') => conv_str b cb lb w' (hB.below h))
    have hne : ((la.length : Int) != (lb.length : Int)) = false := by simp; omega
    rw [hn] at GA HRA
    rw [hm] at GB HRB
    obtain ⟨ha1, ha2⟩ := ha
    obtain ⟨hb1, hb2⟩ := hb
    clear hn hm hA hB hl
    rcases hf with ⟨f1, f2, f3, f4⟩ | ⟨rfl, f3, f4⟩ | ⟨f1, f2, f3, f4⟩
    all_goals
      go_enter Try.func4, Try.ntmps4
      go_wp2_with fail
      refine GA.mono ?_
      rintro e w' ⟨rfl, rfl⟩
      go_wp2_with fail
      refine GB.mono ?_
      rintro e w' ⟨rfl, rfl⟩
      clear GA GB
      go_wp2_with (first | (go_at_call 12; refine (num_any _ _).mono ?_; rintro e w' ⟨rfl, rfl⟩))
      refine HRA.out.mono ?_
      rintro e w1 ⟨rfl, hb1⟩
      go_wp2_with fail
      refine (HRB.out _ hb1).mono ?_
      rintro e w2 ⟨rfl, hb2⟩
      have k1 := HKA.out w2 (belT hb1 hb2)
      have k2 := HKB.out w2 (belT hb1 hb2)
      go_wp2_with (go_at_call 13; refine (known_any _).mono ?_; rintro e w3 ⟨rfl, hb3⟩)
      go_ret
      exact ⟨by first | rfl | (show Ending.returned (.bool (!decide (n < m))) = _; rw [decide_eq_false (by omega)]; rfl), belT (belT hb1 hb2) hb3⟩
  · have hne : ((la.length : Int) != (lb.length : Int)) = true := by simp; omega
    obtain ⟨n, hn⟩ : ∃ n, val la = n := ⟨_, rfl⟩
    obtain ⟨m, hm⟩ : ∃ m, val lb = m := ⟨_, rfl⟩
    rw [hn] at GA
    rw [hm] at GB
    obtain ⟨ha1, ha2⟩ := ha
    obtain ⟨hb1, hb2⟩ := hb
    clear hn hm hA hB hl
    go_enter Try.func4, Try.ntmps4
    go_wp2_with fail
    refine GA.mono ?_
    rintro e w' ⟨rfl, rfl⟩
    go_wp2_with fail
    refine GB.mono ?_
    rintro e w' ⟨rfl, rfl⟩
    clear GA GB
    go_wp2_with (first | (go_at_call 12; refine (num_any _ _).mono ?_; rintro e w' ⟨rfl, rfl⟩) | (go_at_call 13; refine (known_any _).mono ?_; rintro e w3 ⟨rfl, hb3⟩))
    go_ret
    exact ⟨rfl, hb3⟩
theorem orders_any (a b : Option Addr) (ca cb : Nat) (la lb : List UInt8) (w : World) (hA : Bs w a la) (hB : Bs w b lb) (hca : la.length ≤ ca) (hc : lb.length ≤ cb) (h1 : la.length ≤ 9223372036854775807) (h2 : lb.length ≤ 9223372036854775807) :
    Calls Try.prog 4 #[.slice a la.length ca, .slice b lb.length cb] w fun e w' => e = .returned (.bool true) ∧ Below w.heap.size w w' := by
  by_cases h : 9000 < la.length ∨ 9000 < lb.length
  · exact orders_out a b ca cb la lb w h h1 h2
  · have e1 : la.length ≤ 9000 := by omega
    have e2 : lb.length ≤ 9000 := by omega
    by_cases ha : okLen la <;> by_cases hb : okLen lb
    · exact orders_yy a b ca cb la lb w hA hB hca hc e1 e2 ha hb
    · exact orders_yn a b ca cb la lb w hA hca e1 e2 ha hb
    · exact orders_ny a b ca cb la lb w hB hc e1 e2 ha hb
    · exact orders_nn a b ca cb la lb w e1 e2 ha hb
end Go.Proofs.Ytcfcdnoebgdfeaa

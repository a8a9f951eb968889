/- Marks that are not there; QuorumNil. -/
import Derived.Test.YtbpajfjeakffkaaQV
import Derived.Test.YtbpajfjeakffkaaQL
namespace Go.Proofs.Ytbpajfjeakffkaa
open Go.RowKit Go.Sort Go.Shelf
attribute [local go_sem] Oper.semAt_some

def NoM (w : World) (m : Value) : Prop := m = .pointer none ∨ ∃ mp, m = .pointer (some ⟨mp, 0, none⟩) ∧ w.heap[mp]? = some (.cells #[.map none] 52 (0, 0))
theorem NoM.below {w w' : World} {m : Value} (h : NoM w m) (hb : RowKit.Below w.heap.size w w') : NoM w' m := by
  rcases h with h | ⟨mp, h1, h2⟩
  · exact .inl h
  · exact .inr ⟨mp, h1, (hb.block _ (Array.getElem?_eq_some_iff.1 h2).1).trans h2⟩
theorem nil50 (w : World) : (binOp .neq 50 (.map none) (.map none)).run Try.prog w = .ok (.bool false) w := by kernel_rfl
theorem there32n (m : Value) (w : World) (h : NoM w m) : Calls Try.prog 32 #[m] w fun e w' => e = .returned (.bool false) ∧ w = w' := by
  rcases h with rfl | ⟨mp, rfl, h⟩
  · go_enter Try.func32, Try.ntmps32
    go_wp2
    go_ret
    exact ⟨rfl, rfl⟩
  · have z := cell_of_row _ _ 0 _ _ _ h
    have hz : w.cell? ⟨mp, 0, none⟩ = some (.map none) := z
    have hn := nil50 w
    clear z h
    go_enter Try.func32, Try.ntmps32
    go_wp2
    go_ret
    exact ⟨rfl, rfl⟩
theorem places36n (m : Value) (w : World) (h : NoM w m) : Calls Try.prog 36 #[m] w fun e w' => ∃ v L, e = .returned v ∧ L.Perm ([] : List Pl) ∧ OwnP w' w.heap.size v L ∧ RowKit.Below w.heap.size w w' := by
  have P := Lib.hid (there32n m w h)
  clear h
  go_enter Try.func36, Try.ntmps36
  go_wp2_with fail
  refine P.out.mono ?_
  rintro e w1 ⟨rfl, rfl⟩
  go_wp2_with fail
  go_ret
  exact ⟨_, [], rfl, List.Perm.refl _, World.ownsRow_nil _ _ _ _, RowKit.Below.refl _ _⟩
theorem members17n (m : Value) (w : World) (h : NoM w m) : Calls Try.prog 17 #[m] w fun e w' => e = .returned (.slice none 0 0) ∧ w = w' := by
  have P := Lib.hid (there32n m w h)
  clear h
  go_enter Try.func17, Try.ntmps17
  go_wp2_with fail
  refine P.out.mono ?_
  rintro e w1 ⟨rfl, rfl⟩
  go_wp2_with fail
  go_ret
  exact ⟨rfl, rfl⟩
theorem copy14n (m : Value) (w : World) (h : NoM w m) : Calls Try.prog 14 #[m] w fun e w' => e = .returned (.pointer none) ∧ w = w' := by
  have P := Lib.hid (there32n m w h)
  clear h
  go_enter Try.func14, Try.ntmps14
  go_wp2_with fail
  refine P.out.mono ?_
  rintro e w1 ⟨rfl, rfl⟩
  go_wp2_with fail
  go_ret
  exact ⟨rfl, rfl⟩
theorem tell15n (m : Value) (n : Int) (p : Pl) (w : World) (h : NoM w m) : Calls Try.prog 15 #[m, .int .i64 n, pv p] w fun e w' => e = .returned (.tuple #[.bool false, .int .i64 1]) ∧ RowKit.Below w.heap.size w w' := by
  have hB0 : RowKit.Below w.heap.size w (w.alloc (.cells #[.int .u64 p.1, .int .u64 p.2] 26)) := (RowKit.Below.refl _ _).alloc (Nat.le_refl _) _
  have P := Lib.hid (there32n m _ (h.below hB0))
  clear h
  go_enter Try.func15, Try.ntmps15
  go_wp2_with fail
  refine P.out.mono ?_
  rintro e w1 ⟨rfl, rfl⟩
  go_wp2_with fail
  go_ret2
  exact ⟨rfl, hB0⟩
theorem of30n (m : Value) (n : Int) (w : World) (h : NoM w m) : Calls Try.prog 30 #[m, .int .i64 n] w fun e w' => e = .returned (optV none) ∧ RowKit.Below w.heap.size w w' := by
  have hB0 : RowKit.Below w.heap.size w (w.alloc (.cells #[.int .u64 0, .int .u64 0] 26)) := below_alloc' w
  have hz0 : (w.alloc (.cells #[.int .u64 0, .int .u64 0] 26)).heap[w.heap.size]? = some (.cells #[.int .u64 0, .int .u64 0] 26 (0, 0)) := heap_alloc_new _ _
  have P := Lib.hid (there32n m _ (h.below hB0))
  clear h
  go_enter Try.func30, Try.ntmps30
  go_wp2_with fail
  refine P.out.mono ?_
  rintro e w1 ⟨rfl, rfl⟩
  go_wp2_with (refine wpList_store_row rfl 26 (.tmp 4) (.tmp 11) rfl w.heap.size #[.int .u64 0, .int .u64 0] rfl rfl 26 #[.int .u64 0, .int .u64 0] hz0 (by rw [info26]; rfl) rfl (two_one _ _) ?_)
  refine bodyPost_ret (v := .tuple #[.agg #[.int .u64 0, .int .u64 0], .bool false]) (by exact res45 _ rfl _ _ w.heap.size _ _ rfl rfl (load_set _ _ _ _ _ hz0)) (by rfl) ⟨rfl, ?_⟩
  exact below_setRow hB0 (Nat.le_refl _) _

set_option maxHeartbeats 1600000 in
theorem leastM28n (m : Value) (kk : Int) (w : World) (h : NoM w m) :
    Calls Try.prog 28 #[m, .int .i64 kk] w fun e w' => e = .returned (optV (rleast [] kk)) ∧ RowKit.Below w.heap.size w w' := by
  have hB0 : RowKit.Below w.heap.size w (w.alloc (.cells #[.int .u64 0, .int .u64 0] 26)) := below_alloc' w
  have hz0 : (w.alloc (.cells #[.int .u64 0, .int .u64 0] 26)).heap[w.heap.size]? = some (.cells #[.int .u64 0, .int .u64 0] 26 (0, 0)) := heap_alloc_new _ _
  obtain ⟨W, hW⟩ : ∃ W, w.alloc (.cells #[.int .u64 0, .int .u64 0] 26) = W := ⟨_, rfl⟩
  rw [hW] at hB0 hz0
  have HW := Lib.hid hW
  have hsz : w.heap.size < W.heap.size := (Array.getElem?_eq_some_iff.1 hz0).1
  have P := Lib.hid (places36n m W (h.below hB0))
  have HZ := Lib.hid hz0
  clear hW h hz0
  go_enter Try.func28, Try.ntmps28
  go_wp2_with fail
  rw [HW.out]
  refine P.out.mono ?_
  rintro e w1 ⟨v, L, rfl, hp, ho, hb⟩
  obtain ⟨a, cap, rfl, hps, -, -, -⟩ := ho.form
  have hLl : L.length ≤ 1000000000 := by rw [hp.length_eq]; simp
  have PL := Lib.hid (least22 kk a cap L hLl w1 hps)
  obtain ⟨r, hr⟩ : ∃ r, rleast L kk = r := ⟨_, rfl⟩
  have HR := Lib.hid ((rleast_perm hp kk).symm.trans hr)
  rw [hr] at PL
  clear hr
  clear hps ho hp P
  go_wp2_with fail
  refine PL.out.mono ?_
  rintro e w2 ⟨rfl, hb2⟩
  have hz2 : w2.heap[w.heap.size]? = some (.cells #[.int .u64 0, .int .u64 0] 26 (0, 0)) := by
    rw [hb2.block _ (Nat.lt_of_lt_of_le hsz hb.size), hb.block _ hsz]; exact HZ.out
  have hlow : RowKit.Below w.heap.size w w2 := belT hB0 (belT hb hb2)
  clear PL HW HZ hb hb2 hB0
  rcases r with _ | y
  · rw [show optV none = .tuple #[.agg #[.int .u64 0, .int .u64 0], .bool false] from rfl]
    go_wp2_with (refine wpList_store_row rfl 26 (.tmp 4) (.tmp 10) rfl w.heap.size #[.int .u64 0, .int .u64 0] rfl rfl 26 #[.int .u64 0, .int .u64 0] hz2 (by rw [info26]; rfl) rfl (two_one _ _) ?_)
    refine bodyPost_ret (v := .tuple #[.agg #[.int .u64 0, .int .u64 0], .bool false]) (by exact res45 _ rfl _ _ w.heap.size _ _ rfl rfl (load_set _ _ _ _ _ hz2)) (by rfl) ⟨by rw [HR.out]; rfl, ?_⟩
    exact below_setRow hlow (Nat.le_refl _) _
  · rw [show optV (some y) = .tuple #[.agg #[.int .u64 (y.1 : Int), .int .u64 (y.2 : Int)], .bool true] from rfl]
    go_wp2_with (refine wpList_store_row rfl 26 (.tmp 4) (.tmp 10) rfl w.heap.size #[.int .u64 (y.1 : Int), .int .u64 (y.2 : Int)] rfl rfl 26 #[.int .u64 0, .int .u64 0] hz2 (by rw [info26]; rfl) rfl (two_one _ _) ?_)
    refine bodyPost_ret (v := .tuple #[.agg #[.int .u64 (y.1 : Int), .int .u64 (y.2 : Int)], .bool true]) (by exact res45 _ rfl _ _ w.heap.size _ _ rfl rfl (load_set _ _ _ _ _ hz2)) (by rfl) ⟨by rw [HR.out]; rfl, ?_⟩
    exact below_setRow hlow (Nat.le_refl _) _

set_option maxHeartbeats 1600000 in
theorem haveM18n (m : Value) (kk : Int) (p : Pl) (w : World) (h : NoM w m) :
    Calls Try.prog 18 #[m, .int .i64 kk, pv p] w fun e w' => e = .returned (.bool (mhave (rleast [] kk) kk p)) ∧ RowKit.Below w.heap.size w w' := by
  have hB0 : RowKit.Below w.heap.size w (w.alloc (.cells #[.int .u64 p.1, .int .u64 p.2] 26)) := (RowKit.Below.refl _ _).alloc (Nat.le_refl _) _
  have hz0 : (w.alloc (.cells #[.int .u64 p.1, .int .u64 p.2] 26)).heap[w.heap.size]? = some (.cells #[.int .u64 p.1, .int .u64 p.2] 26 (0, 0)) := heap_alloc_new _ _
  obtain ⟨W, hW⟩ : ∃ W, w.alloc (.cells #[.int .u64 p.1, .int .u64 p.2] 26) = W := ⟨_, rfl⟩
  rw [hW] at hB0 hz0
  have HW := Lib.hid hW
  have hsz : w.heap.size < W.heap.size := (Array.getElem?_eq_some_iff.1 hz0).1
  have P := Lib.hid (places36n m W (h.below hB0))
  have HZ := Lib.hid hz0
  clear hW h hz0
  go_enter Try.func18, Try.ntmps18
  go_wp2_with fail
  rw [HW.out]
  refine P.out.mono ?_
  rintro e w1 ⟨v, L, rfl, hp, ho, hb⟩
  obtain ⟨a, cap, rfl, hps, -, -, -⟩ := ho.form
  have hLl : L.length ≤ 1000000000 := by rw [hp.length_eq]; simp
  have PL := Lib.hid (least22 kk a cap L hLl w1 hps)
  obtain ⟨r, hr⟩ : ∃ r, rleast L kk = r := ⟨_, rfl⟩
  have HR := Lib.hid ((rleast_perm hp kk).symm.trans hr)
  rw [hr] at PL
  clear hr
  clear hps ho hp P
  go_wp2_with fail
  refine PL.out.mono ?_
  rintro e w2 ⟨rfl, hb2⟩
  have hz2 : w2.heap[w.heap.size]? = some (.cells #[.int .u64 p.1, .int .u64 p.2] 26 (0, 0)) := by
    rw [hb2.block _ (Nat.lt_of_lt_of_le hsz hb.size), hb.block _ hsz]; exact HZ.out
  have hlow : RowKit.Below w.heap.size w w2 := belT hB0 (belT hb hb2)
  have hs2 : w.heap.size < w2.heap.size := Nat.lt_of_lt_of_le hsz (Nat.le_trans hb.size hb2.size)
  clear PL HW HZ hb hb2 hB0
  have HB := Lib.hid hlow
  clear hlow
  rcases r with _ | y
  · by_cases hk : kk < 1
    · have hd : decide (kk < 1) = true := decide_eq_true hk
      clear hk
      rw [show optV none = .tuple #[.agg #[.int .u64 0, .int .u64 0], .bool false] from rfl]
      go_wp2_with fail
      go_ret
      exact ⟨by rw [HR.out]; simp [mhave, hd], HB.out.trans ((RowKit.Below.refl _ _).alloc (by omega) _)⟩
    · have hd : decide (kk < 1) = false := decide_eq_false hk
      clear hk
      rw [show optV none = .tuple #[.agg #[.int .u64 0, .int .u64 0], .bool false] from rfl]
      go_wp2_with fail
      go_ret
      exact ⟨by rw [HR.out]; simp [mhave, hd], HB.out.trans ((RowKit.Below.refl _ _).alloc (by omega) _)⟩
  · by_cases hk : kk < 1
    · exact absurd HR.out (by rw [rleast_low _ _ hk]; simp)
    · have hd : decide (kk < 1) = false := decide_eq_false hk
      clear hk
      rw [show optV (some y) = .tuple #[.agg #[.int .u64 (y.1 : Int), .int .u64 (y.2 : Int)], .bool true] from rfl]
      have hzA : (w2.alloc (.cells #[.int .u64 (y.1 : Int), .int .u64 (y.2 : Int)] 26)).heap[w2.heap.size]? = some (.cells #[.int .u64 (y.1 : Int), .int .u64 (y.2 : Int)] 26 (0, 0)) := heap_alloc_new _ _
      have hzB : (w2.alloc (.cells #[.int .u64 (y.1 : Int), .int .u64 (y.2 : Int)] 26)).heap[w.heap.size]? = some (.cells #[.int .u64 p.1, .int .u64 p.2] 26 (0, 0)) := (heap_alloc_old _ _ hs2).trans hz2
      have hc0 := cell_of_row _ _ 0 _ _ _ hzB
      have hc1 := cell_of_row _ _ 1 _ _ _ hzB
      have hc2 := cell_of_row _ _ 0 _ _ _ hzA
      have hc3 := cell_of_row _ _ 1 _ _ _ hzA
      go_wp2_with fail
      refine (less25 y p _).mono ?_
      rintro e w3 ⟨rfl, hg⟩
      go_wp2_with fail
      go_ret
      exact ⟨by rw [HR.out]; simp [mhave, hd], HB.out.trans (((RowKit.Below.refl _ _).alloc (by omega) _).trans (hg.below.mono (by simp; omega)))⟩

theorem rl0 (kk : Int) : rleast [] kk = none := by
  by_cases h : kk < 1
  · exact rleast_low _ _ h
  · exact rleast_many _ _ (by simp; omega)
theorem least1n (m : Value) (w : World) (h : NoM w m) : Calls Try.prog 28 #[m, .int .i64 1] w fun e w' => e = .returned (.tuple #[.agg #[.int .u64 0, .int .u64 0], .bool false]) ∧ RowKit.Below w.heap.size w w' :=
  (leastM28n m 1 w h).mono fun _ _ ⟨h1, h2⟩ => ⟨h1.trans (by rw [rl0]; rfl), h2⟩
theorem have1n (m : Value) (w : World) (h : NoM w m) : Calls Try.prog 18 #[m, .int .i64 1, .agg #[.int .u64 0, .int .u64 0]] w fun e w' => e = .returned (.bool false) ∧ RowKit.Below w.heap.size w w' :=
  (haveM18n m 1 (0, 0) w h).mono fun _ _ ⟨h1, h2⟩ => ⟨h1.trans (by rw [rl0]; rfl), h2⟩
theorem have0n (m : Value) (w : World) (h : NoM w m) : Calls Try.prog 18 #[m, .int .i64 0, .agg #[.int .u64 1, .int .u64 1]] w fun e w' => e = .returned (.bool true) ∧ RowKit.Below w.heap.size w w' :=
  (haveM18n m 0 (1, 1) w h).mono fun _ _ ⟨h1, h2⟩ => ⟨h1.trans (by rw [rl0]; rfl), h2⟩
theorem tell1n (m : Value) (w : World) (h : NoM w m) : Calls Try.prog 15 #[m, .int .i64 1, .agg #[.int .u64 1, .int .u64 1]] w fun e w' => e = .returned (.tuple #[.bool false, .int .i64 1]) ∧ RowKit.Below w.heap.size w w' :=
  tell15n m 1 (1, 1) w h
theorem alloc26 (w : World) (a c : Int) : RowKit.Below w.heap.size w (w.alloc (.cells #[.int .u64 a, .int .u64 c] 26)) := (RowKit.Below.refl _ _).alloc (Nat.le_refl _) _
set_option maxHeartbeats 3200000 in
theorem nothing21 (m : Value) (w : World) (h : NoM w m) : Calls Try.prog 21 #[m] w fun e w' => e = .returned (.bool true) ∧ RowKit.Below w.heap.size w w' := by
  go_enter Try.func21, Try.ntmps21
  go_wp2_with fail
  refine (at_1_1 _).mono ?_
  rintro e w1 ⟨rfl, B1⟩
  have h1 := h.below B1
  go_wp2_with fail
  refine (tell1n m w1 h1).mono ?_
  rintro e w2 ⟨rfl, b⟩
  have h2 := h1.below b
  have B2 := belT B1 b
  clear h h1 b B1
  go_wp2_with fail
  refine (of30n m 1 w2 h2).mono ?_
  rintro e w3 ⟨rfl, b⟩
  rw [show optV none = .tuple #[.agg #[.int .u64 0, .int .u64 0], .bool false] from rfl]
  have b' := belT b (alloc26 w3 0 0)
  have h3 := h2.below b'
  have B3 := belT B2 b'
  clear h2 b b' B2
  go_wp2_with fail
  refine (least1n m _ h3).mono ?_
  rintro e w4 ⟨rfl, b⟩
  have b' := belT b (alloc26 w4 0 0)
  have h4 := h3.below b'
  have B4 := belT B3 b'
  clear h3 b b' B3
  go_wp2_with (first | (go_at_call 11; refine (num11 _ _).mono ?_; rintro e v6 ⟨rfl, rfl⟩) | fail)
  refine (have1n m _ h4).mono ?_
  rintro e w5 ⟨rfl, b⟩
  have h5 := h4.below b
  have B5 := belT B4 b
  clear h4 b B4
  go_wp2_with fail
  refine (at_1_1 _).mono ?_
  rintro e w6 ⟨rfl, b⟩
  have h6 := h5.below b
  have B6 := belT B5 b
  clear h5 b B5
  go_wp2_with fail
  refine (have0n m _ h6).mono ?_
  rintro e w7 ⟨rfl, b⟩
  have h7 := h6.below b
  have B7 := belT B6 b
  clear h6 b B6
  go_wp2_with fail
  refine (members17n m _ h7).mono ?_
  rintro e w8 ⟨rfl, rfl⟩
  go_wp2_with fail
  refine (copy14n m _ h7).mono ?_
  rintro e w9 ⟨rfl, rfl⟩
  go_wp2_with fail
  go_ret
  exact ⟨rfl, B7⟩
theorem is0 (w : World) : Is w none [] := ⟨fun h => absurd rfl h, fun b o e => by cases e⟩
theorem new0 (w : World) : Calls Try.prog 9 #[.slice none 0 0] w fun e w' => ∃ mp mb, e = .returned (.tuple #[.pointer (some ⟨mp, 0, none⟩), .int .i64 0]) ∧ MS w' mp mb [] ∧ RowKit.Below w.heap.size w w' := by
  refine (new9 none 0 [] w (is0 w) (by simp)).mono ?_
  rintro e w' ⟨hb, ⟨_, rfl, hm⟩ | ⟨hn, _⟩⟩
  · exact ⟨_, _, rfl, hm, hb⟩
  · exact absurd ⟨List.nodup_nil, fun x hx => by cases hx⟩ hn
theorem mem0 (mp mb : Nat) (w : World) (h : MS w mp mb []) : Calls Try.prog 17 #[.pointer (some ⟨mp, 0, none⟩)] w fun e w' => (∃ a c, e = .returned (.slice a 0 c)) ∧ RowKit.Below w.heap.size w w' := by
  refine (members17 mp mb [] (by simp) w h).mono ?_
  rintro e w' ⟨a, c, L, rfl, hp, _, hb⟩
  obtain rfl : L = [] := hp.eq_nil
  exact ⟨⟨a, c, rfl⟩, hb⟩
theorem hav1 (mp mb : Nat) (w : World) (h : MS w mp mb []) : Calls Try.prog 18 #[.pointer (some ⟨mp, 0, none⟩), .int .i64 1, .agg #[.int .u64 0, .int .u64 0]] w fun e w' => e = .returned (.bool false) ∧ RowKit.Below w.heap.size w w' :=
  (haveM18 mp mb [] (by simp) 1 (0, 0) w h).mono fun _ _ ⟨h1, h2⟩ => ⟨h1.trans (by kernel_rfl), h2⟩
theorem hav0 (mp mb : Nat) (w : World) (h : MS w mp mb []) : Calls Try.prog 18 #[.pointer (some ⟨mp, 0, none⟩), .int .i64 0, .agg #[.int .u64 9, .int .u64 9]] w fun e w' => e = .returned (.bool true) ∧ RowKit.Below w.heap.size w w' :=
  (haveM18 mp mb [] (by simp) 0 (9, 9) w h).mono fun _ _ ⟨h1, h2⟩ => ⟨h1.trans (by kernel_rfl), h2⟩
theorem cho0 (w : World) : Calls Try.prog 20 #[.slice none 0 0] w fun e w' => e = .returned (.int .i64 (-1)) ∧ RowKit.Below w.heap.size w w' :=
  (choose20 none 0 [] w (Ps.nil w) (by simp)).mono fun _ _ ⟨h1, h2⟩ => ⟨h1.trans (by kernel_rfl), h2.below⟩
theorem at_9_9 (w : World) : Calls Try.prog 19 #[.int .u64 9, .int .u64 9] w fun e w' => e = .returned (.agg #[.int .u64 9, .int .u64 9]) ∧ RowKit.Below w.heap.size w w' := at19 9 9 w
set_option maxHeartbeats 3200000 in
theorem nil4 (w : World) : Calls Try.prog 4 #[] w fun e w' => e = .returned (.bool true) ∧ RowKit.Below w.heap.size w w' := by
  go_enter Try.func4, Try.ntmps4
  go_wp2_with fail
  refine (new0 _).mono ?_
  rintro e w1 ⟨mp, mb, rfl, h1, B1⟩
  go_wp2_with (first | (go_at_call 11; refine (num11 _ _).mono ?_; rintro e v6 ⟨rfl, rfl⟩) | fail)
  refine (mem0 mp mb w1 h1).mono ?_
  rintro e w2 ⟨⟨am, cm, rfl⟩, b⟩
  have h2 := h1.below b
  have B2 := belT B1 b
  clear h1 b B1
  go_wp2_with fail
  refine (hav1 mp mb w2 h2).mono ?_
  rintro e w3 ⟨rfl, b⟩
  have h3 := h2.below b
  have B3 := belT B2 b
  clear h2 b B2
  go_wp2_with fail
  refine (at_9_9 _).mono ?_
  rintro e w4 ⟨rfl, b⟩
  have h4 := h3.below b
  have B4 := belT B3 b
  clear h3 b B3
  go_wp2_with fail
  refine (hav0 mp mb w4 h4).mono ?_
  rintro e w5 ⟨rfl, b⟩
  have B5 := belT B4 b
  clear h4 b B4
  go_wp2_with fail
  refine (cho0 w5).mono ?_
  rintro e w6 ⟨rfl, b⟩
  have B6 := belT B5 b
  clear b B5
  go_wp2_with fail
  refine (nothing21 _ w6 (.inl rfl)).mono ?_
  rintro e w7 ⟨rfl, b⟩
  have B7 := belT B6 b
  have ba : RowKit.Below w7.heap.size w7 (w7.alloc (.cells #[.map none] 52)) := (RowKit.Below.refl _ _).alloc (Nat.le_refl _) _
  have B8 := belT B7 ba
  clear b B6 B7 ba
  go_wp2_with fail
  refine (nothing21 _ (w7.alloc (.cells #[.map none] 52)) (.inr ⟨_, rfl, heap_alloc_new _ _⟩)).mono ?_
  rintro e w9 ⟨rfl, b⟩
  have B9 := belT B8 b
  clear b B8
  go_wp2_with fail
  refine (known8 _).mono ?_
  rintro e w10 ⟨rfl, b⟩
  have B10 := belT B9 b
  go_wp2_with fail
  go_ret
  exact ⟨rfl, B10⟩

end Go.Proofs.Ytbpajfjeakffkaa

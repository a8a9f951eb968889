/- Least and Have of marks; at; num. -/
import Derived.Test.YtbpajfjeakffkaaQH
namespace Go.Proofs.Ytbpajfjeakffkaa
open Go.RowKit Go.Sort Go.Shelf
attribute [local go_sem] Oper.semAt_some

theorem rleast_low (l : List Pl) (kk : Int) (h : kk < 1) : rleast l kk = none := by unfold rleast; rw [if_pos h]
theorem rleast_none (l : List Pl) (kk : Int) (h : ∀ p ∈ l, ¬ kk ≤ (haveN l p : Int)) : rleast l kk = none := by
  unfold rleast
  by_cases hk : kk < 1
  · rw [if_pos hk]
  · rw [if_neg hk]
    by_cases hn : rbs l kk l.length < 0
    · rw [if_pos hn]
    · obtain ⟨q, hq⟩ : ∃ q : Nat, rbs l kk l.length = (q : Int) := ⟨(rbs l kk l.length).toNat, by have := rbs_bd l kk l.length; omega⟩
      obtain ⟨hm, h2, _⟩ := (rbs_inv l kk l.length (Nat.le_refl _)).2 q hq
      exact absurd h2 (h _ (List.getElem_mem hm))
theorem rleast_perm {l m : List Pl} (h : l.Perm m) (kk : Int) : rleast l kk = rleast m kk := by
  by_cases hk : kk < 1
  · rw [rleast_low _ _ hk, rleast_low _ _ hk]
  · by_cases hn : rbs l kk l.length < 0
    · have h1 := (rbs_inv l kk l.length (Nat.le_refl _)).1 hn
      rw [rleast_none l kk, rleast_none m kk]
      · intro p hp
        rw [← haveN_perm h]
        obtain ⟨j, hj, rfl⟩ := List.getElem_of_mem (h.mem_iff.2 hp)
        exact h1 j hj hj
      · intro p hp
        obtain ⟨j, hj, rfl⟩ := List.getElem_of_mem hp
        exact h1 j hj hj
    · obtain ⟨q, hq⟩ : ∃ q : Nat, rbs l kk l.length = (q : Int) := ⟨(rbs l kk l.length).toNat, by have := rbs_bd l kk l.length; omega⟩
      obtain ⟨hm, h2, h3⟩ := (rbs_inv l kk l.length (Nat.le_refl _)).2 q hq
      have h4 : ∀ x ∈ l, kk ≤ (haveN l x : Int) → uptoP x l[q] = true := fun x hx hk => by
        obtain ⟨j, hj, rfl⟩ := List.getElem_of_mem hx
        exact h3 j hj hj hk
      rw [rleast_is l kk l[q] (by omega) (List.getElem_mem hm) h2 h4, rleast_is m kk l[q] (by omega) (h.mem_iff.1 (List.getElem_mem hm)) (by rw [← haveN_perm h]; exact h2) (fun x hx hk => h4 x (h.mem_iff.2 hx) (by rw [haveN_perm h]; exact hk))]
theorem num11 (x : Int) (w : World) : Calls Try.prog 11 #[.int .i64 x] w fun e w' => e = .returned (.int .i64 x) ∧ w = w' := by
  go_enter Try.func11, Try.ntmps11
  go_wp2
  go_ret
  exact ⟨rfl, rfl⟩
theorem res4 (fn : Func) (hr : fn.results = #[.cell 4 26]) (tmps : Array Value) (w : World) (g : Nat) (v : Value) (h4 : tmps[4]?.getD undef = .pointer (some ⟨g, 0, none⟩)) (hl : (loadVar 26 ⟨g, 0, none⟩).run Try.prog w = .ok v w) :
    (results fn tmps).run Try.prog w = .ok v w := by
  simp [results, hr, asAddr, h4, hl]
theorem at19 (x y : Nat) (w : World) : Calls Try.prog 19 #[.int .u64 x, .int .u64 y] w fun e w' => e = .returned (pv (x, y)) ∧ RowKit.Below w.heap.size w w' := by
  have hz : (w.alloc (.cells #[.int .u64 0, .int .u64 0] 26)).heap[w.heap.size]? = some (.cells #[.int .u64 0, .int .u64 0] 26 (0, 0)) := heap_alloc_new _ _
  go_enter Try.func19, Try.ntmps19
  go_wp2_with (refine wpList_store_row rfl 26 (.tmp 4) _ rfl w.heap.size #[.int .u64 (x : Int), .int .u64 (y : Int)] rfl rfl 26 #[.int .u64 0, .int .u64 0] hz (by rw [info26]; rfl) rfl (two_one _ _) ?_)
  refine bodyPost_ret (v := .agg #[.int .u64 (x : Int), .int .u64 (y : Int)]) (by exact res4 _ rfl _ _ w.heap.size _ rfl (load_set _ _ _ _ _ hz)) (by rfl) ⟨rfl, ?_⟩
  exact below_setRow (below_alloc' w) (Nat.le_refl _) _
set_option maxHeartbeats 1600000 in
theorem leastM28 (mp mb : Nat) (D : MapD) (hD : D.length ≤ 1000000000) (kk : Int) (w : World) (h : MS w mp mb D) :
    Calls Try.prog 28 #[.pointer (some ⟨mp, 0, none⟩), .int .i64 kk] w fun e w' => e = .returned (optV (rleast (D.map (·.2)) kk)) ∧ RowKit.Below w.heap.size w w' := by
  have hB0 : RowKit.Below w.heap.size w (w.alloc (.cells #[.int .u64 0, .int .u64 0] 26)) := below_alloc' w
  have hz0 : (w.alloc (.cells #[.int .u64 0, .int .u64 0] 26)).heap[w.heap.size]? = some (.cells #[.int .u64 0, .int .u64 0] 26 (0, 0)) := heap_alloc_new _ _
  obtain ⟨W, hW⟩ : ∃ W, w.alloc (.cells #[.int .u64 0, .int .u64 0] 26) = W := ⟨_, rfl⟩
  rw [hW] at hB0 hz0
  have HW := Lib.hid hW
  have hsz : w.heap.size < W.heap.size := (Array.getElem?_eq_some_iff.1 hz0).1
  have P := Lib.hid (places36 mp mb D hD W (h.below hB0))
  have HZ := Lib.hid hz0
  clear hW h hz0
  go_enter Try.func28, Try.ntmps28
  go_wp2_with fail
  rw [HW.out]
  refine P.out.mono ?_
  rintro e w1 ⟨v, L, rfl, hp, ho, hb⟩
  obtain ⟨a, cap, rfl, hps, -, -, -⟩ := ho.form
  have hLl : L.length ≤ 1000000000 := by rw [hp.length_eq]; simpa using hD
  have PL := Lib.hid (least22 kk a cap L hLl w1 hps)
  obtain ⟨r, hr⟩ : ∃ r, rleast L kk = r := ⟨_, rfl⟩
  have HR := Lib.hid ((rleast_perm hp kk).symm.trans hr)
  rw [hr] at PL
  clear hr
  clear hps ho hp P
  go_wp2_with fail
  refine PL.out.mono ?_
  rintro e w2 ⟨rfl, hb2⟩
  have hz2 : w2.heap[w.heap.size]? = some (.cells #[.int .u64 0, .int .u64 0] 26 (0, 0)) := by
    rw [hb2.block _ (Nat.lt_of_lt_of_le hsz hb.size), hb.block _ hsz]; exact HZ.out
  have hlow : RowKit.Below w.heap.size w w2 := belT hB0 (belT hb hb2)
  clear PL HW HZ hb hb2 hB0
  rcases r with _ | y
  · rw [show optV none = .tuple #[.agg #[.int .u64 0, .int .u64 0], .bool false] from rfl]
    go_wp2_with (refine wpList_store_row rfl 26 (.tmp 4) (.tmp 10) rfl w.heap.size #[.int .u64 0, .int .u64 0] rfl rfl 26 #[.int .u64 0, .int .u64 0] hz2 (by rw [info26]; rfl) rfl (two_one _ _) ?_)
    refine bodyPost_ret (v := .tuple #[.agg #[.int .u64 0, .int .u64 0], .bool false]) (by exact res45 _ rfl _ _ w.heap.size _ _ rfl rfl (load_set _ _ _ _ _ hz2)) (by rfl) ⟨by rw [HR.out]; rfl, ?_⟩
    exact below_setRow hlow (Nat.le_refl _) _
  · rw [show optV (some y) = .tuple #[.agg #[.int .u64 (y.1 : Int), .int .u64 (y.2 : Int)], .bool true] from rfl]
    go_wp2_with (refine wpList_store_row rfl 26 (.tmp 4) (.tmp 10) rfl w.heap.size #[.int .u64 (y.1 : Int), .int .u64 (y.2 : Int)] rfl rfl 26 #[.int .u64 0, .int .u64 0] hz2 (by rw [info26]; rfl) rfl (two_one _ _) ?_)
    refine bodyPost_ret (v := .tuple #[.agg #[.int .u64 (y.1 : Int), .int .u64 (y.2 : Int)], .bool true]) (by exact res45 _ rfl _ _ w.heap.size _ _ rfl rfl (load_set _ _ _ _ _ hz2)) (by rfl) ⟨by rw [HR.out]; rfl, ?_⟩
    exact below_setRow hlow (Nat.le_refl _) _
def mhave (r : Option Pl) (kk : Int) (p : Pl) : Bool := decide (kk < 1) || match r with | none => false | some y => !lessP y p
set_option maxHeartbeats 1600000 in
theorem haveM18 (mp mb : Nat) (D : MapD) (hD : D.length ≤ 1000000000) (kk : Int) (p : Pl) (w : World) (h : MS w mp mb D) :
    Calls Try.prog 18 #[.pointer (some ⟨mp, 0, none⟩), .int .i64 kk, pv p] w fun e w' => e = .returned (.bool (mhave (rleast (D.map (·.2)) kk) kk p)) ∧ RowKit.Below w.heap.size w w' := by
  have hB0 : RowKit.Below w.heap.size w (w.alloc (.cells #[.int .u64 p.1, .int .u64 p.2] 26)) := (RowKit.Below.refl _ _).alloc (Nat.le_refl _) _
  have hz0 : (w.alloc (.cells #[.int .u64 p.1, .int .u64 p.2] 26)).heap[w.heap.size]? = some (.cells #[.int .u64 p.1, .int .u64 p.2] 26 (0, 0)) := heap_alloc_new _ _
  obtain ⟨W, hW⟩ : ∃ W, w.alloc (.cells #[.int .u64 p.1, .int .u64 p.2] 26) = W := ⟨_, rfl⟩
  rw [hW] at hB0 hz0
  have HW := Lib.hid hW
  have hsz : w.heap.size < W.heap.size := (Array.getElem?_eq_some_iff.1 hz0).1
  have P := Lib.hid (places36 mp mb D hD W (h.below hB0))
  have HZ := Lib.hid hz0
  clear hW h hz0
  go_enter Try.func18, Try.ntmps18
  go_wp2_with fail
  rw [HW.out]
  refine P.out.mono ?_
  rintro e w1 ⟨v, L, rfl, hp, ho, hb⟩
  obtain ⟨a, cap, rfl, hps, -, -, -⟩ := ho.form
  have hLl : L.length ≤ 1000000000 := by rw [hp.length_eq]; simpa using hD
  have PL := Lib.hid (least22 kk a cap L hLl w1 hps)
  obtain ⟨r, hr⟩ : ∃ r, rleast L kk = r := ⟨_, rfl⟩
  have HR := Lib.hid ((rleast_perm hp kk).symm.trans hr)
  rw [hr] at PL
  clear hr
  clear hps ho hp P
  go_wp2_with fail
  refine PL.out.mono ?_
  rintro e w2 ⟨rfl, hb2⟩
  have hz2 : w2.heap[w.heap.size]? = some (.cells #[.int .u64 p.1, .int .u64 p.2] 26 (0, 0)) := by
    rw [hb2.block _ (Nat.lt_of_lt_of_le hsz hb.size), hb.block _ hsz]; exact HZ.out
  have hlow : RowKit.Below w.heap.size w w2 := belT hB0 (belT hb hb2)
  have hs2 : w.heap.size < w2.heap.size := Nat.lt_of_lt_of_le hsz (Nat.le_trans hb.size hb2.size)
  clear PL HW HZ hb hb2 hB0
  have HB := Lib.hid hlow
  clear hlow
  rcases r with _ | y
  · by_cases hk : kk < 1
    · have hd : decide (kk < 1) = true := decide_eq_true hk
      clear hk
      rw [show optV none = .tuple #[.agg #[.int .u64 0, .int .u64 0], .bool false] from rfl]
      go_wp2_with fail
      go_ret
      exact ⟨by rw [HR.out]; simp [mhave, hd], HB.out.trans ((RowKit.Below.refl _ _).alloc (by omega) _)⟩
    · have hd : decide (kk < 1) = false := decide_eq_false hk
      clear hk
      rw [show optV none = .tuple #[.agg #[.int .u64 0, .int .u64 0], .bool false] from rfl]
      go_wp2_with fail
      go_ret
      exact ⟨by rw [HR.out]; simp [mhave, hd], HB.out.trans ((RowKit.Below.refl _ _).alloc (by omega) _)⟩
  · by_cases hk : kk < 1
    · exact absurd HR.out (by rw [rleast_low _ _ hk]; simp)
    · have hd : decide (kk < 1) = false := decide_eq_false hk
      clear hk
      rw [show optV (some y) = .tuple #[.agg #[.int .u64 (y.1 : Int), .int .u64 (y.2 : Int)], .bool true] from rfl]
      have hzA : (w2.alloc (.cells #[.int .u64 (y.1 : Int), .int .u64 (y.2 : Int)] 26)).heap[w2.heap.size]? = some (.cells #[.int .u64 (y.1 : Int), .int .u64 (y.2 : Int)] 26 (0, 0)) := heap_alloc_new _ _
      have hzB : (w2.alloc (.cells #[.int .u64 (y.1 : Int), .int .u64 (y.2 : Int)] 26)).heap[w.heap.size]? = some (.cells #[.int .u64 p.1, .int .u64 p.2] 26 (0, 0)) := (heap_alloc_old _ _ hs2).trans hz2
      have hc0 := cell_of_row _ _ 0 _ _ _ hzB
      have hc1 := cell_of_row _ _ 1 _ _ _ hzB
      have hc2 := cell_of_row _ _ 0 _ _ _ hzA
      have hc3 := cell_of_row _ _ 1 _ _ _ hzA
      go_wp2_with fail
      refine (less25 y p _).mono ?_
      rintro e w3 ⟨rfl, hg⟩
      go_wp2_with fail
      go_ret
      exact ⟨by rw [HR.out]; simp [mhave, hd], HB.out.trans (((RowKit.Below.refl _ _).alloc (by omega) _).trans (hg.below.mono (by simp; omega)))⟩

end Go.Proofs.Ytbpajfjeakffkaa

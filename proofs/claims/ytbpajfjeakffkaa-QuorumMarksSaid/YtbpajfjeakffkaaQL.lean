/- known: what the law shows once. -/
import Derived.Test.YtbpajfjeakffkaaQK
namespace Go.Proofs.Ytbpajfjeakffkaa
open Go.RowKit Go.Sort Go.Shelf Go.MapKept
attribute [local go_sem] Oper.semAt_some

theorem at_1_5 (w : World) : Calls Try.prog 19 #[.int .u64 1, .int .u64 5] w fun e w' => e = .returned (.agg #[.int .u64 1, .int .u64 5]) ∧ RowKit.Below w.heap.size w w' := at19 1 5 w
theorem at_1_9 (w : World) : Calls Try.prog 19 #[.int .u64 1, .int .u64 9] w fun e w' => e = .returned (.agg #[.int .u64 1, .int .u64 9]) ∧ RowKit.Below w.heap.size w w' := at19 1 9 w
theorem at_2_1 (w : World) : Calls Try.prog 19 #[.int .u64 2, .int .u64 1] w fun e w' => e = .returned (.agg #[.int .u64 2, .int .u64 1]) ∧ RowKit.Below w.heap.size w w' := at19 2 1 w
theorem at_1_7 (w : World) : Calls Try.prog 19 #[.int .u64 1, .int .u64 7] w fun e w' => e = .returned (.agg #[.int .u64 1, .int .u64 7]) ∧ RowKit.Below w.heap.size w w' := at19 1 7 w
theorem at_1_1 (w : World) : Calls Try.prog 19 #[.int .u64 1, .int .u64 1] w fun e w' => e = .returned (.agg #[.int .u64 1, .int .u64 1]) ∧ RowKit.Below w.heap.size w w' := at19 1 1 w
abbrev row3 : Obj := .cells #[.int .u64 1, .int .u64 5, .int .u64 1, .int .u64 9, .int .u64 2, .int .u64 1] 26
theorem ps3 (w : World) : Ps (w.alloc row3) (some ⟨w.heap.size, 0, none⟩) [((1, 5) : Pl), (1, 9), (2, 1)] := by
  have hz : (w.alloc row3).heap[w.heap.size]? = some row3 := heap_alloc_new _ _
  refine ⟨fun _ => ⟨_, _, rfl⟩, fun b o e k hk => ?_⟩
  cases e
  have hk3 : k < 3 := hk
  obtain rfl | rfl | rfl : k = 0 ∨ k = 1 ∨ k = 2 := by omega
  · exact ⟨cell_of_row _ _ 0 _ _ _ hz, cell_of_row _ _ 1 _ _ _ hz⟩
  · exact ⟨cell_of_row _ _ 2 _ _ _ hz, cell_of_row _ _ 3 _ _ _ hz⟩
  · exact ⟨cell_of_row _ _ 4 _ _ _ hz, cell_of_row _ _ 5 _ _ _ hz⟩
theorem lst2 (w : World) : Calls Try.prog 22 #[.int .i64 2, .slice (some ⟨w.heap.size, 0, none⟩) 3 3] (w.alloc row3) fun e w' => e = .returned (.tuple #[.agg #[.int .u64 1, .int .u64 9], .bool true]) ∧ RowKit.Below w.heap.size w w' :=
  (least22 2 _ 3 [((1, 5) : Pl), (1, 9), (2, 1)] (by decide) _ (ps3 w)).mono fun _ _ ⟨h1, h2⟩ => ⟨h1.trans (by kernel_rfl), ((RowKit.Below.refl _ _).alloc (Nat.le_refl _) _).trans (h2.mono (by simp))⟩
theorem lst4 (w : World) : Calls Try.prog 22 #[.int .i64 4, .slice (some ⟨w.heap.size, 0, none⟩) 3 3] (w.alloc row3) fun e w' => e = .returned (.tuple #[.agg #[.int .u64 0, .int .u64 0], .bool false]) ∧ RowKit.Below w.heap.size w w' :=
  (least22 4 _ 3 [((1, 5) : Pl), (1, 9), (2, 1)] (by decide) _ (ps3 w)).mono fun _ _ ⟨h1, h2⟩ => ⟨h1.trans (by kernel_rfl), ((RowKit.Below.refl _ _).alloc (Nat.le_refl _) _).trans (h2.mono (by simp))⟩
theorem chs (w : World) : Calls Try.prog 20 #[.slice (some ⟨w.heap.size, 0, none⟩) 3 3] (w.alloc row3) fun e w' => e = .returned (.int .i64 2) ∧ RowKit.Below w.heap.size w w' :=
  (choose20 _ 3 [((1, 5) : Pl), (1, 9), (2, 1)] _ (ps3 w) (by decide)).mono fun _ _ ⟨h1, h2⟩ => ⟨h1.trans (by kernel_rfl), ((RowKit.Below.refl _ _).alloc (Nat.le_refl _) _).trans (h2.below.mono (by simp))⟩
theorem is2 (w : World) : Is (w.alloc (.cells #[.int .i64 2, .int .i64 3] 3)) (some ⟨w.heap.size, 0, none⟩) [2, 3] := by
  have hz : (w.alloc (.cells #[.int .i64 2, .int .i64 3] 3)).heap[w.heap.size]? = some (.cells #[.int .i64 2, .int .i64 3] 3) := heap_alloc_new _ _
  refine ⟨fun _ => ⟨_, _, rfl⟩, fun b o e k hk => ?_⟩
  cases e
  have hk3 : k < 2 := hk
  obtain rfl | rfl : k = 0 ∨ k = 1 := by omega
  · exact cell_of_row _ _ 0 _ _ _ hz
  · exact cell_of_row _ _ 1 _ _ _ hz
theorem nw (w : World) (k : Nat) (hk : w.heap.size = k) : Calls Try.prog 9 #[.slice (some ⟨k, 0, none⟩) 2 2] (w.alloc (.cells #[.int .i64 2, .int .i64 3] 3)) fun e w' => ∃ mp mb, e = .returned (.tuple #[.pointer (some ⟨mp, 0, none⟩), .int .i64 0]) ∧ w.heap.size ≤ mp ∧ w.heap.size ≤ mb ∧ MS w' mp mb [(2, (0, 0)), (3, (0, 0))] ∧ RowKit.Below w.heap.size w w' := by
  subst hk
  refine (new9 _ 2 [2, 3] _ (is2 w) (by decide)).mono ?_
  rintro e w' ⟨hb, ⟨_, rfl, hm⟩ | ⟨hn, _⟩⟩
  · exact ⟨_, _, rfl, by simp; omega, by simp, hm, ((RowKit.Below.refl _ _).alloc (Nat.le_refl _) _).trans (hb.mono (by simp))⟩
  · exact absurd ⟨by decide, fun x hx => by simp at hx; omega⟩ hn

theorem tl1 (mp mb : Nat) (w : World) (h : MS w mp mb [(2, ((0, 0) : Pl)), (3, (0, 0))]) : Calls Try.prog 15 #[.pointer (some ⟨mp, 0, none⟩), .int .i64 2, .agg #[.int .u64 1, .int .u64 7]] w fun e w' => e = .returned (.tuple #[.bool true, .int .i64 0]) ∧ MS w' mp mb [(2, ((1, 7) : Pl)), (3, (0, 0))] ∧ RowKit.Below mb w w' := by
  refine (tell15 mp mb [(2, ((0, 0) : Pl)), (3, (0, 0))] 2 (1, 7) w h).mono ?_
  rintro e w' ⟨ho, ⟨hn, _⟩ | ⟨j, hj, hjn, ⟨h1, rfl, hm⟩ | ⟨h1, rfl, hm⟩⟩⟩
  · exact absurd rfl (hn _ List.mem_cons_self)
  all_goals
    have hj2 : j < 2 := hj
    obtain rfl | rfl : j = 0 ∨ j = 1 := by omega
  · exact absurd h1 (by simp [lessP])
  · exact absurd hjn (by simp)
  · exact ⟨rfl, hm, ho.1⟩
  · exact absurd hjn (by simp)
theorem tl2 (mp mb : Nat) (w : World) (h : MS w mp mb [(2, ((1, 7) : Pl)), (3, (0, 0))]) : Calls Try.prog 15 #[.pointer (some ⟨mp, 0, none⟩), .int .i64 2, .agg #[.int .u64 1, .int .u64 5]] w fun e w' => e = .returned (.tuple #[.bool false, .int .i64 0]) ∧ MS w' mp mb [(2, ((1, 7) : Pl)), (3, (0, 0))] ∧ RowKit.Below mb w w' := by
  refine (tell15 mp mb [(2, ((1, 7) : Pl)), (3, (0, 0))] 2 (1, 5) w h).mono ?_
  rintro e w' ⟨ho, ⟨hn, _⟩ | ⟨j, hj, hjn, ⟨h1, rfl, hm⟩ | ⟨h1, rfl, hm⟩⟩⟩
  · exact absurd rfl (hn _ List.mem_cons_self)
  all_goals
    have hj2 : j < 2 := hj
    obtain rfl | rfl : j = 0 ∨ j = 1 := by omega
  · exact ⟨rfl, hm, ho.1⟩
  · exact absurd hjn (by simp)
  · exact absurd h1 (by simp [lessP])
  · exact absurd hjn (by simp)
theorem tl3 (mp mb : Nat) (w : World) (h : MS w mp mb [(2, ((1, 7) : Pl)), (3, (0, 0))]) : Calls Try.prog 15 #[.pointer (some ⟨mp, 0, none⟩), .int .i64 4, .agg #[.int .u64 1, .int .u64 1]] w fun e w' => e = .returned (.tuple #[.bool false, .int .i64 2]) ∧ MS w' mp mb [(2, ((1, 7) : Pl)), (3, (0, 0))] ∧ RowKit.Below mb w w' := by
  refine (tell15 mp mb [(2, ((1, 7) : Pl)), (3, (0, 0))] 4 (1, 1) w h).mono ?_
  rintro e w' ⟨ho, ⟨hn, rfl, hm⟩ | ⟨j, hj, hjn, _⟩⟩
  · exact ⟨rfl, hm, ho.1⟩
  · have hj2 : j < 2 := hj
    obtain rfl | rfl : j = 0 ∨ j = 1 := by omega
    · exact absurd hjn (by simp)
    · exact absurd hjn (by simp)
theorem lm (mp mb : Nat) (w : World) (h : MS w mp mb [(2, ((1, 7) : Pl)), (3, (0, 0))]) : Calls Try.prog 28 #[.pointer (some ⟨mp, 0, none⟩), .int .i64 2] w fun e w' => e = .returned (.tuple #[.agg #[.int .u64 0, .int .u64 0], .bool true]) ∧ RowKit.Below w.heap.size w w' :=
  (leastM28 mp mb [(2, ((1, 7) : Pl)), (3, (0, 0))] (by decide) 2 w h).mono fun _ _ ⟨h1, h2⟩ => ⟨h1.trans (by kernel_rfl), h2⟩
theorem hv (mp mb : Nat) (w : World) (h : MS w mp mb [(2, ((1, 7) : Pl)), (3, (0, 0))]) : Calls Try.prog 18 #[.pointer (some ⟨mp, 0, none⟩), .int .i64 1, .agg #[.int .u64 1, .int .u64 7]] w fun e w' => e = .returned (.bool true) ∧ RowKit.Below w.heap.size w w' :=
  (haveM18 mp mb [(2, ((1, 7) : Pl)), (3, (0, 0))] (by decide) 1 (1, 7) w h).mono fun _ _ ⟨h1, h2⟩ => ⟨h1.trans (by kernel_rfl), h2⟩
set_option maxRecDepth 10000 in
set_option maxHeartbeats 12800000 in
theorem known8 (w : World) : Calls Try.prog 8 #[] w fun e w' => e = .returned (.bool true) ∧ RowKit.Below w.heap.size w w' := by
  have nq : ∀ w, (binOp .neq 26 (.agg #[.int .u64 1, .int .u64 9]) (.agg #[.int .u64 1, .int .u64 9])).run Try.prog w = .ok (.bool false) w := fun w => by kernel_rfl
  go_enter Try.func8, Try.ntmps8
  go_wp2_with fail
  refine (at_1_5 _).mono ?_
  rintro e w1 ⟨rfl, hb1⟩
  go_wp2_with fail
  refine (at_1_9 _).mono ?_
  rintro e w2 ⟨rfl, hb2⟩
  go_wp2_with fail
  refine (at_2_1 _).mono ?_
  rintro e w3 ⟨rfl, hb3⟩
  go_wp2_with fail
  refine (lst2 _).mono ?_
  rintro e w4 ⟨rfl, hb4⟩
  go_wp2_with fail
  refine (at_1_5 _).mono ?_
  rintro e w5 ⟨rfl, hb5⟩
  go_wp2_with fail
  refine (at_1_9 _).mono ?_
  rintro e w6 ⟨rfl, hb6⟩
  go_wp2_with fail
  refine (at_2_1 _).mono ?_
  rintro e w7 ⟨rfl, hb7⟩
  go_wp2_with fail
  refine (lst4 _).mono ?_
  rintro e w8 ⟨rfl, hb8⟩
  go_wp2_with fail
  refine (nw (w8.alloc (.cells #[.int .u64 0, .int .u64 0] 26)) (w8.heap.size + 1) (by simp)).mono ?_
  rintro e w9 ⟨mp, mb, rfl, hmp, hmb, hM, hb9⟩
  have B4 := (RowKit.Below.refl w4.heap.size w4).alloc (Nat.le_refl _) (.cells #[.int .u64 1, .int .u64 9] 26)
  have Bx := belT (belT (belT (belT (belT hb5 hb6) hb7) hb8) (below_alloc' w8)) hb9
  have B9 := belT (belT (belT (belT (belT hb1 hb2) hb3) hb4) B4) Bx
  have z9 : w9.heap[w4.heap.size]? = some (.cells #[.int .u64 1, .int .u64 9] 26 (0, 0)) := (Bx.block _ (by simp)).trans (heap_alloc_new _ _)
  have HMB : w.heap.size ≤ mb := by
    have q1 := hb1.size; have q2 := hb2.size; have q3 := hb3.size; have q4 := hb4.size; have q5 := hb5.size; have q6 := hb6.size; have q7 := hb7.size; have q8 := hb8.size
    simp at q5 hmb
    omega
  clear hb1 hb2 hb3 hb4 hb5 hb6 hb7 hb8 hb9 B4 Bx hmp hmb
  go_wp2_with fail
  have KF : ∀ w', RowKit.Below w9.drew.heap.size w9.drew w' → w'.cell? ⟨w4.heap.size, 0, none⟩ = some (.int .u64 1) ∧ w'.cell? ⟨w4.heap.size, 1, none⟩ = some (.int .u64 9) := fun w' hb => by
    have e1 : w'.heap[w4.heap.size]? = _ := (hb.block _ (Array.getElem?_eq_some_iff.1 z9).1).trans z9
    exact ⟨cell_of_row _ _ _ _ _ _ e1, cell_of_row _ _ _ _ _ _ e1⟩
  refine seqS_start (RowKit.Below w9.drew.heap.size w9.drew) 27 [false, false, false, false, false, false, false, false, false, false, false, false, false, false, false, false, false, false, false, false, false, false, false, false, false, false, false] (by kernel_rfl) rfl rfl (RowKit.Below.refl _ _) ?_
  refine seqS_take 0 (v := ?_) rfl (by kernel_rfl) (fun _ _ _ h => h) (Or.inl ⟨by rfl, fun w' hb => ?_⟩) ?_
  rotate_left
  · have kf := KF w' hb
    go_simp
    with_reducible rfl
  simp only [Act.put, List.setIfInBounds_toArray, List.set_cons_zero, List.set_cons_succ]
  refine seqS_do 1 rfl (by kernel_rfl) (fun K hK => ?_)
  go_simp
  refine (at_1_9 _).mono ?_
  rintro e v1 ⟨rfl, hc1⟩
  refine hK.out (RowKit.Below w9.drew.heap.size w9.drew) _ _ (fun _ h => h) hc1 ?_
  clear hK K
  simp only [List.set_cons_zero, List.set_cons_succ]
  refine seqS_take 2 (v := ?_) rfl (by kernel_rfl) (fun _ _ _ h => h) (Or.inl ⟨by rfl, fun w' hb => ?_⟩) ?_
  rotate_left
  · have kf := KF w' hb
    go_simp
    with_reducible rfl
  simp only [Act.put, List.setIfInBounds_toArray, List.set_cons_zero, List.set_cons_succ]
  refine seqS_take 3 (v := ?_) rfl (by kernel_rfl) (fun _ _ _ h => h) (Or.inl ⟨by rfl, fun w' hb => ?_⟩) ?_
  rotate_left
  · have kf := KF w' hb
    go_simp
    with_reducible rfl
  simp only [Act.put, List.setIfInBounds_toArray, List.set_cons_zero, List.set_cons_succ]
  refine seqS_take 4 (v := ?_) rfl (by kernel_rfl) (fun _ _ _ h => h) (Or.inl ⟨by rfl, fun w' hb => ?_⟩) ?_
  rotate_left
  · have kf := KF w' hb
    go_simp
    with_reducible rfl
  simp only [Act.put, List.setIfInBounds_toArray, List.set_cons_zero, List.set_cons_succ]
  refine seqS_take 5 (v := ?_) rfl (by kernel_rfl) (fun _ _ _ h => h) (Or.inl ⟨by rfl, fun w' hb => ?_⟩) ?_
  rotate_left
  · have kf := KF w' hb
    go_simp
    with_reducible rfl
  simp only [Act.put, List.setIfInBounds_toArray, List.set_cons_zero, List.set_cons_succ]
  refine seqS_take 6 (v := ?_) rfl (by kernel_rfl) (fun _ _ _ h => h) (Or.inl ⟨by rfl, fun w' hb => ?_⟩) ?_
  rotate_left
  · have kf := KF w' hb
    go_simp
    with_reducible rfl
  simp only [Act.put, List.setIfInBounds_toArray, List.set_cons_zero, List.set_cons_succ]
  refine seqS_take 7 (v := ?_) rfl (by kernel_rfl) (fun _ _ _ h => h) (Or.inl ⟨by rfl, fun w' hb => ?_⟩) ?_
  rotate_left
  · have kf := KF w' hb
    go_simp
    with_reducible rfl
  simp only [Act.put, List.setIfInBounds_toArray, List.set_cons_zero, List.set_cons_succ]
  refine seqS_take 8 (v := ?_) rfl (by kernel_rfl) (fun _ _ _ h => h) (Or.inl ⟨by rfl, fun w' hb => ?_⟩) ?_
  rotate_left
  · have kf := KF w' hb
    go_simp
    with_reducible rfl
  simp only [Act.put, List.setIfInBounds_toArray, List.set_cons_zero, List.set_cons_succ]
  refine seqS_take 9 (v := ?_) rfl (by kernel_rfl) (fun _ _ _ h => h) (Or.inl ⟨by rfl, fun w' hb => ?_⟩) ?_
  rotate_left
  · have kf := KF w' hb
    go_simp
    with_reducible rfl
  simp only [Act.put, List.setIfInBounds_toArray, List.set_cons_zero, List.set_cons_succ]
  refine seqS_take 10 (v := ?_) rfl (by kernel_rfl) (fun _ _ _ h => h) (Or.inl ⟨by rfl, fun w' hb => ?_⟩) ?_
  rotate_left
  · have kf := KF w' hb
    go_simp
    with_reducible rfl
  simp only [Act.put, List.setIfInBounds_toArray, List.set_cons_zero, List.set_cons_succ]
  refine seqS_do 11 rfl (by kernel_rfl) (fun K hK => ?_)
  go_simp
  refine (at_1_5 _).mono ?_
  rintro e v2 ⟨rfl, hc2⟩
  replace hc2 := belT hc1 hc2
  refine hK.out (RowKit.Below w9.drew.heap.size w9.drew) _ _ (fun _ h => h) hc2 ?_
  clear hK K
  simp only [List.set_cons_zero, List.set_cons_succ]
  refine seqS_do 12 rfl (by kernel_rfl) (fun K hK => ?_)
  go_simp
  refine (at_1_9 _).mono ?_
  rintro e v3 ⟨rfl, hc3⟩
  replace hc3 := belT hc2 hc3
  refine hK.out (RowKit.Below w9.drew.heap.size w9.drew) _ _ (fun _ h => h) hc3 ?_
  clear hK K
  simp only [List.set_cons_zero, List.set_cons_succ]
  refine seqS_do 13 rfl (by kernel_rfl) (fun K hK => ?_)
  go_simp
  refine (at_2_1 _).mono ?_
  rintro e v4 ⟨rfl, hc4⟩
  replace hc4 := belT hc3 hc4
  refine hK.out (RowKit.Below w9.drew.heap.size w9.drew) _ _ (fun _ h => h) hc4 ?_
  clear hK K
  simp only [List.set_cons_zero, List.set_cons_succ]
  refine seqS_do 14 rfl (by kernel_rfl) (fun K hK => ?_)
  go_simp
  refine hK.out (RowKit.Below w9.drew.heap.size w9.drew) _ _ (fun _ h => h) (hc4.alloc hc4.size _) ?_
  clear hK K
  simp only [List.set_cons_zero, List.set_cons_succ]
  refine seqS_do 15 rfl (by kernel_rfl) (fun K hK => ?_)
  go_simp
  refine (chs v4).mono ?_
  rintro e v5 ⟨rfl, hc5⟩
  replace hc5 := belT hc4 hc5
  refine hK.out (RowKit.Below w9.drew.heap.size w9.drew) _ _ (fun _ h => h) hc5 ?_
  clear hK K
  simp only [List.set_cons_zero, List.set_cons_succ]
  refine seqS_take 16 (v := ?_) rfl (by kernel_rfl) (fun _ _ _ h => h) (Or.inl ⟨by rfl, fun w' hb => ?_⟩) ?_
  rotate_left
  · have kf := KF w' hb
    go_simp
    with_reducible rfl
  simp only [Act.put, List.setIfInBounds_toArray, List.set_cons_zero, List.set_cons_succ]
  refine seqS_take 17 (v := ?_) rfl (by kernel_rfl) (fun _ _ _ h => h) (Or.inl ⟨by rfl, fun w' hb => ?_⟩) ?_
  rotate_left
  · have kf := KF w' hb
    go_simp
    with_reducible rfl
  simp only [Act.put, List.setIfInBounds_toArray, List.set_cons_zero, List.set_cons_succ]
  refine seqS_take 18 (v := ?_) rfl (by kernel_rfl) (fun _ _ _ h => h) (Or.inl ⟨by rfl, fun w' hb => ?_⟩) ?_
  rotate_left
  · have kf := KF w' hb
    go_simp
    with_reducible rfl
  simp only [Act.put, List.setIfInBounds_toArray, List.set_cons_zero, List.set_cons_succ]
  refine seqS_take 19 (v := ?_) rfl (by kernel_rfl) (fun _ _ _ h => h) (Or.inl ⟨by rfl, fun w' hb => ?_⟩) ?_
  rotate_left
  · have kf := KF w' hb
    go_simp
    with_reducible rfl
  simp only [Act.put, List.setIfInBounds_toArray, List.set_cons_zero, List.set_cons_succ]
  refine seqS_take 20 (v := ?_) rfl (by kernel_rfl) (fun _ _ _ h => h) (Or.inl ⟨by rfl, fun w' hb => ?_⟩) ?_
  rotate_left
  · have kf := KF w' hb
    go_simp
    with_reducible rfl
  simp only [Act.put, List.setIfInBounds_toArray, List.set_cons_zero, List.set_cons_succ]
  refine seqS_take 21 (v := ?_) rfl (by kernel_rfl) (fun _ _ _ h => h) (Or.inl ⟨by rfl, fun w' hb => ?_⟩) ?_
  rotate_left
  · have kf := KF w' hb
    go_simp
    with_reducible rfl
  simp only [Act.put, List.setIfInBounds_toArray, List.set_cons_zero, List.set_cons_succ]
  refine seqS_take 22 (v := ?_) rfl (by kernel_rfl) (fun _ _ _ h => h) (Or.inl ⟨by rfl, fun w' hb => ?_⟩) ?_
  rotate_left
  · have kf := KF w' hb
    go_simp
    with_reducible rfl
  simp only [Act.put, List.setIfInBounds_toArray, List.set_cons_zero, List.set_cons_succ]
  refine seqS_take 23 (v := ?_) rfl (by kernel_rfl) (fun _ _ _ h => h) (Or.inl ⟨by rfl, fun w' hb => ?_⟩) ?_
  rotate_left
  · have kf := KF w' hb
    go_simp
    with_reducible rfl
  simp only [Act.put, List.setIfInBounds_toArray, List.set_cons_zero, List.set_cons_succ]
  refine seqS_do 24 rfl (by kernel_rfl) (fun K hK => ?_)
  go_simp
  refine (num11 _ _).mono ?_
  rintro e v6 ⟨rfl, rfl⟩
  refine hK.out (RowKit.Below w9.drew.heap.size w9.drew) _ _ (fun _ h => h) hc5 ?_
  clear hK K
  simp only [List.set_cons_zero, List.set_cons_succ]
  refine seqS_take 25 (v := ?_) rfl (by kernel_rfl) (fun _ _ _ h => h) (Or.inl ⟨by rfl, fun w' hb => ?_⟩) ?_
  rotate_left
  · have kf := KF w' hb
    go_simp
    with_reducible rfl
  simp only [Act.put, List.setIfInBounds_toArray, List.set_cons_zero, List.set_cons_succ]
  refine seqS_take 26 (v := ?_) rfl (by kernel_rfl) (fun _ _ _ h => h) (Or.inl ⟨by rfl, fun w' hb => ?_⟩) ?_
  rotate_left
  · have kf := KF w' hb
    go_simp
    with_reducible rfl
  simp only [Act.put, List.setIfInBounds_toArray, List.set_cons_zero, List.set_cons_succ]
  refine seqS_end (by kernel_rfl) (fun hEnd => ?_)
  clear KF nq z9
  have B10 : RowKit.Below w.heap.size w v5 := B9.trans ((⟨rfl, rfl, rfl, Nat.le_refl _, fun _ _ => rfl⟩ : RowKit.Below w9.heap.size w9 w9.drew).trans hc5 |>.mono B9.size)
  have hM10 : MS v5 mp mb [(2, (0, 0)), (3, (0, 0))] := hM.drew.below hc5
  clear hc1 hc2 hc3 hc4 hc5 B9 hM
  clear hEnd
  go_wp2_with fail
  refine (at_1_7 _).mono ?_
  rintro e w11 ⟨rfl, a1⟩
  have b1 := B10.trans (a1.mono B10.size)
  have m1 := hM10.below a1
  clear hM10 B10 a1
  go_wp2_with fail
  refine (tl1 mp mb w11 m1).mono ?_
  rintro e w12 ⟨rfl, hM12, a2⟩
  have B10 := b1.trans (a2.mono HMB)
  clear m1 b1 a2
  go_wp2_with fail
  refine (at_1_5 _).mono ?_
  rintro e w13 ⟨rfl, a1⟩
  have b1 := B10.trans (a1.mono B10.size)
  have m1 := hM12.below a1
  clear hM12 B10 a1
  go_wp2_with fail
  refine (tl2 mp mb w13 m1).mono ?_
  rintro e w14 ⟨rfl, hM14, a2⟩
  have B10 := b1.trans (a2.mono HMB)
  clear m1 b1 a2
  go_wp2_with fail
  refine (at_1_1 _).mono ?_
  rintro e w15 ⟨rfl, a1⟩
  have b1 := B10.trans (a1.mono B10.size)
  have m1 := hM14.below a1
  clear hM14 B10 a1
  go_wp2_with fail
  refine (tl3 mp mb w15 m1).mono ?_
  rintro e w16 ⟨rfl, hM16, a2⟩
  have B10 := b1.trans (a2.mono HMB)
  clear m1 b1 a2
  go_wp2_with fail
  refine (lm mp mb w16 hM16).mono ?_
  rintro e w17 ⟨rfl, a1⟩
  have B17 := B10.trans (a1.mono B10.size)
  have hM17 := hM16.below a1
  have C := (RowKit.Below.refl w17.heap.size w17).alloc (Nat.le_refl _) (.cells #[.int .u64 0, .int .u64 0] 26)
  have z17 : (w17.alloc (.cells #[.int .u64 0, .int .u64 0] 26)).heap[w17.heap.size]? = some (.cells #[.int .u64 0, .int .u64 0] 26 (0, 0)) := heap_alloc_new _ _
  have B18 := B17.trans (C.mono B17.size)
  have hM18 := hM17.below C
  have HC := Lib.hid C
  clear hM16 B10 a1 C
  go_wp2_with (first | (go_at_call 11; refine (num11 _ _).mono ?_; rintro e v6 ⟨rfl, rfl⟩) | fail)
  refine (at_1_7 _).mono ?_
  rintro e w18 ⟨rfl, a1⟩
  have B19 := B18.trans (a1.mono B18.size)
  have hM19 := hM18.below a1
  have z18 : w18.heap[w17.heap.size]? = _ := (a1.block _ (Array.getElem?_eq_some_iff.1 z17).1).trans z17
  clear B18 hM18 a1 z17
  go_wp2_with fail
  refine (hv mp mb w18 hM19).mono ?_
  rintro e w19 ⟨rfl, a1⟩
  have B20 := B19.trans (a1.mono B19.size)
  have z19 : w19.heap[w17.heap.size]? = _ := (a1.block _ (Array.getElem?_eq_some_iff.1 z18).1).trans z18
  have k0 := cell_of_row _ _ 0 _ _ _ z19
  have k1 := cell_of_row _ _ 1 _ _ _ z19
  clear B19 hM19 a1 z18
  go_wp2_with fail
  go_ret
  exact ⟨rfl, B20⟩


end Go.Proofs.Ytbpajfjeakffkaa

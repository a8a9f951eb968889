/- Places: compare, Less, and what sorts them. -/
import Derived.Test.YtbpajfjeakffkaaRows
import Derived.WalkKit
import Derived.WalkSpells
import Derived.WalkLawsBesides
import Derived.Deep.WholeRow
import Derived.Lib.Hide
import Derived.Deep.MidRow
import Derived.Laws.CopyOwn
import Derived.Deep.Cut
import Derived.Deep.CutBlock
import Derived.Sort.Grow
import Derived.Test.YtbpajfjeakffkaaSeqK
namespace Go.Proofs.Ytbpajfjeakffkaa
open Go.RowKit Go.Sort

abbrev Pl := Nat × Nat
abbrev pv (p : Pl) : Value := .agg #[.int .u64 p.1, .int .u64 p.2]
def cmpN (a b : Nat) : Int := if a < b then -1 else if b < a then 1 else 0
def orI (x y : Int) : Int := if x = 0 then y else x
def cmpP (p q : Pl) : Int := orI (cmpN p.1 q.1) (cmpN p.2 q.2)
def lessP (p q : Pl) : Bool := decide (p.1 < q.1) || (decide (p.1 = q.1) && decide (p.2 < q.2))
theorem cmpN_neg (a b : Nat) : cmpN a b < 0 ↔ a < b := by unfold cmpN; by_cases h1 : a < b <;> by_cases h2 : b < a <;> simp [h1, h2] <;> omega
theorem cmpN_zero (a b : Nat) : cmpN a b = 0 ↔ a = b := by unfold cmpN; by_cases h1 : a < b <;> by_cases h2 : b < a <;> simp [h1, h2] <;> omega
theorem cmpP_neg (p q : Pl) : (decide (cmpP p q < 0)) = lessP p q := by
  unfold cmpP orI lessP
  by_cases h : p.1 = q.1
  · rw [if_pos ((cmpN_zero _ _).2 h)]
    have := cmpN_neg p.2 q.2
    simp [h, this]
  · rw [if_neg (fun e => h ((cmpN_zero _ _).1 e))]
    have := cmpN_neg p.1 q.1
    simp [h, this]
/-- draws and new blocks alone -/
def Gr (w w' : World) : Prop := ∃ q os, w' = grow (w.drewN q) os
theorem drewN_zero (w : World) : w.drewN 0 = w := by rfl
theorem Gr.refl (w : World) : Gr w w := ⟨0, #[], by rw [grow_empty]; rfl⟩
theorem Gr.alloc {w w' : World} (h : Gr w w') (o : Obj) : Gr w (w'.alloc o) := by
  obtain ⟨q, os, rfl⟩ := h
  exact ⟨q, os ++ #[o], by rw [alloc_eq_grow, grow_grow]⟩
theorem Gr.drew {w w' : World} (h : Gr w w') : Gr w w'.drew := by
  obtain ⟨q, os, rfl⟩ := h
  exact ⟨q + 1, os, by show _ = grow (w.drewN (q + 1)) os; unfold grow World.drewN World.drew; simp [Nat.add_assoc]⟩
theorem Gr.trans {a b c : World} (h : Gr a b) (k : Gr b c) : Gr a c := by
  obtain ⟨q, os, rfl⟩ := h
  obtain ⟨q', os', rfl⟩ := k
  exact ⟨q + q', os ++ os', by unfold grow World.drewN; simp [Nat.add_assoc, Array.append_assoc]⟩
theorem Gr.below {w w' : World} (h : Gr w w') : Below w.heap.size w w' := by
  obtain ⟨q, os, rfl⟩ := h
  refine ⟨rfl, rfl, rfl, by simp [grow, World.drewN], fun k hk => ?_⟩
  show (w.heap ++ os)[k]? = w.heap[k]?
  rw [Array.getElem?_append_left hk]

theorem isNaN57 (a : Nat) (w : World) : Calls Try.prog 57 #[.int .u64 a] w fun e w' => e = .returned (.bool false) ∧ w = w' := by
  go_enter Try.func57, Try.ntmps57
  go_wp2
  go_ret
  exact ⟨by simp, rfl⟩
theorem compare49 (a b : Nat) (w : World) : Calls Try.prog 49 #[.int .u64 a, .int .u64 b] w fun e w' => e = .returned (.int .i64 (cmpN a b)) ∧ w = w' := by
  unfold cmpN
  by_cases h1 : a < b
  · rw [if_pos h1]
    go_enter Try.func49, Try.ntmps49
    go_wp2_with (go_at_call 57; refine (isNaN57 _ _).mono ?_; rintro e w' ⟨rfl, rfl⟩)
    go_ret
    exact ⟨rfl, rfl⟩
  · by_cases h2 : b < a
    · rw [if_neg h1, if_pos h2]
      go_enter Try.func49, Try.ntmps49
      go_wp2_with (go_at_call 57; refine (isNaN57 _ _).mono ?_; rintro e w' ⟨rfl, rfl⟩)
      go_ret
      exact ⟨rfl, rfl⟩
    · rw [if_neg h1, if_neg h2]
      go_enter Try.func49, Try.ntmps49
      go_wp2_with (go_at_call 57; refine (isNaN57 _ _).mono ?_; rintro e w' ⟨rfl, rfl⟩)
      go_ret
      exact ⟨rfl, rfl⟩
theorem or48 (x y : Int) (g : Nat) (t : TypeId) (w : World) (h : w.heap[g]? = some (.cells #[.int .i64 x, .int .i64 y] t (0, 0))) : Calls Try.prog 48 #[.slice (some ⟨g, 0, none⟩) 2 2] w fun e w' => e = .returned (.int .i64 (orI x y)) ∧ w = w' := by
  unfold orI
  have z0 : w.cell? ⟨g, 0, none⟩ = some (.int .i64 x) := cell_of_row _ _ 0 _ _ _ h
  have z1 : w.cell? ⟨g, 1, none⟩ = some (.int .i64 y) := cell_of_row _ _ 1 _ _ _ h
  clear h
  by_cases hx : x = 0
  · rw [if_pos hx]
    have hx1 : (x != 0) = false := by simp [hx]
    have hX := Lib.hid hx
    clear hx
    go_enter Try.func48, Try.ntmps48
    go_wp2_with fail
    go_loop [8] (fun i => ∃ k : Nat, k ≤ 2 ∧ i = .int .i64 k ∧ (k = 2 → y = 0)) (fun i => 2 - (intOf i).toNat)
    case atStart => exact ⟨0, by omega, rfl, by omega⟩
    case round =>
      obtain ⟨k, hk, rfl, hy⟩ := hrel
      obtain rfl | rfl | rfl : k = 0 ∨ k = 1 ∨ k = 2 := by omega
      · clear hy
        go_wp2
        go_round
        case rel => exact ⟨1, by omega, rfl, by omega⟩
        case measure => simp [intOf]
      · clear hy
        by_cases hy0 : y = 0
        · have hy1 : (y != 0) = false := by simp [hy0]
          have hY := Lib.hid hy0
          clear hy0
          go_wp2
          go_round
          case rel => exact ⟨2, by omega, rfl, fun _ => hY.out⟩
          case measure => simp [intOf]
        · have hy1 : (y != 0) = true := by simp [hy0]
          clear hy0
          go_wp2
          go_ret
          exact ⟨rfl, rfl⟩
      · have hY := Lib.hid (hy rfl)
        clear hy
        go_wp2
        go_ret
        exact ⟨by rw [hY.out]; rfl, rfl⟩
  · rw [if_neg hx]
    have hx1 : (x != 0) = true := by simp [hx]
    clear hx
    go_enter Try.func48, Try.ntmps48
    go_wp2_with fail
    go_loop [8] (fun i => i = .int .i64 0) (fun i => 2 - (intOf i).toNat)
    case atStart => rfl
    case round =>
      subst hrel
      go_wp2
      go_ret
      exact ⟨rfl, rfl⟩

set_option maxHeartbeats 1600000 in
theorem compare38 (p q : Pl) (w : World) : Calls Try.prog 38 #[pv p, pv q] w fun e w' => e = .returned (.int .i64 (cmpP p q)) ∧ Gr w w' := by
  go_enter Try.func38, Try.ntmps38
  go_wp2_with fail
  obtain ⟨W, hW⟩ : ∃ W, W = (w.alloc (.cells #[.int .u64 p.1, .int .u64 p.2] 26)).alloc (.cells #[.int .u64 q.1, .int .u64 q.2] 26) := ⟨_, rfl⟩
  have hG : Gr w W := by rw [hW]; exact ((Gr.refl _).alloc _).alloc _
  have h1 : W.heap[w.heap.size]? = some (.cells #[.int .u64 p.1, .int .u64 p.2] 26 (0, 0)) := by rw [hW]; exact heap_alloc2_old _ _ _
  have h2 : W.heap[w.heap.size + 1]? = some (.cells #[.int .u64 q.1, .int .u64 q.2] 26 (0, 0)) := by rw [hW]; exact heap_alloc2_new _ _ _
  have hsz : w.heap.size + 1 < W.heap.size := by rw [hW]; simp
  rw [← hW]
  have KF : ∀ w', Gr W.drew w' → w'.cell? ⟨w.heap.size, 0, none⟩ = some (.int .u64 p.1) ∧ w'.cell? ⟨w.heap.size, 1, none⟩ = some (.int .u64 p.2) ∧ w'.cell? ⟨w.heap.size + 1, 0, none⟩ = some (.int .u64 q.1) ∧ w'.cell? ⟨w.heap.size + 1, 1, none⟩ = some (.int .u64 q.2) := fun w' h => by
    have hb := h.below
    have e1 : w'.heap[w.heap.size]? = _ := (hb.block _ (by show _ < W.heap.size; omega)).trans h1
    have e2 : w'.heap[w.heap.size + 1]? = _ := (hb.block _ hsz).trans h2
    exact ⟨cell_of_row _ _ _ _ _ _ e1, cell_of_row _ _ _ _ _ _ e1, cell_of_row _ _ _ _ _ _ e2, cell_of_row _ _ _ _ _ _ e2⟩
  clear hW h1 h2
  refine seqS_start (Gr W.drew) 13 [false, false, false, false, false, false, false, false, false, false, false, false, false] (by kernel_rfl) rfl rfl (Gr.refl _) ?_
  refine seqS_take 0 (v := ?_) rfl (by kernel_rfl) (fun _ _ _ h => h) (Or.inl ⟨by rfl, fun w' hb => ?_⟩) ?_
  rotate_left
  · have kf := KF w' hb
    go_simp
    with_reducible rfl
  simp only [Act.put, List.setIfInBounds_toArray, List.set_cons_zero, List.set_cons_succ]
  refine seqS_take 1 (v := ?_) rfl (by kernel_rfl) (fun _ _ _ h => h) (Or.inl ⟨by rfl, fun w' hb => ?_⟩) ?_
  rotate_left
  · have kf := KF w' hb
    go_simp
    with_reducible rfl
  simp only [Act.put, List.setIfInBounds_toArray, List.set_cons_zero, List.set_cons_succ]
  refine seqS_take 2 (v := ?_) rfl (by kernel_rfl) (fun _ _ _ h => h) (Or.inl ⟨by rfl, fun w' hb => ?_⟩) ?_
  rotate_left
  · have kf := KF w' hb
    go_simp
    with_reducible rfl
  simp only [Act.put, List.setIfInBounds_toArray, List.set_cons_zero, List.set_cons_succ]
  refine seqS_take 3 (v := ?_) rfl (by kernel_rfl) (fun _ _ _ h => h) (Or.inl ⟨by rfl, fun w' hb => ?_⟩) ?_
  rotate_left
  · have kf := KF w' hb
    go_simp
    with_reducible rfl
  simp only [Act.put, List.setIfInBounds_toArray, List.set_cons_zero, List.set_cons_succ]
  refine seqS_take 5 (v := ?_) rfl (by kernel_rfl) (fun _ _ _ h => h) (Or.inl ⟨by rfl, fun w' hb => ?_⟩) ?_
  rotate_left
  · have kf := KF w' hb
    go_simp
    with_reducible rfl
  simp only [Act.put, List.setIfInBounds_toArray, List.set_cons_zero, List.set_cons_succ]
  refine seqS_take 6 (v := ?_) rfl (by kernel_rfl) (fun _ _ _ h => h) (Or.inl ⟨by rfl, fun w' hb => ?_⟩) ?_
  rotate_left
  · have kf := KF w' hb
    go_simp
    with_reducible rfl
  simp only [Act.put, List.setIfInBounds_toArray, List.set_cons_zero, List.set_cons_succ]
  refine seqS_take 7 (v := ?_) rfl (by kernel_rfl) (fun _ _ _ h => h) (Or.inl ⟨by rfl, fun w' hb => ?_⟩) ?_
  rotate_left
  · have kf := KF w' hb
    go_simp
    with_reducible rfl
  simp only [Act.put, List.setIfInBounds_toArray, List.set_cons_zero, List.set_cons_succ]
  refine seqS_take 8 (v := ?_) rfl (by kernel_rfl) (fun _ _ _ h => h) (Or.inl ⟨by rfl, fun w' hb => ?_⟩) ?_
  rotate_left
  · have kf := KF w' hb
    go_simp
    with_reducible rfl
  simp only [Act.put, List.setIfInBounds_toArray, List.set_cons_zero, List.set_cons_succ]
  refine seqS_do 4 rfl (by kernel_rfl) (fun K hK => ?_)
  go_simp
  go_at_call 49
  refine (compare49 _ _ _).mono ?_
  rintro e w1 ⟨rfl, rfl⟩
  refine hK.out (Gr W.drew) _ _ (fun _ h => h) (Gr.refl _) ?_
  clear hK K
  simp only [List.set_cons_zero, List.set_cons_succ]
  refine seqS_do 9 rfl (by kernel_rfl) (fun K hK => ?_)
  go_simp
  go_at_call 49
  refine (compare49 _ _ _).mono ?_
  rintro e w2 ⟨rfl, rfl⟩
  refine hK.out (Gr W.drew) _ _ (fun _ h => h) (Gr.refl _) ?_
  clear hK K
  simp only [List.set_cons_zero, List.set_cons_succ]
  refine seqS_do 10 rfl (by kernel_rfl) (fun K hK => ?_)
  go_simp
  refine hK.out (Gr W.drew) _ _ (fun _ h => h) ((Gr.refl _).alloc _) ?_
  clear hK K
  simp only [List.set_cons_zero, List.set_cons_succ]
  refine seqS_do 11 rfl (by kernel_rfl) (fun K hK => ?_)
  go_simp
  go_at_call 48
  refine (or48 _ _ W.heap.size 3 (W.alloc (.cells #[.int .i64 (cmpN p.1 q.1), .int .i64 (cmpN p.2 q.2)] 3)).drew (heap_alloc_new W _)).mono ?_
  rintro e w3 ⟨rfl, rfl⟩
  refine hK.out (Gr W.drew) _ _ (fun _ h => h) ((Gr.refl _).alloc _) ?_
  clear hK K
  simp only [List.set_cons_zero, List.set_cons_succ]
  refine seqS_take 12 (v := ?_) rfl (by kernel_rfl) (fun _ _ _ h => h) (Or.inl ⟨by rfl, fun w' hb => ?_⟩) ?_
  rotate_left
  · have kf := KF w' hb
    go_simp
    with_reducible rfl
  simp only [Act.put, List.setIfInBounds_toArray, List.set_cons_zero, List.set_cons_succ]
  refine seqS_end (by kernel_rfl) (fun hEnd => ?_)
  go_wp2_with fail
  go_ret
  exact ⟨rfl, hG.trans ((Gr.refl _).drew.trans ((Gr.refl _).alloc _))⟩
set_option maxHeartbeats 1600000 in
theorem less25 (p q : Pl) (w : World) : Calls Try.prog 25 #[pv p, pv q] w fun e w' => e = .returned (.bool (lessP p q)) ∧ Gr w w' := by
  have h := cmpP_neg p q
  have P := Lib.hid (fun w => compare38 p q w)
  obtain ⟨z, hz⟩ : ∃ z, lessP p q = z := ⟨_, rfl⟩
  obtain ⟨c, hc⟩ : ∃ c, cmpP p q = c := ⟨_, rfl⟩
  rw [hz, hc] at h
  rw [hc] at P
  rw [hz]
  clear hz hc
  go_enter Try.func25, Try.ntmps25
  go_wp2_with (go_at_call 38; refine (P.out _).mono ?_; rintro e w1 ⟨rfl, hg⟩)
  go_ret
  exact ⟨rfl, (((Gr.refl _).alloc _).alloc _).trans hg⟩
set_option maxHeartbeats 1600000 in
theorem back37 (p q : Pl) (w : World) : Calls Try.prog 37 #[pv p, pv q] w fun e w' => e = .returned (.int .i64 (cmpP q p)) ∧ Gr w w' := by
  have P := Lib.hid (fun w => compare38 q p w)
  obtain ⟨c, hc⟩ : ∃ c, cmpP q p = c := ⟨_, rfl⟩
  rw [hc] at P ⊢
  clear hc
  go_enter Try.func37, Try.ntmps37
  go_wp2_with (go_at_call 38; refine (P.out _).mono ?_; rintro e w1 ⟨rfl, hg⟩)
  go_ret
  exact ⟨rfl, (((Gr.refl _).alloc _).alloc _).trans hg⟩

end Go.Proofs.Ytbpajfjeakffkaa

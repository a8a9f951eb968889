/- May, on. -/
import Derived.Test.YtokijkinlcdjeaaRecDa
namespace Go.Proofs.Ytokijkinlcdjeaa
open Go.RowKit WireM
set_option maxRecDepth 100000 in
set_option maxHeartbeats 8000000 in
theorem May5 (x : Nat) (p o : Int) (ab sb : Option Addr) (cb cs : Nat) (l : List UInt8) (u : List Nat) (n r t : Nat) (w : World) (ha : RB w ⟨5, x, p, o, l, u, n, r, t⟩ ab sb cb cs) (he : ⟨5, x, p, o, l, u, n, r, t⟩ = bareR ⟨5, x, p, o, l, u, n, r, t⟩) (hp0 : 0 ≤ p) (hp1 : p < 128) (hx1 : x ≤ 4000) (hr1 : r ≤ 4611686018427387904) :
    Calls Try.prog 16 #[rv 5 x p o ab l.length cb sb u.length cs n r t] w fun e w' => e = .returned (.bool (mayB ⟨5, x, p, o, l, u, n, r, t⟩)) ∧ Below w.heap.size w w' := by
  have HEq := Lib.hid he
  have hK : kindB ⟨5, x, p, o, l, u, n, r, t⟩ = true := by simp [kindB]
  have hM : mayB ⟨5, x, p, o, l, u, n, r, t⟩ = true := by unfold mayB; rw [decide_eq_true he, hK]; simp [hp0, hp1, hx1, hr1]
  clear he hK
  have hd0 : decide (p < 0) = false := by simp; omega
  have hd1 : decide (128 ≤ p) = false := by simp; omega
  have hd2 : decide (4000 < (x : Int)) = false := by simp; omega
  have hd3 : decide (4611686018427387904 < (r : Int)) = false := by simp; omega
  go_enter Try.func16, Try.ntmps16
  go_wp2_with fail
  obtain ⟨W, hW⟩ : ∃ W, W = w.alloc (.cells #[.int .i64 5, .int .u64 x, .int .i64 p, .int .i64 o, .slice ab l.length cb, .slice sb u.length cs, .int .u64 n, .int .u64 r, .int .u64 t] 27) := ⟨_, rfl⟩
  have hB0 : Below w.heap.size w W := by rw [hW]; exact below_alloc _ _
  have hG : W.heap[w.heap.size]? = some (.cells #[.int .i64 5, .int .u64 x, .int .i64 p, .int .i64 o, .slice ab l.length cb, .slice sb u.length cs, .int .u64 n, .int .u64 r, .int .u64 t] 27 (0, 0)) := by rw [hW]; exact heap_alloc_new _ _
  have hsz : w.heap.size < W.heap.size := by rw [hW]; simp
  rw [← hW]
  have KF0 : ∀ w', Below W.heap.size W w' → (loadVar 27 ⟨w.heap.size, 0, none⟩).run Try.prog w' = .ok (rv 5 x p o ab l.length cb sb u.length cs n r t) w' ∧ w'.cell? ⟨w.heap.size, 0, none⟩ = some (.int .i64 5) ∧ w'.cell? ⟨w.heap.size, 1, none⟩ = some (.int .u64 x) ∧ w'.cell? ⟨w.heap.size, 2, none⟩ = some (.int .i64 p) ∧ w'.cell? ⟨w.heap.size, 3, none⟩ = some (.int .i64 o) ∧ w'.cell? ⟨w.heap.size, 4, none⟩ = some (.slice ab l.length cb) ∧ w'.cell? ⟨w.heap.size, 5, none⟩ = some (.slice sb u.length cs) ∧ w'.cell? ⟨w.heap.size, 6, none⟩ = some (.int .u64 n) ∧ w'.cell? ⟨w.heap.size, 7, none⟩ = some (.int .u64 r) ∧ w'.cell? ⟨w.heap.size, 8, none⟩ = some (.int .u64 t) := fun w' h => loads9 5 x p o ab sb cb cs l u n r t _ w' ((h.block _ hsz).trans hG)
  clear hW hG
  have KF : ∀ w', Below W.drew.heap.size W.drew w' → (loadVar 27 ⟨w.heap.size, 0, none⟩).run Try.prog w' = .ok (rv 5 x p o ab l.length cb sb u.length cs n r t) w' ∧ w'.cell? ⟨w.heap.size, 0, none⟩ = some (.int .i64 5) ∧ w'.cell? ⟨w.heap.size, 1, none⟩ = some (.int .u64 x) ∧ w'.cell? ⟨w.heap.size, 2, none⟩ = some (.int .i64 p) ∧ w'.cell? ⟨w.heap.size, 3, none⟩ = some (.int .i64 o) ∧ w'.cell? ⟨w.heap.size, 4, none⟩ = some (.slice ab l.length cb) ∧ w'.cell? ⟨w.heap.size, 5, none⟩ = some (.slice sb u.length cs) ∧ w'.cell? ⟨w.heap.size, 6, none⟩ = some (.int .u64 n) ∧ w'.cell? ⟨w.heap.size, 7, none⟩ = some (.int .u64 r) ∧ w'.cell? ⟨w.heap.size, 8, none⟩ = some (.int .u64 t) := fun w' h => KF0 w' (belT (Below.refl _ _).drew h)
  refine seq_start 25 [false, false, false, false, false, false, false, false, false, false, false, false, false, false, false, false, false, false, false, false, false, false, false, false, false] (by kernel_rfl) rfl rfl ?_
  refine seq_take 0 (v := ?_) rfl (by kernel_rfl) (fun _ _ _ h => h) (Or.inl ⟨by rfl, fun w' hb => ?_⟩) ?_
  rotate_left
  · have kf := KF w' hb
    go_simp
    with_reducible rfl
  simp only [Act.put, List.setIfInBounds_toArray, List.set_cons_zero, List.set_cons_succ]
  refine seq_take 1 (v := ?_) rfl (by kernel_rfl) (fun _ _ _ h => h) (Or.inl ⟨by rfl, fun w' hb => ?_⟩) ?_
  rotate_left
  · have kf := KF w' hb
    go_simp
    with_reducible rfl
  simp only [Act.put, List.setIfInBounds_toArray, List.set_cons_zero, List.set_cons_succ]
  refine seq_do 2 rfl (by kernel_rfl) (fun K hK => ?_)
  go_simp
  refine (bareAny 5 x p o ab sb cb cs l u n r t _ (ha.below (belT hB0 (Below.refl _ _).drew))).mono ?_
  rintro e w1 ⟨⟨k2, x2, p2, o2, ab2, sb2, cb2, cs2, l2, u2, n2, r2, t2, hR, rfl, hR2⟩, hb1⟩
  refine hK.out _ _ hb1 ?_
  clear hK K
  simp only [List.set_cons_zero, List.set_cons_succ]
  have hb1 := belT (Below.refl _ _).drew hb1
  replace KF : ∀ w', Below w1.heap.size w1 w' → (loadVar 27 ⟨w.heap.size, 0, none⟩).run Try.prog w' = .ok (rv 5 x p o ab l.length cb sb u.length cs n r t) w' ∧ w'.cell? ⟨w.heap.size, 0, none⟩ = some (.int .i64 5) ∧ w'.cell? ⟨w.heap.size, 1, none⟩ = some (.int .u64 x) ∧ w'.cell? ⟨w.heap.size, 2, none⟩ = some (.int .i64 p) ∧ w'.cell? ⟨w.heap.size, 3, none⟩ = some (.int .i64 o) ∧ w'.cell? ⟨w.heap.size, 4, none⟩ = some (.slice ab l.length cb) ∧ w'.cell? ⟨w.heap.size, 5, none⟩ = some (.slice sb u.length cs) ∧ w'.cell? ⟨w.heap.size, 6, none⟩ = some (.int .u64 n) ∧ w'.cell? ⟨w.heap.size, 7, none⟩ = some (.int .u64 r) ∧ w'.cell? ⟨w.heap.size, 8, none⟩ = some (.int .u64 t) := fun w' h => KF0 w' (belT hb1 h)
  refine seq_do 3 rfl (by kernel_rfl) (fun K hK => ?_)
  go_simp
  refine (SameF 5 x p o ab sb cb cs l u n r t k2 x2 p2 o2 ab2 sb2 cb2 cs2 l2 u2 n2 r2 t2 _ (ha.below (belT hB0 hb1)) hR2).mono ?_
  rw [← hR, decide_eq_true HEq.out]
  rintro e w2 ⟨rfl, hb2⟩
  refine hK.out _ _ hb2 ?_
  clear hK K
  simp only [List.set_cons_zero, List.set_cons_succ]
  have hb2 := belT hb1 hb2
  replace KF : ∀ w', Below w2.heap.size w2 w' → (loadVar 27 ⟨w.heap.size, 0, none⟩).run Try.prog w' = .ok (rv 5 x p o ab l.length cb sb u.length cs n r t) w' ∧ w'.cell? ⟨w.heap.size, 0, none⟩ = some (.int .i64 5) ∧ w'.cell? ⟨w.heap.size, 1, none⟩ = some (.int .u64 x) ∧ w'.cell? ⟨w.heap.size, 2, none⟩ = some (.int .i64 p) ∧ w'.cell? ⟨w.heap.size, 3, none⟩ = some (.int .i64 o) ∧ w'.cell? ⟨w.heap.size, 4, none⟩ = some (.slice ab l.length cb) ∧ w'.cell? ⟨w.heap.size, 5, none⟩ = some (.slice sb u.length cs) ∧ w'.cell? ⟨w.heap.size, 6, none⟩ = some (.int .u64 n) ∧ w'.cell? ⟨w.heap.size, 7, none⟩ = some (.int .u64 r) ∧ w'.cell? ⟨w.heap.size, 8, none⟩ = some (.int .u64 t) := fun w' h => KF0 w' (belT hb2 h)
  refine seq_take 4 (v := ?_) rfl (by kernel_rfl) (fun _ _ _ h => h) (Or.inl ⟨by rfl, fun w' hb => ?_⟩) ?_
  rotate_left
  · have kf := KF w' hb
    go_simp
    with_reducible rfl
  simp only [Act.put, List.setIfInBounds_toArray, List.set_cons_zero, List.set_cons_succ]
  refine seq_take 5 (v := ?_) rfl (by kernel_rfl) (fun _ _ _ h => h) (Or.inl ⟨by rfl, fun w' hb => ?_⟩) ?_
  rotate_left
  · have kf := KF w' hb
    go_simp
    with_reducible rfl
  simp only [Act.put, List.setIfInBounds_toArray, List.set_cons_zero, List.set_cons_succ]
  refine seq_take 6 (v := ?_) rfl (by kernel_rfl) (fun _ _ _ h => h) (Or.inl ⟨by rfl, fun w' hb => ?_⟩) ?_
  rotate_left
  · have kf := KF w' hb
    go_simp
    with_reducible rfl
  simp only [Act.put, List.setIfInBounds_toArray, List.set_cons_zero, List.set_cons_succ]
  refine seq_take 7 (v := ?_) rfl (by kernel_rfl) (fun _ _ _ h => h) (Or.inl ⟨by rfl, fun w' hb => ?_⟩) ?_
  rotate_left
  · have kf := KF w' hb
    go_simp
    with_reducible rfl
  simp only [Act.put, List.setIfInBounds_toArray, List.set_cons_zero, List.set_cons_succ]
  refine seq_take 8 (v := ?_) rfl (by kernel_rfl) (fun _ _ _ h => h) (Or.inl ⟨by rfl, fun w' hb => ?_⟩) ?_
  rotate_left
  · have kf := KF w' hb
    go_simp
    with_reducible rfl
  simp only [Act.put, List.setIfInBounds_toArray, List.set_cons_zero, List.set_cons_succ]
  refine seq_take 9 (v := ?_) rfl (by kernel_rfl) (fun _ _ _ h => h) (Or.inl ⟨by rfl, fun w' hb => ?_⟩) ?_
  rotate_left
  · have kf := KF w' hb
    go_simp
    with_reducible rfl
  simp only [Act.put, List.setIfInBounds_toArray, List.set_cons_zero, List.set_cons_succ]
  refine seq_take 10 (v := ?_) rfl (by kernel_rfl) (fun _ _ _ h => h) (Or.inl ⟨by rfl, fun w' hb => ?_⟩) ?_
  rotate_left
  · have kf := KF w' hb
    go_simp
    with_reducible rfl
  simp only [Act.put, List.setIfInBounds_toArray, List.set_cons_zero, List.set_cons_succ]
  refine seq_take 11 (v := ?_) rfl (by kernel_rfl) (fun _ _ _ h => h) (Or.inl ⟨by rfl, fun w' hb => ?_⟩) ?_
  rotate_left
  · have kf := KF w' hb
    go_simp
    with_reducible rfl
  simp only [Act.put, List.setIfInBounds_toArray, List.set_cons_zero, List.set_cons_succ]
  refine seq_take 12 (v := ?_) rfl (by kernel_rfl) (fun _ _ _ h => h) (Or.inl ⟨by rfl, fun w' hb => ?_⟩) ?_
  rotate_left
  · have kf := KF w' hb
    go_simp
    with_reducible rfl
  simp only [Act.put, List.setIfInBounds_toArray, List.set_cons_zero, List.set_cons_succ]
  refine seq_take 13 (v := ?_) rfl (by kernel_rfl) (fun _ _ _ h => h) (Or.inl ⟨by rfl, fun w' hb => ?_⟩) ?_
  rotate_left
  · have kf := KF w' hb
    go_simp
    with_reducible rfl
  simp only [Act.put, List.setIfInBounds_toArray, List.set_cons_zero, List.set_cons_succ]
  refine seq_take 14 (v := ?_) rfl (by kernel_rfl) (fun _ _ _ h => h) (Or.inl ⟨by rfl, fun w' hb => ?_⟩) ?_
  rotate_left
  · have kf := KF w' hb
    go_simp
    with_reducible rfl
  simp only [Act.put, List.setIfInBounds_toArray, List.set_cons_zero, List.set_cons_succ]
  refine seq_take 15 (v := ?_) rfl (by kernel_rfl) (fun _ _ _ h => h) (Or.inl ⟨by rfl, fun w' hb => ?_⟩) ?_
  rotate_left
  · have kf := KF w' hb
    go_simp
    with_reducible rfl
  simp only [Act.put, List.setIfInBounds_toArray, List.set_cons_zero, List.set_cons_succ]
  refine seq_take 16 (v := ?_) rfl (by kernel_rfl) (fun _ _ _ h => h) (Or.inl ⟨by rfl, fun w' hb => ?_⟩) ?_
  rotate_left
  · have kf := KF w' hb
    go_simp
    with_reducible rfl
  simp only [Act.put, List.setIfInBounds_toArray, List.set_cons_zero, List.set_cons_succ]
  refine seq_take 17 (v := ?_) rfl (by kernel_rfl) (fun _ _ _ h => h) (Or.inl ⟨by rfl, fun w' hb => ?_⟩) ?_
  rotate_left
  · have kf := KF w' hb
    go_simp
    with_reducible rfl
  simp only [Act.put, List.setIfInBounds_toArray, List.set_cons_zero, List.set_cons_succ]
  refine seq_take 18 (v := ?_) rfl (by kernel_rfl) (fun _ _ _ h => h) (Or.inl ⟨by rfl, fun w' hb => ?_⟩) ?_
  rotate_left
  · have kf := KF w' hb
    go_simp
    with_reducible rfl
  simp only [Act.put, List.setIfInBounds_toArray, List.set_cons_zero, List.set_cons_succ]
  refine seq_take 19 (v := ?_) rfl (by kernel_rfl) (fun _ _ _ h => h) (Or.inl ⟨by rfl, fun w' hb => ?_⟩) ?_
  rotate_left
  · have kf := KF w' hb
    go_simp
    with_reducible rfl
  simp only [Act.put, List.setIfInBounds_toArray, List.set_cons_zero, List.set_cons_succ]
  refine seq_take 20 (v := ?_) rfl (by kernel_rfl) (fun _ _ _ h => h) (Or.inl ⟨by rfl, fun w' hb => ?_⟩) ?_
  rotate_left
  · have kf := KF w' hb
    go_simp
    with_reducible rfl
  simp only [Act.put, List.setIfInBounds_toArray, List.set_cons_zero, List.set_cons_succ]
  refine seq_take 21 (v := ?_) rfl (by kernel_rfl) (fun _ _ _ h => h) (Or.inl ⟨by rfl, fun w' hb => ?_⟩) ?_
  rotate_left
  · have kf := KF w' hb
    go_simp
    with_reducible rfl
  simp only [Act.put, List.setIfInBounds_toArray, List.set_cons_zero, List.set_cons_succ]
  refine seq_take 22 (v := ?_) rfl (by kernel_rfl) (fun _ _ _ h => h) (Or.inl ⟨by rfl, fun w' hb => ?_⟩) ?_
  rotate_left
  · have kf := KF w' hb
    go_simp
    with_reducible rfl
  simp only [Act.put, List.setIfInBounds_toArray, List.set_cons_zero, List.set_cons_succ]
  refine seq_take 23 (v := ?_) rfl (by kernel_rfl) (fun _ _ _ h => h) (Or.inl ⟨by rfl, fun w' hb => ?_⟩) ?_
  rotate_left
  · have kf := KF w' hb
    go_simp
    with_reducible rfl
  simp only [Act.put, List.setIfInBounds_toArray, List.set_cons_zero, List.set_cons_succ]
  refine seq_take 24 (v := ?_) rfl (by kernel_rfl) (fun _ _ _ h => h) (Or.inl ⟨by rfl, fun w' hb => ?_⟩) ?_
  rotate_left
  · have kf := KF w' hb
    go_simp
    with_reducible rfl
  simp only [Act.put, List.setIfInBounds_toArray, List.set_cons_zero, List.set_cons_succ]
  refine seq_end (by kernel_rfl) ?_
  obtain ⟨-, z0, z1, z2, z3, z4, z5, z6, z7, z8⟩ := KF w2 (Below.refl _ _)
  clear KF KF0
  go_wp2_with fail
  go_ret
  exact ⟨by rw [hM]; first | rfl | (simp; done) | (simp; omega), belT hB0 hb2⟩
set_option maxRecDepth 100000 in
set_option maxHeartbeats 8000000 in
theorem May6a (x : Nat) (p o : Int) (ab sb : Option Addr) (cb cs : Nat) (l : List UInt8) (u : List Nat) (n r t : Nat) (w : World) (ha : RB w ⟨6, x, p, o, l, u, n, r, t⟩ ab sb cb cs) (he : ⟨6, x, p, o, l, u, n, r, t⟩ = bareR ⟨6, x, p, o, l, u, n, r, t⟩) (hp0 : 0 ≤ p) (hp1 : p < 128) (hx1 : x ≤ 4000) (hr1 : r ≤ 4611686018427387904) (q1 : ¬ 1 ≤ n) :
    Calls Try.prog 16 #[rv 6 x p o ab l.length cb sb u.length cs n r t] w fun e w' => e = .returned (.bool (mayB ⟨6, x, p, o, l, u, n, r, t⟩)) ∧ Below w.heap.size w w' := by
  have HEq := Lib.hid he
  have hK : kindB ⟨6, x, p, o, l, u, n, r, t⟩ = false := by simp [kindB]; omega
  have hM : mayB ⟨6, x, p, o, l, u, n, r, t⟩ = false := by unfold mayB; rw [decide_eq_true he, hK]; simp [hp0, hp1, hx1, hr1]
  clear he hK
  have hd0 : decide (p < 0) = false := by simp; omega
  have hd1 : decide (128 ≤ p) = false := by simp; omega
  have hd2 : decide (4000 < (x : Int)) = false := by simp; omega
  have hd3 : decide (4611686018427387904 < (r : Int)) = false := by simp; omega
  go_enter Try.func16, Try.ntmps16
  go_wp2_with fail
  obtain ⟨W, hW⟩ : ∃ W, W = w.alloc (.cells #[.int .i64 6, .int .u64 x, .int .i64 p, .int .i64 o, .slice ab l.length cb, .slice sb u.length cs, .int .u64 n, .int .u64 r, .int .u64 t] 27) := ⟨_, rfl⟩
  have hB0 : Below w.heap.size w W := by rw [hW]; exact below_alloc _ _
  have hG : W.heap[w.heap.size]? = some (.cells #[.int .i64 6, .int .u64 x, .int .i64 p, .int .i64 o, .slice ab l.length cb, .slice sb u.length cs, .int .u64 n, .int .u64 r, .int .u64 t] 27 (0, 0)) := by rw [hW]; exact heap_alloc_new _ _
  have hsz : w.heap.size < W.heap.size := by rw [hW]; simp
  rw [← hW]
  have KF0 : ∀ w', Below W.heap.size W w' → (loadVar 27 ⟨w.heap.size, 0, none⟩).run Try.prog w' = .ok (rv 6 x p o ab l.length cb sb u.length cs n r t) w' ∧ w'.cell? ⟨w.heap.size, 0, none⟩ = some (.int .i64 6) ∧ w'.cell? ⟨w.heap.size, 1, none⟩ = some (.int .u64 x) ∧ w'.cell? ⟨w.heap.size, 2, none⟩ = some (.int .i64 p) ∧ w'.cell? ⟨w.heap.size, 3, none⟩ = some (.int .i64 o) ∧ w'.cell? ⟨w.heap.size, 4, none⟩ = some (.slice ab l.length cb) ∧ w'.cell? ⟨w.heap.size, 5, none⟩ = some (.slice sb u.length cs) ∧ w'.cell? ⟨w.heap.size, 6, none⟩ = some (.int .u64 n) ∧ w'.cell? ⟨w.heap.size, 7, none⟩ = some (.int .u64 r) ∧ w'.cell? ⟨w.heap.size, 8, none⟩ = some (.int .u64 t) := fun w' h => loads9 6 x p o ab sb cb cs l u n r t _ w' ((h.block _ hsz).trans hG)
  clear hW hG
  have KF : ∀ w', Below W.drew.heap.size W.drew w' → (loadVar 27 ⟨w.heap.size, 0, none⟩).run Try.prog w' = .ok (rv 6 x p o ab l.length cb sb u.length cs n r t) w' ∧ w'.cell? ⟨w.heap.size, 0, none⟩ = some (.int .i64 6) ∧ w'.cell? ⟨w.heap.size, 1, none⟩ = some (.int .u64 x) ∧ w'.cell? ⟨w.heap.size, 2, none⟩ = some (.int .i64 p) ∧ w'.cell? ⟨w.heap.size, 3, none⟩ = some (.int .i64 o) ∧ w'.cell? ⟨w.heap.size, 4, none⟩ = some (.slice ab l.length cb) ∧ w'.cell? ⟨w.heap.size, 5, none⟩ = some (.slice sb u.length cs) ∧ w'.cell? ⟨w.heap.size, 6, none⟩ = some (.int .u64 n) ∧ w'.cell? ⟨w.heap.size, 7, none⟩ = some (.int .u64 r) ∧ w'.cell? ⟨w.heap.size, 8, none⟩ = some (.int .u64 t) := fun w' h => KF0 w' (belT (Below.refl _ _).drew h)
  refine seq_start 25 [false, false, false, false, false, false, false, false, false, false, false, false, false, false, false, false, false, false, false, false, false, false, false, false, false] (by kernel_rfl) rfl rfl ?_
  refine seq_take 0 (v := ?_) rfl (by kernel_rfl) (fun _ _ _ h => h) (Or.inl ⟨by rfl, fun w' hb => ?_⟩) ?_
  rotate_left
  · have kf := KF w' hb
    go_simp
    with_reducible rfl
  simp only [Act.put, List.setIfInBounds_toArray, List.set_cons_zero, List.set_cons_succ]
  refine seq_take 1 (v := ?_) rfl (by kernel_rfl) (fun _ _ _ h => h) (Or.inl ⟨by rfl, fun w' hb => ?_⟩) ?_
  rotate_left
  · have kf := KF w' hb
    go_simp
    with_reducible rfl
  simp only [Act.put, List.setIfInBounds_toArray, List.set_cons_zero, List.set_cons_succ]
  refine seq_do 2 rfl (by kernel_rfl) (fun K hK => ?_)
  go_simp
  refine (bareAny 6 x p o ab sb cb cs l u n r t _ (ha.below (belT hB0 (Below.refl _ _).drew))).mono ?_
  rintro e w1 ⟨⟨k2, x2, p2, o2, ab2, sb2, cb2, cs2, l2, u2, n2, r2, t2, hR, rfl, hR2⟩, hb1⟩
  refine hK.out _ _ hb1 ?_
  clear hK K
  simp only [List.set_cons_zero, List.set_cons_succ]
  have hb1 := belT (Below.refl _ _).drew hb1
  replace KF : ∀ w', Below w1.heap.size w1 w' → (loadVar 27 ⟨w.heap.size, 0, none⟩).run Try.prog w' = .ok (rv 6 x p o ab l.length cb sb u.length cs n r t) w' ∧ w'.cell? ⟨w.heap.size, 0, none⟩ = some (.int .i64 6) ∧ w'.cell? ⟨w.heap.size, 1, none⟩ = some (.int .u64 x) ∧ w'.cell? ⟨w.heap.size, 2, none⟩ = some (.int .i64 p) ∧ w'.cell? ⟨w.heap.size, 3, none⟩ = some (.int .i64 o) ∧ w'.cell? ⟨w.heap.size, 4, none⟩ = some (.slice ab l.length cb) ∧ w'.cell? ⟨w.heap.size, 5, none⟩ = some (.slice sb u.length cs) ∧ w'.cell? ⟨w.heap.size, 6, none⟩ = some (.int .u64 n) ∧ w'.cell? ⟨w.heap.size, 7, none⟩ = some (.int .u64 r) ∧ w'.cell? ⟨w.heap.size, 8, none⟩ = some (.int .u64 t) := fun w' h => KF0 w' (belT hb1 h)
  refine seq_do 3 rfl (by kernel_rfl) (fun K hK => ?_)
  go_simp
  refine (SameF 6 x p o ab sb cb cs l u n r t k2 x2 p2 o2 ab2 sb2 cb2 cs2 l2 u2 n2 r2 t2 _ (ha.below (belT hB0 hb1)) hR2).mono ?_
  rw [← hR, decide_eq_true HEq.out]
  rintro e w2 ⟨rfl, hb2⟩
  refine hK.out _ _ hb2 ?_
  clear hK K
  simp only [List.set_cons_zero, List.set_cons_succ]
  have hb2 := belT hb1 hb2
  replace KF : ∀ w', Below w2.heap.size w2 w' → (loadVar 27 ⟨w.heap.size, 0, none⟩).run Try.prog w' = .ok (rv 6 x p o ab l.length cb sb u.length cs n r t) w' ∧ w'.cell? ⟨w.heap.size, 0, none⟩ = some (.int .i64 6) ∧ w'.cell? ⟨w.heap.size, 1, none⟩ = some (.int .u64 x) ∧ w'.cell? ⟨w.heap.size, 2, none⟩ = some (.int .i64 p) ∧ w'.cell? ⟨w.heap.size, 3, none⟩ = some (.int .i64 o) ∧ w'.cell? ⟨w.heap.size, 4, none⟩ = some (.slice ab l.length cb) ∧ w'.cell? ⟨w.heap.size, 5, none⟩ = some (.slice sb u.length cs) ∧ w'.cell? ⟨w.heap.size, 6, none⟩ = some (.int .u64 n) ∧ w'.cell? ⟨w.heap.size, 7, none⟩ = some (.int .u64 r) ∧ w'.cell? ⟨w.heap.size, 8, none⟩ = some (.int .u64 t) := fun w' h => KF0 w' (belT hb2 h)
  refine seq_take 4 (v := ?_) rfl (by kernel_rfl) (fun _ _ _ h => h) (Or.inl ⟨by rfl, fun w' hb => ?_⟩) ?_
  rotate_left
  · have kf := KF w' hb
    go_simp
    with_reducible rfl
  simp only [Act.put, List.setIfInBounds_toArray, List.set_cons_zero, List.set_cons_succ]
  refine seq_take 5 (v := ?_) rfl (by kernel_rfl) (fun _ _ _ h => h) (Or.inl ⟨by rfl, fun w' hb => ?_⟩) ?_
  rotate_left
  · have kf := KF w' hb
    go_simp
    with_reducible rfl
  simp only [Act.put, List.setIfInBounds_toArray, List.set_cons_zero, List.set_cons_succ]
  refine seq_take 6 (v := ?_) rfl (by kernel_rfl) (fun _ _ _ h => h) (Or.inl ⟨by rfl, fun w' hb => ?_⟩) ?_
  rotate_left
  · have kf := KF w' hb
    go_simp
    with_reducible rfl
  simp only [Act.put, List.setIfInBounds_toArray, List.set_cons_zero, List.set_cons_succ]
  refine seq_take 7 (v := ?_) rfl (by kernel_rfl) (fun _ _ _ h => h) (Or.inl ⟨by rfl, fun w' hb => ?_⟩) ?_
  rotate_left
  · have kf := KF w' hb
    go_simp
    with_reducible rfl
  simp only [Act.put, List.setIfInBounds_toArray, List.set_cons_zero, List.set_cons_succ]
  refine seq_take 8 (v := ?_) rfl (by kernel_rfl) (fun _ _ _ h => h) (Or.inl ⟨by rfl, fun w' hb => ?_⟩) ?_
  rotate_left
  · have kf := KF w' hb
    go_simp
    with_reducible rfl
  simp only [Act.put, List.setIfInBounds_toArray, List.set_cons_zero, List.set_cons_succ]
  refine seq_take 9 (v := ?_) rfl (by kernel_rfl) (fun _ _ _ h => h) (Or.inl ⟨by rfl, fun w' hb => ?_⟩) ?_
  rotate_left
  · have kf := KF w' hb
    go_simp
    with_reducible rfl
  simp only [Act.put, List.setIfInBounds_toArray, List.set_cons_zero, List.set_cons_succ]
  refine seq_take 10 (v := ?_) rfl (by kernel_rfl) (fun _ _ _ h => h) (Or.inl ⟨by rfl, fun w' hb => ?_⟩) ?_
  rotate_left
  · have kf := KF w' hb
    go_simp
    with_reducible rfl
  simp only [Act.put, List.setIfInBounds_toArray, List.set_cons_zero, List.set_cons_succ]
  refine seq_take 11 (v := ?_) rfl (by kernel_rfl) (fun _ _ _ h => h) (Or.inl ⟨by rfl, fun w' hb => ?_⟩) ?_
  rotate_left
  · have kf := KF w' hb
    go_simp
    with_reducible rfl
  simp only [Act.put, List.setIfInBounds_toArray, List.set_cons_zero, List.set_cons_succ]
  refine seq_take 12 (v := ?_) rfl (by kernel_rfl) (fun _ _ _ h => h) (Or.inl ⟨by rfl, fun w' hb => ?_⟩) ?_
  rotate_left
  · have kf := KF w' hb
    go_simp
    with_reducible rfl
  simp only [Act.put, List.setIfInBounds_toArray, List.set_cons_zero, List.set_cons_succ]
  refine seq_take 13 (v := ?_) rfl (by kernel_rfl) (fun _ _ _ h => h) (Or.inl ⟨by rfl, fun w' hb => ?_⟩) ?_
  rotate_left
  · have kf := KF w' hb
    go_simp
    with_reducible rfl
  simp only [Act.put, List.setIfInBounds_toArray, List.set_cons_zero, List.set_cons_succ]
  refine seq_take 14 (v := ?_) rfl (by kernel_rfl) (fun _ _ _ h => h) (Or.inl ⟨by rfl, fun w' hb => ?_⟩) ?_
  rotate_left
  · have kf := KF w' hb
    go_simp
    with_reducible rfl
  simp only [Act.put, List.setIfInBounds_toArray, List.set_cons_zero, List.set_cons_succ]
  refine seq_take 15 (v := ?_) rfl (by kernel_rfl) (fun _ _ _ h => h) (Or.inl ⟨by rfl, fun w' hb => ?_⟩) ?_
  rotate_left
  · have kf := KF w' hb
    go_simp
    with_reducible rfl
  simp only [Act.put, List.setIfInBounds_toArray, List.set_cons_zero, List.set_cons_succ]
  refine seq_take 16 (v := ?_) rfl (by kernel_rfl) (fun _ _ _ h => h) (Or.inl ⟨by rfl, fun w' hb => ?_⟩) ?_
  rotate_left
  · have kf := KF w' hb
    go_simp
    with_reducible rfl
  simp only [Act.put, List.setIfInBounds_toArray, List.set_cons_zero, List.set_cons_succ]
  refine seq_take 17 (v := ?_) rfl (by kernel_rfl) (fun _ _ _ h => h) (Or.inl ⟨by rfl, fun w' hb => ?_⟩) ?_
  rotate_left
  · have kf := KF w' hb
    go_simp
    with_reducible rfl
  simp only [Act.put, List.setIfInBounds_toArray, List.set_cons_zero, List.set_cons_succ]
  refine seq_take 18 (v := ?_) rfl (by kernel_rfl) (fun _ _ _ h => h) (Or.inl ⟨by rfl, fun w' hb => ?_⟩) ?_
  rotate_left
  · have kf := KF w' hb
    go_simp
    with_reducible rfl
  simp only [Act.put, List.setIfInBounds_toArray, List.set_cons_zero, List.set_cons_succ]
  refine seq_take 19 (v := ?_) rfl (by kernel_rfl) (fun _ _ _ h => h) (Or.inl ⟨by rfl, fun w' hb => ?_⟩) ?_
  rotate_left
  · have kf := KF w' hb
    go_simp
    with_reducible rfl
  simp only [Act.put, List.setIfInBounds_toArray, List.set_cons_zero, List.set_cons_succ]
  refine seq_take 20 (v := ?_) rfl (by kernel_rfl) (fun _ _ _ h => h) (Or.inl ⟨by rfl, fun w' hb => ?_⟩) ?_
  rotate_left
  · have kf := KF w' hb
    go_simp
    with_reducible rfl
  simp only [Act.put, List.setIfInBounds_toArray, List.set_cons_zero, List.set_cons_succ]
  refine seq_take 21 (v := ?_) rfl (by kernel_rfl) (fun _ _ _ h => h) (Or.inl ⟨by rfl, fun w' hb => ?_⟩) ?_
  rotate_left
  · have kf := KF w' hb
    go_simp
    with_reducible rfl
  simp only [Act.put, List.setIfInBounds_toArray, List.set_cons_zero, List.set_cons_succ]
  refine seq_take 22 (v := ?_) rfl (by kernel_rfl) (fun _ _ _ h => h) (Or.inl ⟨by rfl, fun w' hb => ?_⟩) ?_
  rotate_left
  · have kf := KF w' hb
    go_simp
    with_reducible rfl
  simp only [Act.put, List.setIfInBounds_toArray, List.set_cons_zero, List.set_cons_succ]
  refine seq_take 23 (v := ?_) rfl (by kernel_rfl) (fun _ _ _ h => h) (Or.inl ⟨by rfl, fun w' hb => ?_⟩) ?_
  rotate_left
  · have kf := KF w' hb
    go_simp
    with_reducible rfl
  simp only [Act.put, List.setIfInBounds_toArray, List.set_cons_zero, List.set_cons_succ]
  refine seq_take 24 (v := ?_) rfl (by kernel_rfl) (fun _ _ _ h => h) (Or.inl ⟨by rfl, fun w' hb => ?_⟩) ?_
  rotate_left
  · have kf := KF w' hb
    go_simp
    with_reducible rfl
  simp only [Act.put, List.setIfInBounds_toArray, List.set_cons_zero, List.set_cons_succ]
  refine seq_end (by kernel_rfl) ?_
  obtain ⟨-, z0, z1, z2, z3, z4, z5, z6, z7, z8⟩ := KF w2 (Below.refl _ _)
  clear KF KF0
  have d1 : decide ((1 : Int) ≤ (n : Int)) = false := by simp; omega
  go_wp2_with fail
  go_ret
  exact ⟨by rw [hM]; first | rfl | (simp; done) | (simp; omega), belT hB0 hb2⟩
set_option maxRecDepth 100000 in
set_option maxHeartbeats 8000000 in
theorem May6b (x : Nat) (p o : Int) (ab sb : Option Addr) (cb cs : Nat) (l : List UInt8) (u : List Nat) (n r t : Nat) (w : World) (ha : RB w ⟨6, x, p, o, l, u, n, r, t⟩ ab sb cb cs) (he : ⟨6, x, p, o, l, u, n, r, t⟩ = bareR ⟨6, x, p, o, l, u, n, r, t⟩) (hp0 : 0 ≤ p) (hp1 : p < 128) (hx1 : x ≤ 4000) (hr1 : r ≤ 4611686018427387904) (_ : 1 ≤ n) (q2 : ¬ n ≤ 4001) :
    Calls Try.prog 16 #[rv 6 x p o ab l.length cb sb u.length cs n r t] w fun e w' => e = .returned (.bool (mayB ⟨6, x, p, o, l, u, n, r, t⟩)) ∧ Below w.heap.size w w' := by
  have HEq := Lib.hid he
  have hK : kindB ⟨6, x, p, o, l, u, n, r, t⟩ = false := by simp [kindB]; omega
  have hM : mayB ⟨6, x, p, o, l, u, n, r, t⟩ = false := by unfold mayB; rw [decide_eq_true he, hK]; simp [hp0, hp1, hx1, hr1]
  clear he hK
  have hd0 : decide (p < 0) = false := by simp; omega
  have hd1 : decide (128 ≤ p) = false := by simp; omega
  have hd2 : decide (4000 < (x : Int)) = false := by simp; omega
  have hd3 : decide (4611686018427387904 < (r : Int)) = false := by simp; omega
  go_enter Try.func16, Try.ntmps16
  go_wp2_with fail
  obtain ⟨W, hW⟩ : ∃ W, W = w.alloc (.cells #[.int .i64 6, .int .u64 x, .int .i64 p, .int .i64 o, .slice ab l.length cb, .slice sb u.length cs, .int .u64 n, .int .u64 r, .int .u64 t] 27) := ⟨_, rfl⟩
  have hB0 : Below w.heap.size w W := by rw [hW]; exact below_alloc _ _
  have hG : W.heap[w.heap.size]? = some (.cells #[.int .i64 6, .int .u64 x, .int .i64 p, .int .i64 o, .slice ab l.length cb, .slice sb u.length cs, .int .u64 n, .int .u64 r, .int .u64 t] 27 (0, 0)) := by rw [hW]; exact heap_alloc_new _ _
  have hsz : w.heap.size < W.heap.size := by rw [hW]; simp
  rw [← hW]
  have KF0 : ∀ w', Below W.heap.size W w' → (loadVar 27 ⟨w.heap.size, 0, none⟩).run Try.prog w' = .ok (rv 6 x p o ab l.length cb sb u.length cs n r t) w' ∧ w'.cell? ⟨w.heap.size, 0, none⟩ = some (.int .i64 6) ∧ w'.cell? ⟨w.heap.size, 1, none⟩ = some (.int .u64 x) ∧ w'.cell? ⟨w.heap.size, 2, none⟩ = some (.int .i64 p) ∧ w'.cell? ⟨w.heap.size, 3, none⟩ = some (.int .i64 o) ∧ w'.cell? ⟨w.heap.size, 4, none⟩ = some (.slice ab l.length cb) ∧ w'.cell? ⟨w.heap.size, 5, none⟩ = some (.slice sb u.length cs) ∧ w'.cell? ⟨w.heap.size, 6, none⟩ = some (.int .u64 n) ∧ w'.cell? ⟨w.heap.size, 7, none⟩ = some (.int .u64 r) ∧ w'.cell? ⟨w.heap.size, 8, none⟩ = some (.int .u64 t) := fun w' h => loads9 6 x p o ab sb cb cs l u n r t _ w' ((h.block _ hsz).trans hG)
  clear hW hG
  have KF : ∀ w', Below W.drew.heap.size W.drew w' → (loadVar 27 ⟨w.heap.size, 0, none⟩).run Try.prog w' = .ok (rv 6 x p o ab l.length cb sb u.length cs n r t) w' ∧ w'.cell? ⟨w.heap.size, 0, none⟩ = some (.int .i64 6) ∧ w'.cell? ⟨w.heap.size, 1, none⟩ = some (.int .u64 x) ∧ w'.cell? ⟨w.heap.size, 2, none⟩ = some (.int .i64 p) ∧ w'.cell? ⟨w.heap.size, 3, none⟩ = some (.int .i64 o) ∧ w'.cell? ⟨w.heap.size, 4, none⟩ = some (.slice ab l.length cb) ∧ w'.cell? ⟨w.heap.size, 5, none⟩ = some (.slice sb u.length cs) ∧ w'.cell? ⟨w.heap.size, 6, none⟩ = some (.int .u64 n) ∧ w'.cell? ⟨w.heap.size, 7, none⟩ = some (.int .u64 r) ∧ w'.cell? ⟨w.heap.size, 8, none⟩ = some (.int .u64 t) := fun w' h => KF0 w' (belT (Below.refl _ _).drew h)
  refine seq_start 25 [false, false, false, false, false, false, false, false, false, false, false, false, false, false, false, false, false, false, false, false, false, false, false, false, false] (by kernel_rfl) rfl rfl ?_
  refine seq_take 0 (v := ?_) rfl (by kernel_rfl) (fun _ _ _ h => h) (Or.inl ⟨by rfl, fun w' hb => ?_⟩) ?_
  rotate_left
  · have kf := KF w' hb
    go_simp
    with_reducible rfl
  simp only [Act.put, List.setIfInBounds_toArray, List.set_cons_zero, List.set_cons_succ]
  refine seq_take 1 (v := ?_) rfl (by kernel_rfl) (fun _ _ _ h => h) (Or.inl ⟨by rfl, fun w' hb => ?_⟩) ?_
  rotate_left
  · have kf := KF w' hb
    go_simp
    with_reducible rfl
  simp only [Act.put, List.setIfInBounds_toArray, List.set_cons_zero, List.set_cons_succ]
  refine seq_do 2 rfl (by kernel_rfl) (fun K hK => ?_)
  go_simp
  refine (bareAny 6 x p o ab sb cb cs l u n r t _ (ha.below (belT hB0 (Below.refl _ _).drew))).mono ?_
  rintro e w1 ⟨⟨k2, x2, p2, o2, ab2, sb2, cb2, cs2, l2, u2, n2, r2, t2, hR, rfl, hR2⟩, hb1⟩
  refine hK.out _ _ hb1 ?_
  clear hK K
  simp only [List.set_cons_zero, List.set_cons_succ]
  have hb1 := belT (Below.refl _ _).drew hb1
  replace KF : ∀ w', Below w1.heap.size w1 w' → (loadVar 27 ⟨w.heap.size, 0, none⟩).run Try.prog w' = .ok (rv 6 x p o ab l.length cb sb u.length cs n r t) w' ∧ w'.cell? ⟨w.heap.size, 0, none⟩ = some (.int .i64 6) ∧ w'.cell? ⟨w.heap.size, 1, none⟩ = some (.int .u64 x) ∧ w'.cell? ⟨w.heap.size, 2, none⟩ = some (.int .i64 p) ∧ w'.cell? ⟨w.heap.size, 3, none⟩ = some (.int .i64 o) ∧ w'.cell? ⟨w.heap.size, 4, none⟩ = some (.slice ab l.length cb) ∧ w'.cell? ⟨w.heap.size, 5, none⟩ = some (.slice sb u.length cs) ∧ w'.cell? ⟨w.heap.size, 6, none⟩ = some (.int .u64 n) ∧ w'.cell? ⟨w.heap.size, 7, none⟩ = some (.int .u64 r) ∧ w'.cell? ⟨w.heap.size, 8, none⟩ = some (.int .u64 t) := fun w' h => KF0 w' (belT hb1 h)
  refine seq_do 3 rfl (by kernel_rfl) (fun K hK => ?_)
  go_simp
  refine (SameF 6 x p o ab sb cb cs l u n r t k2 x2 p2 o2 ab2 sb2 cb2 cs2 l2 u2 n2 r2 t2 _ (ha.below (belT hB0 hb1)) hR2).mono ?_
  rw [← hR, decide_eq_true HEq.out]
  rintro e w2 ⟨rfl, hb2⟩
  refine hK.out _ _ hb2 ?_
  clear hK K
  simp only [List.set_cons_zero, List.set_cons_succ]
  have hb2 := belT hb1 hb2
  replace KF : ∀ w', Below w2.heap.size w2 w' → (loadVar 27 ⟨w.heap.size, 0, none⟩).run Try.prog w' = .ok (rv 6 x p o ab l.length cb sb u.length cs n r t) w' ∧ w'.cell? ⟨w.heap.size, 0, none⟩ = some (.int .i64 6) ∧ w'.cell? ⟨w.heap.size, 1, none⟩ = some (.int .u64 x) ∧ w'.cell? ⟨w.heap.size, 2, none⟩ = some (.int .i64 p) ∧ w'.cell? ⟨w.heap.size, 3, none⟩ = some (.int .i64 o) ∧ w'.cell? ⟨w.heap.size, 4, none⟩ = some (.slice ab l.length cb) ∧ w'.cell? ⟨w.heap.size, 5, none⟩ = some (.slice sb u.length cs) ∧ w'.cell? ⟨w.heap.size, 6, none⟩ = some (.int .u64 n) ∧ w'.cell? ⟨w.heap.size, 7, none⟩ = some (.int .u64 r) ∧ w'.cell? ⟨w.heap.size, 8, none⟩ = some (.int .u64 t) := fun w' h => KF0 w' (belT hb2 h)
  refine seq_take 4 (v := ?_) rfl (by kernel_rfl) (fun _ _ _ h => h) (Or.inl ⟨by rfl, fun w' hb => ?_⟩) ?_
  rotate_left
  · have kf := KF w' hb
    go_simp
    with_reducible rfl
  simp only [Act.put, List.setIfInBounds_toArray, List.set_cons_zero, List.set_cons_succ]
  refine seq_take 5 (v := ?_) rfl (by kernel_rfl) (fun _ _ _ h => h) (Or.inl ⟨by rfl, fun w' hb => ?_⟩) ?_
  rotate_left
  · have kf := KF w' hb
    go_simp
    with_reducible rfl
  simp only [Act.put, List.setIfInBounds_toArray, List.set_cons_zero, List.set_cons_succ]
  refine seq_take 6 (v := ?_) rfl (by kernel_rfl) (fun _ _ _ h => h) (Or.inl ⟨by rfl, fun w' hb => ?_⟩) ?_
  rotate_left
  · have kf := KF w' hb
    go_simp
    with_reducible rfl
  simp only [Act.put, List.setIfInBounds_toArray, List.set_cons_zero, List.set_cons_succ]
  refine seq_take 7 (v := ?_) rfl (by kernel_rfl) (fun _ _ _ h => h) (Or.inl ⟨by rfl, fun w' hb => ?_⟩) ?_
  rotate_left
  · have kf := KF w' hb
    go_simp
    with_reducible rfl
  simp only [Act.put, List.setIfInBounds_toArray, List.set_cons_zero, List.set_cons_succ]
  refine seq_take 8 (v := ?_) rfl (by kernel_rfl) (fun _ _ _ h => h) (Or.inl ⟨by rfl, fun w' hb => ?_⟩) ?_
  rotate_left
  · have kf := KF w' hb
    go_simp
    with_reducible rfl
  simp only [Act.put, List.setIfInBounds_toArray, List.set_cons_zero, List.set_cons_succ]
  refine seq_take 9 (v := ?_) rfl (by kernel_rfl) (fun _ _ _ h => h) (Or.inl ⟨by rfl, fun w' hb => ?_⟩) ?_
  rotate_left
  · have kf := KF w' hb
    go_simp
    with_reducible rfl
  simp only [Act.put, List.setIfInBounds_toArray, List.set_cons_zero, List.set_cons_succ]
  refine seq_take 10 (v := ?_) rfl (by kernel_rfl) (fun _ _ _ h => h) (Or.inl ⟨by rfl, fun w' hb => ?_⟩) ?_
  rotate_left
  · have kf := KF w' hb
    go_simp
    with_reducible rfl
  simp only [Act.put, List.setIfInBounds_toArray, List.set_cons_zero, List.set_cons_succ]
  refine seq_take 11 (v := ?_) rfl (by kernel_rfl) (fun _ _ _ h => h) (Or.inl ⟨by rfl, fun w' hb => ?_⟩) ?_
  rotate_left
  · have kf := KF w' hb
    go_simp
    with_reducible rfl
  simp only [Act.put, List.setIfInBounds_toArray, List.set_cons_zero, List.set_cons_succ]
  refine seq_take 12 (v := ?_) rfl (by kernel_rfl) (fun _ _ _ h => h) (Or.inl ⟨by rfl, fun w' hb => ?_⟩) ?_
  rotate_left
  · have kf := KF w' hb
    go_simp
    with_reducible rfl
  simp only [Act.put, List.setIfInBounds_toArray, List.set_cons_zero, List.set_cons_succ]
  refine seq_take 13 (v := ?_) rfl (by kernel_rfl) (fun _ _ _ h => h) (Or.inl ⟨by rfl, fun w' hb => ?_⟩) ?_
  rotate_left
  · have kf := KF w' hb
    go_simp
    with_reducible rfl
  simp only [Act.put, List.setIfInBounds_toArray, List.set_cons_zero, List.set_cons_succ]
  refine seq_take 14 (v := ?_) rfl (by kernel_rfl) (fun _ _ _ h => h) (Or.inl ⟨by rfl, fun w' hb => ?_⟩) ?_
  rotate_left
  · have kf := KF w' hb
    go_simp
    with_reducible rfl
  simp only [Act.put, List.setIfInBounds_toArray, List.set_cons_zero, List.set_cons_succ]
  refine seq_take 15 (v := ?_) rfl (by kernel_rfl) (fun _ _ _ h => h) (Or.inl ⟨by rfl, fun w' hb => ?_⟩) ?_
  rotate_left
  · have kf := KF w' hb
    go_simp
    with_reducible rfl
  simp only [Act.put, List.setIfInBounds_toArray, List.set_cons_zero, List.set_cons_succ]
  refine seq_take 16 (v := ?_) rfl (by kernel_rfl) (fun _ _ _ h => h) (Or.inl ⟨by rfl, fun w' hb => ?_⟩) ?_
  rotate_left
  · have kf := KF w' hb
    go_simp
    with_reducible rfl
  simp only [Act.put, List.setIfInBounds_toArray, List.set_cons_zero, List.set_cons_succ]
  refine seq_take 17 (v := ?_) rfl (by kernel_rfl) (fun _ _ _ h => h) (Or.inl ⟨by rfl, fun w' hb => ?_⟩) ?_
  rotate_left
  · have kf := KF w' hb
    go_simp
    with_reducible rfl
  simp only [Act.put, List.setIfInBounds_toArray, List.set_cons_zero, List.set_cons_succ]
  refine seq_take 18 (v := ?_) rfl (by kernel_rfl) (fun _ _ _ h => h) (Or.inl ⟨by rfl, fun w' hb => ?_⟩) ?_
  rotate_left
  · have kf := KF w' hb
    go_simp
    with_reducible rfl
  simp only [Act.put, List.setIfInBounds_toArray, List.set_cons_zero, List.set_cons_succ]
  refine seq_take 19 (v := ?_) rfl (by kernel_rfl) (fun _ _ _ h => h) (Or.inl ⟨by rfl, fun w' hb => ?_⟩) ?_
  rotate_left
  · have kf := KF w' hb
    go_simp
    with_reducible rfl
  simp only [Act.put, List.setIfInBounds_toArray, List.set_cons_zero, List.set_cons_succ]
  refine seq_take 20 (v := ?_) rfl (by kernel_rfl) (fun _ _ _ h => h) (Or.inl ⟨by rfl, fun w' hb => ?_⟩) ?_
  rotate_left
  · have kf := KF w' hb
    go_simp
    with_reducible rfl
  simp only [Act.put, List.setIfInBounds_toArray, List.set_cons_zero, List.set_cons_succ]
  refine seq_take 21 (v := ?_) rfl (by kernel_rfl) (fun _ _ _ h => h) (Or.inl ⟨by rfl, fun w' hb => ?_⟩) ?_
  rotate_left
  · have kf := KF w' hb
    go_simp
    with_reducible rfl
  simp only [Act.put, List.setIfInBounds_toArray, List.set_cons_zero, List.set_cons_succ]
  refine seq_take 22 (v := ?_) rfl (by kernel_rfl) (fun _ _ _ h => h) (Or.inl ⟨by rfl, fun w' hb => ?_⟩) ?_
  rotate_left
  · have kf := KF w' hb
    go_simp
    with_reducible rfl
  simp only [Act.put, List.setIfInBounds_toArray, List.set_cons_zero, List.set_cons_succ]
  refine seq_take 23 (v := ?_) rfl (by kernel_rfl) (fun _ _ _ h => h) (Or.inl ⟨by rfl, fun w' hb => ?_⟩) ?_
  rotate_left
  · have kf := KF w' hb
    go_simp
    with_reducible rfl
  simp only [Act.put, List.setIfInBounds_toArray, List.set_cons_zero, List.set_cons_succ]
  refine seq_take 24 (v := ?_) rfl (by kernel_rfl) (fun _ _ _ h => h) (Or.inl ⟨by rfl, fun w' hb => ?_⟩) ?_
  rotate_left
  · have kf := KF w' hb
    go_simp
    with_reducible rfl
  simp only [Act.put, List.setIfInBounds_toArray, List.set_cons_zero, List.set_cons_succ]
  refine seq_end (by kernel_rfl) ?_
  obtain ⟨-, z0, z1, z2, z3, z4, z5, z6, z7, z8⟩ := KF w2 (Below.refl _ _)
  clear KF KF0
  have d1 : decide ((1 : Int) ≤ (n : Int)) = true := by simp; omega
  have d2 : decide ((n : Int) ≤ 4001) = false := by simp; omega
  go_wp2_with fail
  go_ret
  exact ⟨by rw [hM]; first | rfl | (simp; done) | (simp; omega), belT hB0 hb2⟩
set_option maxRecDepth 100000 in
set_option maxHeartbeats 8000000 in
theorem May6c (x : Nat) (p o : Int) (ab sb : Option Addr) (cb cs : Nat) (l : List UInt8) (u : List Nat) (n r t : Nat) (w : World) (ha : RB w ⟨6, x, p, o, l, u, n, r, t⟩ ab sb cb cs) (he : ⟨6, x, p, o, l, u, n, r, t⟩ = bareR ⟨6, x, p, o, l, u, n, r, t⟩) (hp0 : 0 ≤ p) (hp1 : p < 128) (hx1 : x ≤ 4000) (hr1 : r ≤ 4611686018427387904) (q1 : 1 ≤ n) (q2 : n ≤ 4001) :
    Calls Try.prog 16 #[rv 6 x p o ab l.length cb sb u.length cs n r t] w fun e w' => e = .returned (.bool (mayB ⟨6, x, p, o, l, u, n, r, t⟩)) ∧ Below w.heap.size w w' := by
  have HEq := Lib.hid he
  have hK : kindB ⟨6, x, p, o, l, u, n, r, t⟩ = (risingL 0 n u && decide (u.length ≤ 256)) := by simp [kindB]; omega
  have hM : mayB ⟨6, x, p, o, l, u, n, r, t⟩ = (risingL 0 n u && decide (u.length ≤ 256)) := by unfold mayB; rw [decide_eq_true he, hK]; simp [hp0, hp1, hx1, hr1]
  clear he hK
  have hd0 : decide (p < 0) = false := by simp; omega
  have hd1 : decide (128 ≤ p) = false := by simp; omega
  have hd2 : decide (4000 < (x : Int)) = false := by simp; omega
  have hd3 : decide (4611686018427387904 < (r : Int)) = false := by simp; omega
  go_enter Try.func16, Try.ntmps16
  go_wp2_with fail
  obtain ⟨W, hW⟩ : ∃ W, W = w.alloc (.cells #[.int .i64 6, .int .u64 x, .int .i64 p, .int .i64 o, .slice ab l.length cb, .slice sb u.length cs, .int .u64 n, .int .u64 r, .int .u64 t] 27) := ⟨_, rfl⟩
  have hB0 : Below w.heap.size w W := by rw [hW]; exact below_alloc _ _
  have hG : W.heap[w.heap.size]? = some (.cells #[.int .i64 6, .int .u64 x, .int .i64 p, .int .i64 o, .slice ab l.length cb, .slice sb u.length cs, .int .u64 n, .int .u64 r, .int .u64 t] 27 (0, 0)) := by rw [hW]; exact heap_alloc_new _ _
  have hsz : w.heap.size < W.heap.size := by rw [hW]; simp
  rw [← hW]
  have KF0 : ∀ w', Below W.heap.size W w' → (loadVar 27 ⟨w.heap.size, 0, none⟩).run Try.prog w' = .ok (rv 6 x p o ab l.length cb sb u.length cs n r t) w' ∧ w'.cell? ⟨w.heap.size, 0, none⟩ = some (.int .i64 6) ∧ w'.cell? ⟨w.heap.size, 1, none⟩ = some (.int .u64 x) ∧ w'.cell? ⟨w.heap.size, 2, none⟩ = some (.int .i64 p) ∧ w'.cell? ⟨w.heap.size, 3, none⟩ = some (.int .i64 o) ∧ w'.cell? ⟨w.heap.size, 4, none⟩ = some (.slice ab l.length cb) ∧ w'.cell? ⟨w.heap.size, 5, none⟩ = some (.slice sb u.length cs) ∧ w'.cell? ⟨w.heap.size, 6, none⟩ = some (.int .u64 n) ∧ w'.cell? ⟨w.heap.size, 7, none⟩ = some (.int .u64 r) ∧ w'.cell? ⟨w.heap.size, 8, none⟩ = some (.int .u64 t) := fun w' h => loads9 6 x p o ab sb cb cs l u n r t _ w' ((h.block _ hsz).trans hG)
  clear hW hG
  have KF : ∀ w', Below W.drew.heap.size W.drew w' → (loadVar 27 ⟨w.heap.size, 0, none⟩).run Try.prog w' = .ok (rv 6 x p o ab l.length cb sb u.length cs n r t) w' ∧ w'.cell? ⟨w.heap.size, 0, none⟩ = some (.int .i64 6) ∧ w'.cell? ⟨w.heap.size, 1, none⟩ = some (.int .u64 x) ∧ w'.cell? ⟨w.heap.size, 2, none⟩ = some (.int .i64 p) ∧ w'.cell? ⟨w.heap.size, 3, none⟩ = some (.int .i64 o) ∧ w'.cell? ⟨w.heap.size, 4, none⟩ = some (.slice ab l.length cb) ∧ w'.cell? ⟨w.heap.size, 5, none⟩ = some (.slice sb u.length cs) ∧ w'.cell? ⟨w.heap.size, 6, none⟩ = some (.int .u64 n) ∧ w'.cell? ⟨w.heap.size, 7, none⟩ = some (.int .u64 r) ∧ w'.cell? ⟨w.heap.size, 8, none⟩ = some (.int .u64 t) := fun w' h => KF0 w' (belT (Below.refl _ _).drew h)
  refine seq_start 25 [false, false, false, false, false, false, false, false, false, false, false, false, false, false, false, false, false, false, false, false, false, false, false, false, false] (by kernel_rfl) rfl rfl ?_
  refine seq_take 0 (v := ?_) rfl (by kernel_rfl) (fun _ _ _ h => h) (Or.inl ⟨by rfl, fun w' hb => ?_⟩) ?_
  rotate_left
  · have kf := KF w' hb
    go_simp
    with_reducible rfl
  simp only [Act.put, List.setIfInBounds_toArray, List.set_cons_zero, List.set_cons_succ]
  refine seq_take 1 (v := ?_) rfl (by kernel_rfl) (fun _ _ _ h => h) (Or.inl ⟨by rfl, fun w' hb => ?_⟩) ?_
  rotate_left
  · have kf := KF w' hb
    go_simp
    with_reducible rfl
  simp only [Act.put, List.setIfInBounds_toArray, List.set_cons_zero, List.set_cons_succ]
  refine seq_do 2 rfl (by kernel_rfl) (fun K hK => ?_)
  go_simp
  refine (bareAny 6 x p o ab sb cb cs l u n r t _ (ha.below (belT hB0 (Below.refl _ _).drew))).mono ?_
  rintro e w1 ⟨⟨k2, x2, p2, o2, ab2, sb2, cb2, cs2, l2, u2, n2, r2, t2, hR, rfl, hR2⟩, hb1⟩
  refine hK.out _ _ hb1 ?_
  clear hK K
  simp only [List.set_cons_zero, List.set_cons_succ]
  have hb1 := belT (Below.refl _ _).drew hb1
  replace KF : ∀ w', Below w1.heap.size w1 w' → (loadVar 27 ⟨w.heap.size, 0, none⟩).run Try.prog w' = .ok (rv 6 x p o ab l.length cb sb u.length cs n r t) w' ∧ w'.cell? ⟨w.heap.size, 0, none⟩ = some (.int .i64 6) ∧ w'.cell? ⟨w.heap.size, 1, none⟩ = some (.int .u64 x) ∧ w'.cell? ⟨w.heap.size, 2, none⟩ = some (.int .i64 p) ∧ w'.cell? ⟨w.heap.size, 3, none⟩ = some (.int .i64 o) ∧ w'.cell? ⟨w.heap.size, 4, none⟩ = some (.slice ab l.length cb) ∧ w'.cell? ⟨w.heap.size, 5, none⟩ = some (.slice sb u.length cs) ∧ w'.cell? ⟨w.heap.size, 6, none⟩ = some (.int .u64 n) ∧ w'.cell? ⟨w.heap.size, 7, none⟩ = some (.int .u64 r) ∧ w'.cell? ⟨w.heap.size, 8, none⟩ = some (.int .u64 t) := fun w' h => KF0 w' (belT hb1 h)
  refine seq_do 3 rfl (by kernel_rfl) (fun K hK => ?_)
  go_simp
  refine (SameF 6 x p o ab sb cb cs l u n r t k2 x2 p2 o2 ab2 sb2 cb2 cs2 l2 u2 n2 r2 t2 _ (ha.below (belT hB0 hb1)) hR2).mono ?_
  rw [← hR, decide_eq_true HEq.out]
  rintro e w2 ⟨rfl, hb2⟩
  refine hK.out _ _ hb2 ?_
  clear hK K
  simp only [List.set_cons_zero, List.set_cons_succ]
  have hb2 := belT hb1 hb2
  replace KF : ∀ w', Below w2.heap.size w2 w' → (loadVar 27 ⟨w.heap.size, 0, none⟩).run Try.prog w' = .ok (rv 6 x p o ab l.length cb sb u.length cs n r t) w' ∧ w'.cell? ⟨w.heap.size, 0, none⟩ = some (.int .i64 6) ∧ w'.cell? ⟨w.heap.size, 1, none⟩ = some (.int .u64 x) ∧ w'.cell? ⟨w.heap.size, 2, none⟩ = some (.int .i64 p) ∧ w'.cell? ⟨w.heap.size, 3, none⟩ = some (.int .i64 o) ∧ w'.cell? ⟨w.heap.size, 4, none⟩ = some (.slice ab l.length cb) ∧ w'.cell? ⟨w.heap.size, 5, none⟩ = some (.slice sb u.length cs) ∧ w'.cell? ⟨w.heap.size, 6, none⟩ = some (.int .u64 n) ∧ w'.cell? ⟨w.heap.size, 7, none⟩ = some (.int .u64 r) ∧ w'.cell? ⟨w.heap.size, 8, none⟩ = some (.int .u64 t) := fun w' h => KF0 w' (belT hb2 h)
  refine seq_take 4 (v := ?_) rfl (by kernel_rfl) (fun _ _ _ h => h) (Or.inl ⟨by rfl, fun w' hb => ?_⟩) ?_
  rotate_left
  · have kf := KF w' hb
    go_simp
    with_reducible rfl
  simp only [Act.put, List.setIfInBounds_toArray, List.set_cons_zero, List.set_cons_succ]
  refine seq_take 5 (v := ?_) rfl (by kernel_rfl) (fun _ _ _ h => h) (Or.inl ⟨by rfl, fun w' hb => ?_⟩) ?_
  rotate_left
  · have kf := KF w' hb
    go_simp
    with_reducible rfl
  simp only [Act.put, List.setIfInBounds_toArray, List.set_cons_zero, List.set_cons_succ]
  refine seq_take 6 (v := ?_) rfl (by kernel_rfl) (fun _ _ _ h => h) (Or.inl ⟨by rfl, fun w' hb => ?_⟩) ?_
  rotate_left
  · have kf := KF w' hb
    go_simp
    with_reducible rfl
  simp only [Act.put, List.setIfInBounds_toArray, List.set_cons_zero, List.set_cons_succ]
  refine seq_take 7 (v := ?_) rfl (by kernel_rfl) (fun _ _ _ h => h) (Or.inl ⟨by rfl, fun w' hb => ?_⟩) ?_
  rotate_left
  · have kf := KF w' hb
    go_simp
    with_reducible rfl
  simp only [Act.put, List.setIfInBounds_toArray, List.set_cons_zero, List.set_cons_succ]
  refine seq_take 8 (v := ?_) rfl (by kernel_rfl) (fun _ _ _ h => h) (Or.inl ⟨by rfl, fun w' hb => ?_⟩) ?_
  rotate_left
  · have kf := KF w' hb
    go_simp
    with_reducible rfl
  simp only [Act.put, List.setIfInBounds_toArray, List.set_cons_zero, List.set_cons_succ]
  refine seq_take 9 (v := ?_) rfl (by kernel_rfl) (fun _ _ _ h => h) (Or.inl ⟨by rfl, fun w' hb => ?_⟩) ?_
  rotate_left
  · have kf := KF w' hb
    go_simp
    with_reducible rfl
  simp only [Act.put, List.setIfInBounds_toArray, List.set_cons_zero, List.set_cons_succ]
  refine seq_take 10 (v := ?_) rfl (by kernel_rfl) (fun _ _ _ h => h) (Or.inl ⟨by rfl, fun w' hb => ?_⟩) ?_
  rotate_left
  · have kf := KF w' hb
    go_simp
    with_reducible rfl
  simp only [Act.put, List.setIfInBounds_toArray, List.set_cons_zero, List.set_cons_succ]
  refine seq_take 11 (v := ?_) rfl (by kernel_rfl) (fun _ _ _ h => h) (Or.inl ⟨by rfl, fun w' hb => ?_⟩) ?_
  rotate_left
  · have kf := KF w' hb
    go_simp
    with_reducible rfl
  simp only [Act.put, List.setIfInBounds_toArray, List.set_cons_zero, List.set_cons_succ]
  refine seq_take 12 (v := ?_) rfl (by kernel_rfl) (fun _ _ _ h => h) (Or.inl ⟨by rfl, fun w' hb => ?_⟩) ?_
  rotate_left
  · have kf := KF w' hb
    go_simp
    with_reducible rfl
  simp only [Act.put, List.setIfInBounds_toArray, List.set_cons_zero, List.set_cons_succ]
  refine seq_take 13 (v := ?_) rfl (by kernel_rfl) (fun _ _ _ h => h) (Or.inl ⟨by rfl, fun w' hb => ?_⟩) ?_
  rotate_left
  · have kf := KF w' hb
    go_simp
    with_reducible rfl
  simp only [Act.put, List.setIfInBounds_toArray, List.set_cons_zero, List.set_cons_succ]
  refine seq_take 14 (v := ?_) rfl (by kernel_rfl) (fun _ _ _ h => h) (Or.inl ⟨by rfl, fun w' hb => ?_⟩) ?_
  rotate_left
  · have kf := KF w' hb
    go_simp
    with_reducible rfl
  simp only [Act.put, List.setIfInBounds_toArray, List.set_cons_zero, List.set_cons_succ]
  refine seq_take 15 (v := ?_) rfl (by kernel_rfl) (fun _ _ _ h => h) (Or.inl ⟨by rfl, fun w' hb => ?_⟩) ?_
  rotate_left
  · have kf := KF w' hb
    go_simp
    with_reducible rfl
  simp only [Act.put, List.setIfInBounds_toArray, List.set_cons_zero, List.set_cons_succ]
  refine seq_take 16 (v := ?_) rfl (by kernel_rfl) (fun _ _ _ h => h) (Or.inl ⟨by rfl, fun w' hb => ?_⟩) ?_
  rotate_left
  · have kf := KF w' hb
    go_simp
    with_reducible rfl
  simp only [Act.put, List.setIfInBounds_toArray, List.set_cons_zero, List.set_cons_succ]
  refine seq_take 17 (v := ?_) rfl (by kernel_rfl) (fun _ _ _ h => h) (Or.inl ⟨by rfl, fun w' hb => ?_⟩) ?_
  rotate_left
  · have kf := KF w' hb
    go_simp
    with_reducible rfl
  simp only [Act.put, List.setIfInBounds_toArray, List.set_cons_zero, List.set_cons_succ]
  refine seq_take 18 (v := ?_) rfl (by kernel_rfl) (fun _ _ _ h => h) (Or.inl ⟨by rfl, fun w' hb => ?_⟩) ?_
  rotate_left
  · have kf := KF w' hb
    go_simp
    with_reducible rfl
  simp only [Act.put, List.setIfInBounds_toArray, List.set_cons_zero, List.set_cons_succ]
  refine seq_take 19 (v := ?_) rfl (by kernel_rfl) (fun _ _ _ h => h) (Or.inl ⟨by rfl, fun w' hb => ?_⟩) ?_
  rotate_left
  · have kf := KF w' hb
    go_simp
    with_reducible rfl
  simp only [Act.put, List.setIfInBounds_toArray, List.set_cons_zero, List.set_cons_succ]
  refine seq_take 20 (v := ?_) rfl (by kernel_rfl) (fun _ _ _ h => h) (Or.inl ⟨by rfl, fun w' hb => ?_⟩) ?_
  rotate_left
  · have kf := KF w' hb
    go_simp
    with_reducible rfl
  simp only [Act.put, List.setIfInBounds_toArray, List.set_cons_zero, List.set_cons_succ]
  refine seq_take 21 (v := ?_) rfl (by kernel_rfl) (fun _ _ _ h => h) (Or.inl ⟨by rfl, fun w' hb => ?_⟩) ?_
  rotate_left
  · have kf := KF w' hb
    go_simp
    with_reducible rfl
  simp only [Act.put, List.setIfInBounds_toArray, List.set_cons_zero, List.set_cons_succ]
  refine seq_take 22 (v := ?_) rfl (by kernel_rfl) (fun _ _ _ h => h) (Or.inl ⟨by rfl, fun w' hb => ?_⟩) ?_
  rotate_left
  · have kf := KF w' hb
    go_simp
    with_reducible rfl
  simp only [Act.put, List.setIfInBounds_toArray, List.set_cons_zero, List.set_cons_succ]
  refine seq_take 23 (v := ?_) rfl (by kernel_rfl) (fun _ _ _ h => h) (Or.inl ⟨by rfl, fun w' hb => ?_⟩) ?_
  rotate_left
  · have kf := KF w' hb
    go_simp
    with_reducible rfl
  simp only [Act.put, List.setIfInBounds_toArray, List.set_cons_zero, List.set_cons_succ]
  refine seq_take 24 (v := ?_) rfl (by kernel_rfl) (fun _ _ _ h => h) (Or.inl ⟨by rfl, fun w' hb => ?_⟩) ?_
  rotate_left
  · have kf := KF w' hb
    go_simp
    with_reducible rfl
  simp only [Act.put, List.setIfInBounds_toArray, List.set_cons_zero, List.set_cons_succ]
  refine seq_end (by kernel_rfl) ?_
  obtain ⟨-, z0, z1, z2, z3, z4, z5, z6, z7, z8⟩ := KF w2 (Below.refl _ _)
  clear KF KF0
  have d1 : decide ((1 : Int) ≤ (n : Int)) = true := by simp; omega
  have d2 : decide ((n : Int) ≤ 4001) = true := by simp; omega
  go_wp2_with (go_at_call 25; refine (risingF sb cs u 0 n 256 _ (ha.s.below (belT hB0 hb2)) ha.ls).mono ?_; rintro e w3 ⟨rfl, hb3⟩)
  go_ret
  exact ⟨by rw [hM]; first | rfl | (simp; done) | (simp; omega), belT (belT hB0 hb2) hb3⟩
set_option maxRecDepth 100000 in
set_option maxHeartbeats 8000000 in
theorem May7a (x : Nat) (p o : Int) (ab sb : Option Addr) (cb cs : Nat) (l : List UInt8) (u : List Nat) (n r t : Nat) (w : World) (ha : RB w ⟨7, x, p, o, l, u, n, r, t⟩ ab sb cb cs) (he : ⟨7, x, p, o, l, u, n, r, t⟩ = bareR ⟨7, x, p, o, l, u, n, r, t⟩) (hp0 : 0 ≤ p) (hp1 : p < 128) (hx1 : x ≤ 4000) (hr1 : r ≤ 4611686018427387904) (q1 : ¬ 1 ≤ n) :
    Calls Try.prog 16 #[rv 7 x p o ab l.length cb sb u.length cs n r t] w fun e w' => e = .returned (.bool (mayB ⟨7, x, p, o, l, u, n, r, t⟩)) ∧ Below w.heap.size w w' := by
  have HEq := Lib.hid he
  have hK : kindB ⟨7, x, p, o, l, u, n, r, t⟩ = false := by simp [kindB]; omega
  have hM : mayB ⟨7, x, p, o, l, u, n, r, t⟩ = false := by unfold mayB; rw [decide_eq_true he, hK]; simp [hp0, hp1, hx1, hr1]
  clear he hK
  have hd0 : decide (p < 0) = false := by simp; omega
  have hd1 : decide (128 ≤ p) = false := by simp; omega
  have hd2 : decide (4000 < (x : Int)) = false := by simp; omega
  have hd3 : decide (4611686018427387904 < (r : Int)) = false := by simp; omega
  go_enter Try.func16, Try.ntmps16
  go_wp2_with fail
  obtain ⟨W, hW⟩ : ∃ W, W = w.alloc (.cells #[.int .i64 7, .int .u64 x, .int .i64 p, .int .i64 o, .slice ab l.length cb, .slice sb u.length cs, .int .u64 n, .int .u64 r, .int .u64 t] 27) := ⟨_, rfl⟩
  have hB0 : Below w.heap.size w W := by rw [hW]; exact below_alloc _ _
  have hG : W.heap[w.heap.size]? = some (.cells #[.int .i64 7, .int .u64 x, .int .i64 p, .int .i64 o, .slice ab l.length cb, .slice sb u.length cs, .int .u64 n, .int .u64 r, .int .u64 t] 27 (0, 0)) := by rw [hW]; exact heap_alloc_new _ _
  have hsz : w.heap.size < W.heap.size := by rw [hW]; simp
  rw [← hW]
  have KF0 : ∀ w', Below W.heap.size W w' → (loadVar 27 ⟨w.heap.size, 0, none⟩).run Try.prog w' = .ok (rv 7 x p o ab l.length cb sb u.length cs n r t) w' ∧ w'.cell? ⟨w.heap.size, 0, none⟩ = some (.int .i64 7) ∧ w'.cell? ⟨w.heap.size, 1, none⟩ = some (.int .u64 x) ∧ w'.cell? ⟨w.heap.size, 2, none⟩ = some (.int .i64 p) ∧ w'.cell? ⟨w.heap.size, 3, none⟩ = some (.int .i64 o) ∧ w'.cell? ⟨w.heap.size, 4, none⟩ = some (.slice ab l.length cb) ∧ w'.cell? ⟨w.heap.size, 5, none⟩ = some (.slice sb u.length cs) ∧ w'.cell? ⟨w.heap.size, 6, none⟩ = some (.int .u64 n) ∧ w'.cell? ⟨w.heap.size, 7, none⟩ = some (.int .u64 r) ∧ w'.cell? ⟨w.heap.size, 8, none⟩ = some (.int .u64 t) := fun w' h => loads9 7 x p o ab sb cb cs l u n r t _ w' ((h.block _ hsz).trans hG)
  clear hW hG
  have KF : ∀ w', Below W.drew.heap.size W.drew w' → (loadVar 27 ⟨w.heap.size, 0, none⟩).run Try.prog w' = .ok (rv 7 x p o ab l.length cb sb u.length cs n r t) w' ∧ w'.cell? ⟨w.heap.size, 0, none⟩ = some (.int .i64 7) ∧ w'.cell? ⟨w.heap.size, 1, none⟩ = some (.int .u64 x) ∧ w'.cell? ⟨w.heap.size, 2, none⟩ = some (.int .i64 p) ∧ w'.cell? ⟨w.heap.size, 3, none⟩ = some (.int .i64 o) ∧ w'.cell? ⟨w.heap.size, 4, none⟩ = some (.slice ab l.length cb) ∧ w'.cell? ⟨w.heap.size, 5, none⟩ = some (.slice sb u.length cs) ∧ w'.cell? ⟨w.heap.size, 6, none⟩ = some (.int .u64 n) ∧ w'.cell? ⟨w.heap.size, 7, none⟩ = some (.int .u64 r) ∧ w'.cell? ⟨w.heap.size, 8, none⟩ = some (.int .u64 t) := fun w' h => KF0 w' (belT (Below.refl _ _).drew h)
  refine seq_start 25 [false, false, false, false, false, false, false, false, false, false, false, false, false, false, false, false, false, false, false, false, false, false, false, false, false] (by kernel_rfl) rfl rfl ?_
  refine seq_take 0 (v := ?_) rfl (by kernel_rfl) (fun _ _ _ h => h) (Or.inl ⟨by rfl, fun w' hb => ?_⟩) ?_
  rotate_left
  · have kf := KF w' hb
    go_simp
    with_reducible rfl
  simp only [Act.put, List.setIfInBounds_toArray, List.set_cons_zero, List.set_cons_succ]
  refine seq_take 1 (v := ?_) rfl (by kernel_rfl) (fun _ _ _ h => h) (Or.inl ⟨by rfl, fun w' hb => ?_⟩) ?_
  rotate_left
  · have kf := KF w' hb
    go_simp
    with_reducible rfl
  simp only [Act.put, List.setIfInBounds_toArray, List.set_cons_zero, List.set_cons_succ]
  refine seq_do 2 rfl (by kernel_rfl) (fun K hK => ?_)
  go_simp
  refine (bareAny 7 x p o ab sb cb cs l u n r t _ (ha.below (belT hB0 (Below.refl _ _).drew))).mono ?_
  rintro e w1 ⟨⟨k2, x2, p2, o2, ab2, sb2, cb2, cs2, l2, u2, n2, r2, t2, hR, rfl, hR2⟩, hb1⟩
  refine hK.out _ _ hb1 ?_
  clear hK K
  simp only [List.set_cons_zero, List.set_cons_succ]
  have hb1 := belT (Below.refl _ _).drew hb1
  replace KF : ∀ w', Below w1.heap.size w1 w' → (loadVar 27 ⟨w.heap.size, 0, none⟩).run Try.prog w' = .ok (rv 7 x p o ab l.length cb sb u.length cs n r t) w' ∧ w'.cell? ⟨w.heap.size, 0, none⟩ = some (.int .i64 7) ∧ w'.cell? ⟨w.heap.size, 1, none⟩ = some (.int .u64 x) ∧ w'.cell? ⟨w.heap.size, 2, none⟩ = some (.int .i64 p) ∧ w'.cell? ⟨w.heap.size, 3, none⟩ = some (.int .i64 o) ∧ w'.cell? ⟨w.heap.size, 4, none⟩ = some (.slice ab l.length cb) ∧ w'.cell? ⟨w.heap.size, 5, none⟩ = some (.slice sb u.length cs) ∧ w'.cell? ⟨w.heap.size, 6, none⟩ = some (.int .u64 n) ∧ w'.cell? ⟨w.heap.size, 7, none⟩ = some (.int .u64 r) ∧ w'.cell? ⟨w.heap.size, 8, none⟩ = some (.int .u64 t) := fun w' h => KF0 w' (belT hb1 h)
  refine seq_do 3 rfl (by kernel_rfl) (fun K hK => ?_)
  go_simp
  refine (SameF 7 x p o ab sb cb cs l u n r t k2 x2 p2 o2 ab2 sb2 cb2 cs2 l2 u2 n2 r2 t2 _ (ha.below (belT hB0 hb1)) hR2).mono ?_
  rw [← hR, decide_eq_true HEq.out]
  rintro e w2 ⟨rfl, hb2⟩
  refine hK.out _ _ hb2 ?_
  clear hK K
  simp only [List.set_cons_zero, List.set_cons_succ]
  have hb2 := belT hb1 hb2
  replace KF : ∀ w', Below w2.heap.size w2 w' → (loadVar 27 ⟨w.heap.size, 0, none⟩).run Try.prog w' = .ok (rv 7 x p o ab l.length cb sb u.length cs n r t) w' ∧ w'.cell? ⟨w.heap.size, 0, none⟩ = some (.int .i64 7) ∧ w'.cell? ⟨w.heap.size, 1, none⟩ = some (.int .u64 x) ∧ w'.cell? ⟨w.heap.size, 2, none⟩ = some (.int .i64 p) ∧ w'.cell? ⟨w.heap.size, 3, none⟩ = some (.int .i64 o) ∧ w'.cell? ⟨w.heap.size, 4, none⟩ = some (.slice ab l.length cb) ∧ w'.cell? ⟨w.heap.size, 5, none⟩ = some (.slice sb u.length cs) ∧ w'.cell? ⟨w.heap.size, 6, none⟩ = some (.int .u64 n) ∧ w'.cell? ⟨w.heap.size, 7, none⟩ = some (.int .u64 r) ∧ w'.cell? ⟨w.heap.size, 8, none⟩ = some (.int .u64 t) := fun w' h => KF0 w' (belT hb2 h)
  refine seq_take 4 (v := ?_) rfl (by kernel_rfl) (fun _ _ _ h => h) (Or.inl ⟨by rfl, fun w' hb => ?_⟩) ?_
  rotate_left
  · have kf := KF w' hb
    go_simp
    with_reducible rfl
  simp only [Act.put, List.setIfInBounds_toArray, List.set_cons_zero, List.set_cons_succ]
  refine seq_take 5 (v := ?_) rfl (by kernel_rfl) (fun _ _ _ h => h) (Or.inl ⟨by rfl, fun w' hb => ?_⟩) ?_
  rotate_left
  · have kf := KF w' hb
    go_simp
    with_reducible rfl
  simp only [Act.put, List.setIfInBounds_toArray, List.set_cons_zero, List.set_cons_succ]
  refine seq_take 6 (v := ?_) rfl (by kernel_rfl) (fun _ _ _ h => h) (Or.inl ⟨by rfl, fun w' hb => ?_⟩) ?_
  rotate_left
  · have kf := KF w' hb
    go_simp
    with_reducible rfl
  simp only [Act.put, List.setIfInBounds_toArray, List.set_cons_zero, List.set_cons_succ]
  refine seq_take 7 (v := ?_) rfl (by kernel_rfl) (fun _ _ _ h => h) (Or.inl ⟨by rfl, fun w' hb => ?_⟩) ?_
  rotate_left
  · have kf := KF w' hb
    go_simp
    with_reducible rfl
  simp only [Act.put, List.setIfInBounds_toArray, List.set_cons_zero, List.set_cons_succ]
  refine seq_take 8 (v := ?_) rfl (by kernel_rfl) (fun _ _ _ h => h) (Or.inl ⟨by rfl, fun w' hb => ?_⟩) ?_
  rotate_left
  · have kf := KF w' hb
    go_simp
    with_reducible rfl
  simp only [Act.put, List.setIfInBounds_toArray, List.set_cons_zero, List.set_cons_succ]
  refine seq_take 9 (v := ?_) rfl (by kernel_rfl) (fun _ _ _ h => h) (Or.inl ⟨by rfl, fun w' hb => ?_⟩) ?_
  rotate_left
  · have kf := KF w' hb
    go_simp
    with_reducible rfl
  simp only [Act.put, List.setIfInBounds_toArray, List.set_cons_zero, List.set_cons_succ]
  refine seq_take 10 (v := ?_) rfl (by kernel_rfl) (fun _ _ _ h => h) (Or.inl ⟨by rfl, fun w' hb => ?_⟩) ?_
  rotate_left
  · have kf := KF w' hb
    go_simp
    with_reducible rfl
  simp only [Act.put, List.setIfInBounds_toArray, List.set_cons_zero, List.set_cons_succ]
  refine seq_take 11 (v := ?_) rfl (by kernel_rfl) (fun _ _ _ h => h) (Or.inl ⟨by rfl, fun w' hb => ?_⟩) ?_
  rotate_left
  · have kf := KF w' hb
    go_simp
    with_reducible rfl
  simp only [Act.put, List.setIfInBounds_toArray, List.set_cons_zero, List.set_cons_succ]
  refine seq_take 12 (v := ?_) rfl (by kernel_rfl) (fun _ _ _ h => h) (Or.inl ⟨by rfl, fun w' hb => ?_⟩) ?_
  rotate_left
  · have kf := KF w' hb
    go_simp
    with_reducible rfl
  simp only [Act.put, List.setIfInBounds_toArray, List.set_cons_zero, List.set_cons_succ]
  refine seq_take 13 (v := ?_) rfl (by kernel_rfl) (fun _ _ _ h => h) (Or.inl ⟨by rfl, fun w' hb => ?_⟩) ?_
  rotate_left
  · have kf := KF w' hb
    go_simp
    with_reducible rfl
  simp only [Act.put, List.setIfInBounds_toArray, List.set_cons_zero, List.set_cons_succ]
  refine seq_take 14 (v := ?_) rfl (by kernel_rfl) (fun _ _ _ h => h) (Or.inl ⟨by rfl, fun w' hb => ?_⟩) ?_
  rotate_left
  · have kf := KF w' hb
    go_simp
    with_reducible rfl
  simp only [Act.put, List.setIfInBounds_toArray, List.set_cons_zero, List.set_cons_succ]
  refine seq_take 15 (v := ?_) rfl (by kernel_rfl) (fun _ _ _ h => h) (Or.inl ⟨by rfl, fun w' hb => ?_⟩) ?_
  rotate_left
  · have kf := KF w' hb
    go_simp
    with_reducible rfl
  simp only [Act.put, List.setIfInBounds_toArray, List.set_cons_zero, List.set_cons_succ]
  refine seq_take 16 (v := ?_) rfl (by kernel_rfl) (fun _ _ _ h => h) (Or.inl ⟨by rfl, fun w' hb => ?_⟩) ?_
  rotate_left
  · have kf := KF w' hb
    go_simp
    with_reducible rfl
  simp only [Act.put, List.setIfInBounds_toArray, List.set_cons_zero, List.set_cons_succ]
  refine seq_take 17 (v := ?_) rfl (by kernel_rfl) (fun _ _ _ h => h) (Or.inl ⟨by rfl, fun w' hb => ?_⟩) ?_
  rotate_left
  · have kf := KF w' hb
    go_simp
    with_reducible rfl
  simp only [Act.put, List.setIfInBounds_toArray, List.set_cons_zero, List.set_cons_succ]
  refine seq_take 18 (v := ?_) rfl (by kernel_rfl) (fun _ _ _ h => h) (Or.inl ⟨by rfl, fun w' hb => ?_⟩) ?_
  rotate_left
  · have kf := KF w' hb
    go_simp
    with_reducible rfl
  simp only [Act.put, List.setIfInBounds_toArray, List.set_cons_zero, List.set_cons_succ]
  refine seq_take 19 (v := ?_) rfl (by kernel_rfl) (fun _ _ _ h => h) (Or.inl ⟨by rfl, fun w' hb => ?_⟩) ?_
  rotate_left
  · have kf := KF w' hb
    go_simp
    with_reducible rfl
  simp only [Act.put, List.setIfInBounds_toArray, List.set_cons_zero, List.set_cons_succ]
  refine seq_take 20 (v := ?_) rfl (by kernel_rfl) (fun _ _ _ h => h) (Or.inl ⟨by rfl, fun w' hb => ?_⟩) ?_
  rotate_left
  · have kf := KF w' hb
    go_simp
    with_reducible rfl
  simp only [Act.put, List.setIfInBounds_toArray, List.set_cons_zero, List.set_cons_succ]
  refine seq_take 21 (v := ?_) rfl (by kernel_rfl) (fun _ _ _ h => h) (Or.inl ⟨by rfl, fun w' hb => ?_⟩) ?_
  rotate_left
  · have kf := KF w' hb
    go_simp
    with_reducible rfl
  simp only [Act.put, List.setIfInBounds_toArray, List.set_cons_zero, List.set_cons_succ]
  refine seq_take 22 (v := ?_) rfl (by kernel_rfl) (fun _ _ _ h => h) (Or.inl ⟨by rfl, fun w' hb => ?_⟩) ?_
  rotate_left
  · have kf := KF w' hb
    go_simp
    with_reducible rfl
  simp only [Act.put, List.setIfInBounds_toArray, List.set_cons_zero, List.set_cons_succ]
  refine seq_take 23 (v := ?_) rfl (by kernel_rfl) (fun _ _ _ h => h) (Or.inl ⟨by rfl, fun w' hb => ?_⟩) ?_
  rotate_left
  · have kf := KF w' hb
    go_simp
    with_reducible rfl
  simp only [Act.put, List.setIfInBounds_toArray, List.set_cons_zero, List.set_cons_succ]
  refine seq_take 24 (v := ?_) rfl (by kernel_rfl) (fun _ _ _ h => h) (Or.inl ⟨by rfl, fun w' hb => ?_⟩) ?_
  rotate_left
  · have kf := KF w' hb
    go_simp
    with_reducible rfl
  simp only [Act.put, List.setIfInBounds_toArray, List.set_cons_zero, List.set_cons_succ]
  refine seq_end (by kernel_rfl) ?_
  obtain ⟨-, z0, z1, z2, z3, z4, z5, z6, z7, z8⟩ := KF w2 (Below.refl _ _)
  clear KF KF0
  have d1 : decide ((1 : Int) ≤ (n : Int)) = false := by simp; omega
  go_wp2_with fail
  go_ret
  exact ⟨by rw [hM]; first | rfl | (simp; done) | (simp; omega), belT hB0 hb2⟩
set_option maxRecDepth 100000 in
set_option maxHeartbeats 8000000 in
theorem May7b (x : Nat) (p o : Int) (ab sb : Option Addr) (cb cs : Nat) (l : List UInt8) (u : List Nat) (n r t : Nat) (w : World) (ha : RB w ⟨7, x, p, o, l, u, n, r, t⟩ ab sb cb cs) (he : ⟨7, x, p, o, l, u, n, r, t⟩ = bareR ⟨7, x, p, o, l, u, n, r, t⟩) (hp0 : 0 ≤ p) (hp1 : p < 128) (hx1 : x ≤ 4000) (hr1 : r ≤ 4611686018427387904) (_ : 1 ≤ n) (q2 : ¬ n ≤ 4001) :
    Calls Try.prog 16 #[rv 7 x p o ab l.length cb sb u.length cs n r t] w fun e w' => e = .returned (.bool (mayB ⟨7, x, p, o, l, u, n, r, t⟩)) ∧ Below w.heap.size w w' := by
  have HEq := Lib.hid he
  have hK : kindB ⟨7, x, p, o, l, u, n, r, t⟩ = false := by simp [kindB]; omega
  have hM : mayB ⟨7, x, p, o, l, u, n, r, t⟩ = false := by unfold mayB; rw [decide_eq_true he, hK]; simp [hp0, hp1, hx1, hr1]
  clear he hK
  have hd0 : decide (p < 0) = false := by simp; omega
  have hd1 : decide (128 ≤ p) = false := by simp; omega
  have hd2 : decide (4000 < (x : Int)) = false := by simp; omega
  have hd3 : decide (4611686018427387904 < (r : Int)) = false := by simp; omega
  go_enter Try.func16, Try.ntmps16
  go_wp2_with fail
  obtain ⟨W, hW⟩ : ∃ W, W = w.alloc (.cells #[.int .i64 7, .int .u64 x, .int .i64 p, .int .i64 o, .slice ab l.length cb, .slice sb u.length cs, .int .u64 n, .int .u64 r, .int .u64 t] 27) := ⟨_, rfl⟩
  have hB0 : Below w.heap.size w W := by rw [hW]; exact below_alloc _ _
  have hG : W.heap[w.heap.size]? = some (.cells #[.int .i64 7, .int .u64 x, .int .i64 p, .int .i64 o, .slice ab l.length cb, .slice sb u.length cs, .int .u64 n, .int .u64 r, .int .u64 t] 27 (0, 0)) := by rw [hW]; exact heap_alloc_new _ _
  have hsz : w.heap.size < W.heap.size := by rw [hW]; simp
  rw [← hW]
  have KF0 : ∀ w', Below W.heap.size W w' → (loadVar 27 ⟨w.heap.size, 0, none⟩).run Try.prog w' = .ok (rv 7 x p o ab l.length cb sb u.length cs n r t) w' ∧ w'.cell? ⟨w.heap.size, 0, none⟩ = some (.int .i64 7) ∧ w'.cell? ⟨w.heap.size, 1, none⟩ = some (.int .u64 x) ∧ w'.cell? ⟨w.heap.size, 2, none⟩ = some (.int .i64 p) ∧ w'.cell? ⟨w.heap.size, 3, none⟩ = some (.int .i64 o) ∧ w'.cell? ⟨w.heap.size, 4, none⟩ = some (.slice ab l.length cb) ∧ w'.cell? ⟨w.heap.size, 5, none⟩ = some (.slice sb u.length cs) ∧ w'.cell? ⟨w.heap.size, 6, none⟩ = some (.int .u64 n) ∧ w'.cell? ⟨w.heap.size, 7, none⟩ = some (.int .u64 r) ∧ w'.cell? ⟨w.heap.size, 8, none⟩ = some (.int .u64 t) := fun w' h => loads9 7 x p o ab sb cb cs l u n r t _ w' ((h.block _ hsz).trans hG)
  clear hW hG
  have KF : ∀ w', Below W.drew.heap.size W.drew w' → (loadVar 27 ⟨w.heap.size, 0, none⟩).run Try.prog w' = .ok (rv 7 x p o ab l.length cb sb u.length cs n r t) w' ∧ w'.cell? ⟨w.heap.size, 0, none⟩ = some (.int .i64 7) ∧ w'.cell? ⟨w.heap.size, 1, none⟩ = some (.int .u64 x) ∧ w'.cell? ⟨w.heap.size, 2, none⟩ = some (.int .i64 p) ∧ w'.cell? ⟨w.heap.size, 3, none⟩ = some (.int .i64 o) ∧ w'.cell? ⟨w.heap.size, 4, none⟩ = some (.slice ab l.length cb) ∧ w'.cell? ⟨w.heap.size, 5, none⟩ = some (.slice sb u.length cs) ∧ w'.cell? ⟨w.heap.size, 6, none⟩ = some (.int .u64 n) ∧ w'.cell? ⟨w.heap.size, 7, none⟩ = some (.int .u64 r) ∧ w'.cell? ⟨w.heap.size, 8, none⟩ = some (.int .u64 t) := fun w' h => KF0 w' (belT (Below.refl _ _).drew h)
  refine seq_start 25 [false, false, false, false, false, false, false, false, false, false, false, false, false, false, false, false, false, false, false, false, false, false, false, false, false] (by kernel_rfl) rfl rfl ?_
  refine seq_take 0 (v := ?_) rfl (by kernel_rfl) (fun _ _ _ h => h) (Or.inl ⟨by rfl, fun w' hb => ?_⟩) ?_
  rotate_left
  · have kf := KF w' hb
    go_simp
    with_reducible rfl
  simp only [Act.put, List.setIfInBounds_toArray, List.set_cons_zero, List.set_cons_succ]
  refine seq_take 1 (v := ?_) rfl (by kernel_rfl) (fun _ _ _ h => h) (Or.inl ⟨by rfl, fun w' hb => ?_⟩) ?_
  rotate_left
  · have kf := KF w' hb
    go_simp
    with_reducible rfl
  simp only [Act.put, List.setIfInBounds_toArray, List.set_cons_zero, List.set_cons_succ]
  refine seq_do 2 rfl (by kernel_rfl) (fun K hK => ?_)
  go_simp
  refine (bareAny 7 x p o ab sb cb cs l u n r t _ (ha.below (belT hB0 (Below.refl _ _).drew))).mono ?_
  rintro e w1 ⟨⟨k2, x2, p2, o2, ab2, sb2, cb2, cs2, l2, u2, n2, r2, t2, hR, rfl, hR2⟩, hb1⟩
  refine hK.out _ _ hb1 ?_
  clear hK K
  simp only [List.set_cons_zero, List.set_cons_succ]
  have hb1 := belT (Below.refl _ _).drew hb1
  replace KF : ∀ w', Below w1.heap.size w1 w' → (loadVar 27 ⟨w.heap.size, 0, none⟩).run Try.prog w' = .ok (rv 7 x p o ab l.length cb sb u.length cs n r t) w' ∧ w'.cell? ⟨w.heap.size, 0, none⟩ = some (.int .i64 7) ∧ w'.cell? ⟨w.heap.size, 1, none⟩ = some (.int .u64 x) ∧ w'.cell? ⟨w.heap.size, 2, none⟩ = some (.int .i64 p) ∧ w'.cell? ⟨w.heap.size, 3, none⟩ = some (.int .i64 o) ∧ w'.cell? ⟨w.heap.size, 4, none⟩ = some (.slice ab l.length cb) ∧ w'.cell? ⟨w.heap.size, 5, none⟩ = some (.slice sb u.length cs) ∧ w'.cell? ⟨w.heap.size, 6, none⟩ = some (.int .u64 n) ∧ w'.cell? ⟨w.heap.size, 7, none⟩ = some (.int .u64 r) ∧ w'.cell? ⟨w.heap.size, 8, none⟩ = some (.int .u64 t) := fun w' h => KF0 w' (belT hb1 h)
  refine seq_do 3 rfl (by kernel_rfl) (fun K hK => ?_)
  go_simp
  refine (SameF 7 x p o ab sb cb cs l u n r t k2 x2 p2 o2 ab2 sb2 cb2 cs2 l2 u2 n2 r2 t2 _ (ha.below (belT hB0 hb1)) hR2).mono ?_
  rw [← hR, decide_eq_true HEq.out]
  rintro e w2 ⟨rfl, hb2⟩
  refine hK.out _ _ hb2 ?_
  clear hK K
  simp only [List.set_cons_zero, List.set_cons_succ]
  have hb2 := belT hb1 hb2
  replace KF : ∀ w', Below w2.heap.size w2 w' → (loadVar 27 ⟨w.heap.size, 0, none⟩).run Try.prog w' = .ok (rv 7 x p o ab l.length cb sb u.length cs n r t) w' ∧ w'.cell? ⟨w.heap.size, 0, none⟩ = some (.int .i64 7) ∧ w'.cell? ⟨w.heap.size, 1, none⟩ = some (.int .u64 x) ∧ w'.cell? ⟨w.heap.size, 2, none⟩ = some (.int .i64 p) ∧ w'.cell? ⟨w.heap.size, 3, none⟩ = some (.int .i64 o) ∧ w'.cell? ⟨w.heap.size, 4, none⟩ = some (.slice ab l.length cb) ∧ w'.cell? ⟨w.heap.size, 5, none⟩ = some (.slice sb u.length cs) ∧ w'.cell? ⟨w.heap.size, 6, none⟩ = some (.int .u64 n) ∧ w'.cell? ⟨w.heap.size, 7, none⟩ = some (.int .u64 r) ∧ w'.cell? ⟨w.heap.size, 8, none⟩ = some (.int .u64 t) := fun w' h => KF0 w' (belT hb2 h)
  refine seq_take 4 (v := ?_) rfl (by kernel_rfl) (fun _ _ _ h => h) (Or.inl ⟨by rfl, fun w' hb => ?_⟩) ?_
  rotate_left
  · have kf := KF w' hb
    go_simp
    with_reducible rfl
  simp only [Act.put, List.setIfInBounds_toArray, List.set_cons_zero, List.set_cons_succ]
  refine seq_take 5 (v := ?_) rfl (by kernel_rfl) (fun _ _ _ h => h) (Or.inl ⟨by rfl, fun w' hb => ?_⟩) ?_
  rotate_left
  · have kf := KF w' hb
    go_simp
    with_reducible rfl
  simp only [Act.put, List.setIfInBounds_toArray, List.set_cons_zero, List.set_cons_succ]
  refine seq_take 6 (v := ?_) rfl (by kernel_rfl) (fun _ _ _ h => h) (Or.inl ⟨by rfl, fun w' hb => ?_⟩) ?_
  rotate_left
  · have kf := KF w' hb
    go_simp
    with_reducible rfl
  simp only [Act.put, List.setIfInBounds_toArray, List.set_cons_zero, List.set_cons_succ]
  refine seq_take 7 (v := ?_) rfl (by kernel_rfl) (fun _ _ _ h => h) (Or.inl ⟨by rfl, fun w' hb => ?_⟩) ?_
  rotate_left
  · have kf := KF w' hb
    go_simp
    with_reducible rfl
  simp only [Act.put, List.setIfInBounds_toArray, List.set_cons_zero, List.set_cons_succ]
  refine seq_take 8 (v := ?_) rfl (by kernel_rfl) (fun _ _ _ h => h) (Or.inl ⟨by rfl, fun w' hb => ?_⟩) ?_
  rotate_left
  · have kf := KF w' hb
    go_simp
    with_reducible rfl
  simp only [Act.put, List.setIfInBounds_toArray, List.set_cons_zero, List.set_cons_succ]
  refine seq_take 9 (v := ?_) rfl (by kernel_rfl) (fun _ _ _ h => h) (Or.inl ⟨by rfl, fun w' hb => ?_⟩) ?_
  rotate_left
  · have kf := KF w' hb
    go_simp
    with_reducible rfl
  simp only [Act.put, List.setIfInBounds_toArray, List.set_cons_zero, List.set_cons_succ]
  refine seq_take 10 (v := ?_) rfl (by kernel_rfl) (fun _ _ _ h => h) (Or.inl ⟨by rfl, fun w' hb => ?_⟩) ?_
  rotate_left
  · have kf := KF w' hb
    go_simp
    with_reducible rfl
  simp only [Act.put, List.setIfInBounds_toArray, List.set_cons_zero, List.set_cons_succ]
  refine seq_take 11 (v := ?_) rfl (by kernel_rfl) (fun _ _ _ h => h) (Or.inl ⟨by rfl, fun w' hb => ?_⟩) ?_
  rotate_left
  · have kf := KF w' hb
    go_simp
    with_reducible rfl
  simp only [Act.put, List.setIfInBounds_toArray, List.set_cons_zero, List.set_cons_succ]
  refine seq_take 12 (v := ?_) rfl (by kernel_rfl) (fun _ _ _ h => h) (Or.inl ⟨by rfl, fun w' hb => ?_⟩) ?_
  rotate_left
  · have kf := KF w' hb
    go_simp
    with_reducible rfl
  simp only [Act.put, List.setIfInBounds_toArray, List.set_cons_zero, List.set_cons_succ]
  refine seq_take 13 (v := ?_) rfl (by kernel_rfl) (fun _ _ _ h => h) (Or.inl ⟨by rfl, fun w' hb => ?_⟩) ?_
  rotate_left
  · have kf := KF w' hb
    go_simp
    with_reducible rfl
  simp only [Act.put, List.setIfInBounds_toArray, List.set_cons_zero, List.set_cons_succ]
  refine seq_take 14 (v := ?_) rfl (by kernel_rfl) (fun _ _ _ h => h) (Or.inl ⟨by rfl, fun w' hb => ?_⟩) ?_
  rotate_left
  · have kf := KF w' hb
    go_simp
    with_reducible rfl
  simp only [Act.put, List.setIfInBounds_toArray, List.set_cons_zero, List.set_cons_succ]
  refine seq_take 15 (v := ?_) rfl (by kernel_rfl) (fun _ _ _ h => h) (Or.inl ⟨by rfl, fun w' hb => ?_⟩) ?_
  rotate_left
  · have kf := KF w' hb
    go_simp
    with_reducible rfl
  simp only [Act.put, List.setIfInBounds_toArray, List.set_cons_zero, List.set_cons_succ]
  refine seq_take 16 (v := ?_) rfl (by kernel_rfl) (fun _ _ _ h => h) (Or.inl ⟨by rfl, fun w' hb => ?_⟩) ?_
  rotate_left
  · have kf := KF w' hb
    go_simp
    with_reducible rfl
  simp only [Act.put, List.setIfInBounds_toArray, List.set_cons_zero, List.set_cons_succ]
  refine seq_take 17 (v := ?_) rfl (by kernel_rfl) (fun _ _ _ h => h) (Or.inl ⟨by rfl, fun w' hb => ?_⟩) ?_
  rotate_left
  · have kf := KF w' hb
    go_simp
    with_reducible rfl
  simp only [Act.put, List.setIfInBounds_toArray, List.set_cons_zero, List.set_cons_succ]
  refine seq_take 18 (v := ?_) rfl (by kernel_rfl) (fun _ _ _ h => h) (Or.inl ⟨by rfl, fun w' hb => ?_⟩) ?_
  rotate_left
  · have kf := KF w' hb
    go_simp
    with_reducible rfl
  simp only [Act.put, List.setIfInBounds_toArray, List.set_cons_zero, List.set_cons_succ]
  refine seq_take 19 (v := ?_) rfl (by kernel_rfl) (fun _ _ _ h => h) (Or.inl ⟨by rfl, fun w' hb => ?_⟩) ?_
  rotate_left
  · have kf := KF w' hb
    go_simp
    with_reducible rfl
  simp only [Act.put, List.setIfInBounds_toArray, List.set_cons_zero, List.set_cons_succ]
  refine seq_take 20 (v := ?_) rfl (by kernel_rfl) (fun _ _ _ h => h) (Or.inl ⟨by rfl, fun w' hb => ?_⟩) ?_
  rotate_left
  · have kf := KF w' hb
    go_simp
    with_reducible rfl
  simp only [Act.put, List.setIfInBounds_toArray, List.set_cons_zero, List.set_cons_succ]
  refine seq_take 21 (v := ?_) rfl (by kernel_rfl) (fun _ _ _ h => h) (Or.inl ⟨by rfl, fun w' hb => ?_⟩) ?_
  rotate_left
  · have kf := KF w' hb
    go_simp
    with_reducible rfl
  simp only [Act.put, List.setIfInBounds_toArray, List.set_cons_zero, List.set_cons_succ]
  refine seq_take 22 (v := ?_) rfl (by kernel_rfl) (fun _ _ _ h => h) (Or.inl ⟨by rfl, fun w' hb => ?_⟩) ?_
  rotate_left
  · have kf := KF w' hb
    go_simp
    with_reducible rfl
  simp only [Act.put, List.setIfInBounds_toArray, List.set_cons_zero, List.set_cons_succ]
  refine seq_take 23 (v := ?_) rfl (by kernel_rfl) (fun _ _ _ h => h) (Or.inl ⟨by rfl, fun w' hb => ?_⟩) ?_
  rotate_left
  · have kf := KF w' hb
    go_simp
    with_reducible rfl
  simp only [Act.put, List.setIfInBounds_toArray, List.set_cons_zero, List.set_cons_succ]
  refine seq_take 24 (v := ?_) rfl (by kernel_rfl) (fun _ _ _ h => h) (Or.inl ⟨by rfl, fun w' hb => ?_⟩) ?_
  rotate_left
  · have kf := KF w' hb
    go_simp
    with_reducible rfl
  simp only [Act.put, List.setIfInBounds_toArray, List.set_cons_zero, List.set_cons_succ]
  refine seq_end (by kernel_rfl) ?_
  obtain ⟨-, z0, z1, z2, z3, z4, z5, z6, z7, z8⟩ := KF w2 (Below.refl _ _)
  clear KF KF0
  have d1 : decide ((1 : Int) ≤ (n : Int)) = true := by simp; omega
  have d2 : decide ((n : Int) ≤ 4001) = false := by simp; omega
  go_wp2_with fail
  go_ret
  exact ⟨by rw [hM]; first | rfl | (simp; done) | (simp; omega), belT hB0 hb2⟩
set_option maxRecDepth 100000 in
set_option maxHeartbeats 8000000 in
theorem May7c (x : Nat) (p o : Int) (ab sb : Option Addr) (cb cs : Nat) (l : List UInt8) (u : List Nat) (n r t : Nat) (w : World) (ha : RB w ⟨7, x, p, o, l, u, n, r, t⟩ ab sb cb cs) (he : ⟨7, x, p, o, l, u, n, r, t⟩ = bareR ⟨7, x, p, o, l, u, n, r, t⟩) (hp0 : 0 ≤ p) (hp1 : p < 128) (hx1 : x ≤ 4000) (hr1 : r ≤ 4611686018427387904) (q1 : 1 ≤ n) (q2 : n ≤ 4001) :
    Calls Try.prog 16 #[rv 7 x p o ab l.length cb sb u.length cs n r t] w fun e w' => e = .returned (.bool (mayB ⟨7, x, p, o, l, u, n, r, t⟩)) ∧ Below w.heap.size w w' := by
  have HEq := Lib.hid he
  have hK : kindB ⟨7, x, p, o, l, u, n, r, t⟩ = true := by simp [kindB]; omega
  have hM : mayB ⟨7, x, p, o, l, u, n, r, t⟩ = true := by unfold mayB; rw [decide_eq_true he, hK]; simp [hp0, hp1, hx1, hr1]
  clear he hK
  have hd0 : decide (p < 0) = false := by simp; omega
  have hd1 : decide (128 ≤ p) = false := by simp; omega
  have hd2 : decide (4000 < (x : Int)) = false := by simp; omega
  have hd3 : decide (4611686018427387904 < (r : Int)) = false := by simp; omega
  go_enter Try.func16, Try.ntmps16
  go_wp2_with fail
  obtain ⟨W, hW⟩ : ∃ W, W = w.alloc (.cells #[.int .i64 7, .int .u64 x, .int .i64 p, .int .i64 o, .slice ab l.length cb, .slice sb u.length cs, .int .u64 n, .int .u64 r, .int .u64 t] 27) := ⟨_, rfl⟩
  have hB0 : Below w.heap.size w W := by rw [hW]; exact below_alloc _ _
  have hG : W.heap[w.heap.size]? = some (.cells #[.int .i64 7, .int .u64 x, .int .i64 p, .int .i64 o, .slice ab l.length cb, .slice sb u.length cs, .int .u64 n, .int .u64 r, .int .u64 t] 27 (0, 0)) := by rw [hW]; exact heap_alloc_new _ _
  have hsz : w.heap.size < W.heap.size := by rw [hW]; simp
  rw [← hW]
  have KF0 : ∀ w', Below W.heap.size W w' → (loadVar 27 ⟨w.heap.size, 0, none⟩).run Try.prog w' = .ok (rv 7 x p o ab l.length cb sb u.length cs n r t) w' ∧ w'.cell? ⟨w.heap.size, 0, none⟩ = some (.int .i64 7) ∧ w'.cell? ⟨w.heap.size, 1, none⟩ = some (.int .u64 x) ∧ w'.cell? ⟨w.heap.size, 2, none⟩ = some (.int .i64 p) ∧ w'.cell? ⟨w.heap.size, 3, none⟩ = some (.int .i64 o) ∧ w'.cell? ⟨w.heap.size, 4, none⟩ = some (.slice ab l.length cb) ∧ w'.cell? ⟨w.heap.size, 5, none⟩ = some (.slice sb u.length cs) ∧ w'.cell? ⟨w.heap.size, 6, none⟩ = some (.int .u64 n) ∧ w'.cell? ⟨w.heap.size, 7, none⟩ = some (.int .u64 r) ∧ w'.cell? ⟨w.heap.size, 8, none⟩ = some (.int .u64 t) := fun w' h => loads9 7 x p o ab sb cb cs l u n r t _ w' ((h.block _ hsz).trans hG)
  clear hW hG
  have KF : ∀ w', Below W.drew.heap.size W.drew w' → (loadVar 27 ⟨w.heap.size, 0, none⟩).run Try.prog w' = .ok (rv 7 x p o ab l.length cb sb u.length cs n r t) w' ∧ w'.cell? ⟨w.heap.size, 0, none⟩ = some (.int .i64 7) ∧ w'.cell? ⟨w.heap.size, 1, none⟩ = some (.int .u64 x) ∧ w'.cell? ⟨w.heap.size, 2, none⟩ = some (.int .i64 p) ∧ w'.cell? ⟨w.heap.size, 3, none⟩ = some (.int .i64 o) ∧ w'.cell? ⟨w.heap.size, 4, none⟩ = some (.slice ab l.length cb) ∧ w'.cell? ⟨w.heap.size, 5, none⟩ = some (.slice sb u.length cs) ∧ w'.cell? ⟨w.heap.size, 6, none⟩ = some (.int .u64 n) ∧ w'.cell? ⟨w.heap.size, 7, none⟩ = some (.int .u64 r) ∧ w'.cell? ⟨w.heap.size, 8, none⟩ = some (.int .u64 t) := fun w' h => KF0 w' (belT (Below.refl _ _).drew h)
  refine seq_start 25 [false, false, false, false, false, false, false, false, false, false, false, false, false, false, false, false, false, false, false, false, false, false, false, false, false] (by kernel_rfl) rfl rfl ?_
  refine seq_take 0 (v := ?_) rfl (by kernel_rfl) (fun _ _ _ h => h) (Or.inl ⟨by rfl, fun w' hb => ?_⟩) ?_
  rotate_left
  · have kf := KF w' hb
    go_simp
    with_reducible rfl
  simp only [Act.put, List.setIfInBounds_toArray, List.set_cons_zero, List.set_cons_succ]
  refine seq_take 1 (v := ?_) rfl (by kernel_rfl) (fun _ _ _ h => h) (Or.inl ⟨by rfl, fun w' hb => ?_⟩) ?_
  rotate_left
  · have kf := KF w' hb
    go_simp
    with_reducible rfl
  simp only [Act.put, List.setIfInBounds_toArray, List.set_cons_zero, List.set_cons_succ]
  refine seq_do 2 rfl (by kernel_rfl) (fun K hK => ?_)
  go_simp
  refine (bareAny 7 x p o ab sb cb cs l u n r t _ (ha.below (belT hB0 (Below.refl _ _).drew))).mono ?_
  rintro e w1 ⟨⟨k2, x2, p2, o2, ab2, sb2, cb2, cs2, l2, u2, n2, r2, t2, hR, rfl, hR2⟩, hb1⟩
  refine hK.out _ _ hb1 ?_
  clear hK K
  simp only [List.set_cons_zero, List.set_cons_succ]
  have hb1 := belT (Below.refl _ _).drew hb1
  replace KF : ∀ w', Below w1.heap.size w1 w' → (loadVar 27 ⟨w.heap.size, 0, none⟩).run Try.prog w' = .ok (rv 7 x p o ab l.length cb sb u.length cs n r t) w' ∧ w'.cell? ⟨w.heap.size, 0, none⟩ = some (.int .i64 7) ∧ w'.cell? ⟨w.heap.size, 1, none⟩ = some (.int .u64 x) ∧ w'.cell? ⟨w.heap.size, 2, none⟩ = some (.int .i64 p) ∧ w'.cell? ⟨w.heap.size, 3, none⟩ = some (.int .i64 o) ∧ w'.cell? ⟨w.heap.size, 4, none⟩ = some (.slice ab l.length cb) ∧ w'.cell? ⟨w.heap.size, 5, none⟩ = some (.slice sb u.length cs) ∧ w'.cell? ⟨w.heap.size, 6, none⟩ = some (.int .u64 n) ∧ w'.cell? ⟨w.heap.size, 7, none⟩ = some (.int .u64 r) ∧ w'.cell? ⟨w.heap.size, 8, none⟩ = some (.int .u64 t) := fun w' h => KF0 w' (belT hb1 h)
  refine seq_do 3 rfl (by kernel_rfl) (fun K hK => ?_)
  go_simp
  refine (SameF 7 x p o ab sb cb cs l u n r t k2 x2 p2 o2 ab2 sb2 cb2 cs2 l2 u2 n2 r2 t2 _ (ha.below (belT hB0 hb1)) hR2).mono ?_
  rw [← hR, decide_eq_true HEq.out]
  rintro e w2 ⟨rfl, hb2⟩
  refine hK.out _ _ hb2 ?_
  clear hK K
  simp only [List.set_cons_zero, List.set_cons_succ]
  have hb2 := belT hb1 hb2
  replace KF : ∀ w', Below w2.heap.size w2 w' → (loadVar 27 ⟨w.heap.size, 0, none⟩).run Try.prog w' = .ok (rv 7 x p o ab l.length cb sb u.length cs n r t) w' ∧ w'.cell? ⟨w.heap.size, 0, none⟩ = some (.int .i64 7) ∧ w'.cell? ⟨w.heap.size, 1, none⟩ = some (.int .u64 x) ∧ w'.cell? ⟨w.heap.size, 2, none⟩ = some (.int .i64 p) ∧ w'.cell? ⟨w.heap.size, 3, none⟩ = some (.int .i64 o) ∧ w'.cell? ⟨w.heap.size, 4, none⟩ = some (.slice ab l.length cb) ∧ w'.cell? ⟨w.heap.size, 5, none⟩ = some (.slice sb u.length cs) ∧ w'.cell? ⟨w.heap.size, 6, none⟩ = some (.int .u64 n) ∧ w'.cell? ⟨w.heap.size, 7, none⟩ = some (.int .u64 r) ∧ w'.cell? ⟨w.heap.size, 8, none⟩ = some (.int .u64 t) := fun w' h => KF0 w' (belT hb2 h)
  refine seq_take 4 (v := ?_) rfl (by kernel_rfl) (fun _ _ _ h => h) (Or.inl ⟨by rfl, fun w' hb => ?_⟩) ?_
  rotate_left
  · have kf := KF w' hb
    go_simp
    with_reducible rfl
  simp only [Act.put, List.setIfInBounds_toArray, List.set_cons_zero, List.set_cons_succ]
  refine seq_take 5 (v := ?_) rfl (by kernel_rfl) (fun _ _ _ h => h) (Or.inl ⟨by rfl, fun w' hb => ?_⟩) ?_
  rotate_left
  · have kf := KF w' hb
    go_simp
    with_reducible rfl
  simp only [Act.put, List.setIfInBounds_toArray, List.set_cons_zero, List.set_cons_succ]
  refine seq_take 6 (v := ?_) rfl (by kernel_rfl) (fun _ _ _ h => h) (Or.inl ⟨by rfl, fun w' hb => ?_⟩) ?_
  rotate_left
  · have kf := KF w' hb
    go_simp
    with_reducible rfl
  simp only [Act.put, List.setIfInBounds_toArray, List.set_cons_zero, List.set_cons_succ]
  refine seq_take 7 (v := ?_) rfl (by kernel_rfl) (fun _ _ _ h => h) (Or.inl ⟨by rfl, fun w' hb => ?_⟩) ?_
  rotate_left
  · have kf := KF w' hb
    go_simp
    with_reducible rfl
  simp only [Act.put, List.setIfInBounds_toArray, List.set_cons_zero, List.set_cons_succ]
  refine seq_take 8 (v := ?_) rfl (by kernel_rfl) (fun _ _ _ h => h) (Or.inl ⟨by rfl, fun w' hb => ?_⟩) ?_
  rotate_left
  · have kf := KF w' hb
    go_simp
    with_reducible rfl
  simp only [Act.put, List.setIfInBounds_toArray, List.set_cons_zero, List.set_cons_succ]
  refine seq_take 9 (v := ?_) rfl (by kernel_rfl) (fun _ _ _ h => h) (Or.inl ⟨by rfl, fun w' hb => ?_⟩) ?_
  rotate_left
  · have kf := KF w' hb
    go_simp
    with_reducible rfl
  simp only [Act.put, List.setIfInBounds_toArray, List.set_cons_zero, List.set_cons_succ]
  refine seq_take 10 (v := ?_) rfl (by kernel_rfl) (fun _ _ _ h => h) (Or.inl ⟨by rfl, fun w' hb => ?_⟩) ?_
  rotate_left
  · have kf := KF w' hb
    go_simp
    with_reducible rfl
  simp only [Act.put, List.setIfInBounds_toArray, List.set_cons_zero, List.set_cons_succ]
  refine seq_take 11 (v := ?_) rfl (by kernel_rfl) (fun _ _ _ h => h) (Or.inl ⟨by rfl, fun w' hb => ?_⟩) ?_
  rotate_left
  · have kf := KF w' hb
    go_simp
    with_reducible rfl
  simp only [Act.put, List.setIfInBounds_toArray, List.set_cons_zero, List.set_cons_succ]
  refine seq_take 12 (v := ?_) rfl (by kernel_rfl) (fun _ _ _ h => h) (Or.inl ⟨by rfl, fun w' hb => ?_⟩) ?_
  rotate_left
  · have kf := KF w' hb
    go_simp
    with_reducible rfl
  simp only [Act.put, List.setIfInBounds_toArray, List.set_cons_zero, List.set_cons_succ]
  refine seq_take 13 (v := ?_) rfl (by kernel_rfl) (fun _ _ _ h => h) (Or.inl ⟨by rfl, fun w' hb => ?_⟩) ?_
  rotate_left
  · have kf := KF w' hb
    go_simp
    with_reducible rfl
  simp only [Act.put, List.setIfInBounds_toArray, List.set_cons_zero, List.set_cons_succ]
  refine seq_take 14 (v := ?_) rfl (by kernel_rfl) (fun _ _ _ h => h) (Or.inl ⟨by rfl, fun w' hb => ?_⟩) ?_
  rotate_left
  · have kf := KF w' hb
    go_simp
    with_reducible rfl
  simp only [Act.put, List.setIfInBounds_toArray, List.set_cons_zero, List.set_cons_succ]
  refine seq_take 15 (v := ?_) rfl (by kernel_rfl) (fun _ _ _ h => h) (Or.inl ⟨by rfl, fun w' hb => ?_⟩) ?_
  rotate_left
  · have kf := KF w' hb
    go_simp
    with_reducible rfl
  simp only [Act.put, List.setIfInBounds_toArray, List.set_cons_zero, List.set_cons_succ]
  refine seq_take 16 (v := ?_) rfl (by kernel_rfl) (fun _ _ _ h => h) (Or.inl ⟨by rfl, fun w' hb => ?_⟩) ?_
  rotate_left
  · have kf := KF w' hb
    go_simp
    with_reducible rfl
  simp only [Act.put, List.setIfInBounds_toArray, List.set_cons_zero, List.set_cons_succ]
  refine seq_take 17 (v := ?_) rfl (by kernel_rfl) (fun _ _ _ h => h) (Or.inl ⟨by rfl, fun w' hb => ?_⟩) ?_
  rotate_left
  · have kf := KF w' hb
    go_simp
    with_reducible rfl
  simp only [Act.put, List.setIfInBounds_toArray, List.set_cons_zero, List.set_cons_succ]
  refine seq_take 18 (v := ?_) rfl (by kernel_rfl) (fun _ _ _ h => h) (Or.inl ⟨by rfl, fun w' hb => ?_⟩) ?_
  rotate_left
  · have kf := KF w' hb
    go_simp
    with_reducible rfl
  simp only [Act.put, List.setIfInBounds_toArray, List.set_cons_zero, List.set_cons_succ]
  refine seq_take 19 (v := ?_) rfl (by kernel_rfl) (fun _ _ _ h => h) (Or.inl ⟨by rfl, fun w' hb => ?_⟩) ?_
  rotate_left
  · have kf := KF w' hb
    go_simp
    with_reducible rfl
  simp only [Act.put, List.setIfInBounds_toArray, List.set_cons_zero, List.set_cons_succ]
  refine seq_take 20 (v := ?_) rfl (by kernel_rfl) (fun _ _ _ h => h) (Or.inl ⟨by rfl, fun w' hb => ?_⟩) ?_
  rotate_left
  · have kf := KF w' hb
    go_simp
    with_reducible rfl
  simp only [Act.put, List.setIfInBounds_toArray, List.set_cons_zero, List.set_cons_succ]
  refine seq_take 21 (v := ?_) rfl (by kernel_rfl) (fun _ _ _ h => h) (Or.inl ⟨by rfl, fun w' hb => ?_⟩) ?_
  rotate_left
  · have kf := KF w' hb
    go_simp
    with_reducible rfl
  simp only [Act.put, List.setIfInBounds_toArray, List.set_cons_zero, List.set_cons_succ]
  refine seq_take 22 (v := ?_) rfl (by kernel_rfl) (fun _ _ _ h => h) (Or.inl ⟨by rfl, fun w' hb => ?_⟩) ?_
  rotate_left
  · have kf := KF w' hb
    go_simp
    with_reducible rfl
  simp only [Act.put, List.setIfInBounds_toArray, List.set_cons_zero, List.set_cons_succ]
  refine seq_take 23 (v := ?_) rfl (by kernel_rfl) (fun _ _ _ h => h) (Or.inl ⟨by rfl, fun w' hb => ?_⟩) ?_
  rotate_left
  · have kf := KF w' hb
    go_simp
    with_reducible rfl
  simp only [Act.put, List.setIfInBounds_toArray, List.set_cons_zero, List.set_cons_succ]
  refine seq_take 24 (v := ?_) rfl (by kernel_rfl) (fun _ _ _ h => h) (Or.inl ⟨by rfl, fun w' hb => ?_⟩) ?_
  rotate_left
  · have kf := KF w' hb
    go_simp
    with_reducible rfl
  simp only [Act.put, List.setIfInBounds_toArray, List.set_cons_zero, List.set_cons_succ]
  refine seq_end (by kernel_rfl) ?_
  obtain ⟨-, z0, z1, z2, z3, z4, z5, z6, z7, z8⟩ := KF w2 (Below.refl _ _)
  clear KF KF0
  have d1 : decide ((1 : Int) ≤ (n : Int)) = true := by simp; omega
  have d2 : decide ((n : Int) ≤ 4001) = true := by simp; omega
  go_wp2_with fail
  go_ret
  exact ⟨by rw [hM]; first | rfl | (simp; done) | (simp; omega), belT hB0 hb2⟩
set_option maxRecDepth 100000 in
set_option maxHeartbeats 8000000 in
theorem May8a (x : Nat) (p o : Int) (ab sb : Option Addr) (cb cs : Nat) (l : List UInt8) (u : List Nat) (n r t : Nat) (w : World) (ha : RB w ⟨8, x, p, o, l, u, n, r, t⟩ ab sb cb cs) (he : ⟨8, x, p, o, l, u, n, r, t⟩ = bareR ⟨8, x, p, o, l, u, n, r, t⟩) (hp0 : 0 ≤ p) (hp1 : p < 128) (hx1 : x ≤ 4000) (hr1 : r ≤ 4611686018427387904) (q1 : ¬ 1 ≤ t) :
    Calls Try.prog 16 #[rv 8 x p o ab l.length cb sb u.length cs n r t] w fun e w' => e = .returned (.bool (mayB ⟨8, x, p, o, l, u, n, r, t⟩)) ∧ Below w.heap.size w w' := by
  have HEq := Lib.hid he
  have hK : kindB ⟨8, x, p, o, l, u, n, r, t⟩ = false := by simp [kindB]; omega
  have hM : mayB ⟨8, x, p, o, l, u, n, r, t⟩ = false := by unfold mayB; rw [decide_eq_true he, hK]; simp [hp0, hp1, hx1, hr1]
  clear he hK
  have hd0 : decide (p < 0) = false := by simp; omega
  have hd1 : decide (128 ≤ p) = false := by simp; omega
  have hd2 : decide (4000 < (x : Int)) = false := by simp; omega
  have hd3 : decide (4611686018427387904 < (r : Int)) = false := by simp; omega
  go_enter Try.func16, Try.ntmps16
  go_wp2_with fail
  obtain ⟨W, hW⟩ : ∃ W, W = w.alloc (.cells #[.int .i64 8, .int .u64 x, .int .i64 p, .int .i64 o, .slice ab l.length cb, .slice sb u.length cs, .int .u64 n, .int .u64 r, .int .u64 t] 27) := ⟨_, rfl⟩
  have hB0 : Below w.heap.size w W := by rw [hW]; exact below_alloc _ _
  have hG : W.heap[w.heap.size]? = some (.cells #[.int .i64 8, .int .u64 x, .int .i64 p, .int .i64 o, .slice ab l.length cb, .slice sb u.length cs, .int .u64 n, .int .u64 r, .int .u64 t] 27 (0, 0)) := by rw [hW]; exact heap_alloc_new _ _
  have hsz : w.heap.size < W.heap.size := by rw [hW]; simp
  rw [← hW]
  have KF0 : ∀ w', Below W.heap.size W w' → (loadVar 27 ⟨w.heap.size, 0, none⟩).run Try.prog w' = .ok (rv 8 x p o ab l.length cb sb u.length cs n r t) w' ∧ w'.cell? ⟨w.heap.size, 0, none⟩ = some (.int .i64 8) ∧ w'.cell? ⟨w.heap.size, 1, none⟩ = some (.int .u64 x) ∧ w'.cell? ⟨w.heap.size, 2, none⟩ = some (.int .i64 p) ∧ w'.cell? ⟨w.heap.size, 3, none⟩ = some (.int .i64 o) ∧ w'.cell? ⟨w.heap.size, 4, none⟩ = some (.slice ab l.length cb) ∧ w'.cell? ⟨w.heap.size, 5, none⟩ = some (.slice sb u.length cs) ∧ w'.cell? ⟨w.heap.size, 6, none⟩ = some (.int .u64 n) ∧ w'.cell? ⟨w.heap.size, 7, none⟩ = some (.int .u64 r) ∧ w'.cell? ⟨w.heap.size, 8, none⟩ = some (.int .u64 t) := fun w' h => loads9 8 x p o ab sb cb cs l u n r t _ w' ((h.block _ hsz).trans hG)
  clear hW hG
  have KF : ∀ w', Below W.drew.heap.size W.drew w' → (loadVar 27 ⟨w.heap.size, 0, none⟩).run Try.prog w' = .ok (rv 8 x p o ab l.length cb sb u.length cs n r t) w' ∧ w'.cell? ⟨w.heap.size, 0, none⟩ = some (.int .i64 8) ∧ w'.cell? ⟨w.heap.size, 1, none⟩ = some (.int .u64 x) ∧ w'.cell? ⟨w.heap.size, 2, none⟩ = some (.int .i64 p) ∧ w'.cell? ⟨w.heap.size, 3, none⟩ = some (.int .i64 o) ∧ w'.cell? ⟨w.heap.size, 4, none⟩ = some (.slice ab l.length cb) ∧ w'.cell? ⟨w.heap.size, 5, none⟩ = some (.slice sb u.length cs) ∧ w'.cell? ⟨w.heap.size, 6, none⟩ = some (.int .u64 n) ∧ w'.cell? ⟨w.heap.size, 7, none⟩ = some (.int .u64 r) ∧ w'.cell? ⟨w.heap.size, 8, none⟩ = some (.int .u64 t) := fun w' h => KF0 w' (belT (Below.refl _ _).drew h)
  refine seq_start 25 [false, false, false, false, false, false, false, false, false, false, false, false, false, false, false, false, false, false, false, false, false, false, false, false, false] (by kernel_rfl) rfl rfl ?_
  refine seq_take 0 (v := ?_) rfl (by kernel_rfl) (fun _ _ _ h => h) (Or.inl ⟨by rfl, fun w' hb => ?_⟩) ?_
  rotate_left
  · have kf := KF w' hb
    go_simp
    with_reducible rfl
  simp only [Act.put, List.setIfInBounds_toArray, List.set_cons_zero, List.set_cons_succ]
  refine seq_take 1 (v := ?_) rfl (by kernel_rfl) (fun _ _ _ h => h) (Or.inl ⟨by rfl, fun w' hb => ?_⟩) ?_
  rotate_left
  · have kf := KF w' hb
    go_simp
    with_reducible rfl
  simp only [Act.put, List.setIfInBounds_toArray, List.set_cons_zero, List.set_cons_succ]
  refine seq_do 2 rfl (by kernel_rfl) (fun K hK => ?_)
  go_simp
  refine (bareAny 8 x p o ab sb cb cs l u n r t _ (ha.below (belT hB0 (Below.refl _ _).drew))).mono ?_
  rintro e w1 ⟨⟨k2, x2, p2, o2, ab2, sb2, cb2, cs2, l2, u2, n2, r2, t2, hR, rfl, hR2⟩, hb1⟩
  refine hK.out _ _ hb1 ?_
  clear hK K
  simp only [List.set_cons_zero, List.set_cons_succ]
  have hb1 := belT (Below.refl _ _).drew hb1
  replace KF : ∀ w', Below w1.heap.size w1 w' → (loadVar 27 ⟨w.heap.size, 0, none⟩).run Try.prog w' = .ok (rv 8 x p o ab l.length cb sb u.length cs n r t) w' ∧ w'.cell? ⟨w.heap.size, 0, none⟩ = some (.int .i64 8) ∧ w'.cell? ⟨w.heap.size, 1, none⟩ = some (.int .u64 x) ∧ w'.cell? ⟨w.heap.size, 2, none⟩ = some (.int .i64 p) ∧ w'.cell? ⟨w.heap.size, 3, none⟩ = some (.int .i64 o) ∧ w'.cell? ⟨w.heap.size, 4, none⟩ = some (.slice ab l.length cb) ∧ w'.cell? ⟨w.heap.size, 5, none⟩ = some (.slice sb u.length cs) ∧ w'.cell? ⟨w.heap.size, 6, none⟩ = some (.int .u64 n) ∧ w'.cell? ⟨w.heap.size, 7, none⟩ = some (.int .u64 r) ∧ w'.cell? ⟨w.heap.size, 8, none⟩ = some (.int .u64 t) := fun w' h => KF0 w' (belT hb1 h)
  refine seq_do 3 rfl (by kernel_rfl) (fun K hK => ?_)
  go_simp
  refine (SameF 8 x p o ab sb cb cs l u n r t k2 x2 p2 o2 ab2 sb2 cb2 cs2 l2 u2 n2 r2 t2 _ (ha.below (belT hB0 hb1)) hR2).mono ?_
  rw [← hR, decide_eq_true HEq.out]
  rintro e w2 ⟨rfl, hb2⟩
  refine hK.out _ _ hb2 ?_
  clear hK K
  simp only [List.set_cons_zero, List.set_cons_succ]
  have hb2 := belT hb1 hb2
  replace KF : ∀ w', Below w2.heap.size w2 w' → (loadVar 27 ⟨w.heap.size, 0, none⟩).run Try.prog w' = .ok (rv 8 x p o ab l.length cb sb u.length cs n r t) w' ∧ w'.cell? ⟨w.heap.size, 0, none⟩ = some (.int .i64 8) ∧ w'.cell? ⟨w.heap.size, 1, none⟩ = some (.int .u64 x) ∧ w'.cell? ⟨w.heap.size, 2, none⟩ = some (.int .i64 p) ∧ w'.cell? ⟨w.heap.size, 3, none⟩ = some (.int .i64 o) ∧ w'.cell? ⟨w.heap.size, 4, none⟩ = some (.slice ab l.length cb) ∧ w'.cell? ⟨w.heap.size, 5, none⟩ = some (.slice sb u.length cs) ∧ w'.cell? ⟨w.heap.size, 6, none⟩ = some (.int .u64 n) ∧ w'.cell? ⟨w.heap.size, 7, none⟩ = some (.int .u64 r) ∧ w'.cell? ⟨w.heap.size, 8, none⟩ = some (.int .u64 t) := fun w' h => KF0 w' (belT hb2 h)
  refine seq_take 4 (v := ?_) rfl (by kernel_rfl) (fun _ _ _ h => h) (Or.inl ⟨by rfl, fun w' hb => ?_⟩) ?_
  rotate_left
  · have kf := KF w' hb
    go_simp
    with_reducible rfl
  simp only [Act.put, List.setIfInBounds_toArray, List.set_cons_zero, List.set_cons_succ]
  refine seq_take 5 (v := ?_) rfl (by kernel_rfl) (fun _ _ _ h => h) (Or.inl ⟨by rfl, fun w' hb => ?_⟩) ?_
  rotate_left
  · have kf := KF w' hb
    go_simp
    with_reducible rfl
  simp only [Act.put, List.setIfInBounds_toArray, List.set_cons_zero, List.set_cons_succ]
  refine seq_take 6 (v := ?_) rfl (by kernel_rfl) (fun _ _ _ h => h) (Or.inl ⟨by rfl, fun w' hb => ?_⟩) ?_
  rotate_left
  · have kf := KF w' hb
    go_simp
    with_reducible rfl
  simp only [Act.put, List.setIfInBounds_toArray, List.set_cons_zero, List.set_cons_succ]
  refine seq_take 7 (v := ?_) rfl (by kernel_rfl) (fun _ _ _ h => h) (Or.inl ⟨by rfl, fun w' hb => ?_⟩) ?_
  rotate_left
  · have kf := KF w' hb
    go_simp
    with_reducible rfl
  simp only [Act.put, List.setIfInBounds_toArray, List.set_cons_zero, List.set_cons_succ]
  refine seq_take 8 (v := ?_) rfl (by kernel_rfl) (fun _ _ _ h => h) (Or.inl ⟨by rfl, fun w' hb => ?_⟩) ?_
  rotate_left
  · have kf := KF w' hb
    go_simp
    with_reducible rfl
  simp only [Act.put, List.setIfInBounds_toArray, List.set_cons_zero, List.set_cons_succ]
  refine seq_take 9 (v := ?_) rfl (by kernel_rfl) (fun _ _ _ h => h) (Or.inl ⟨by rfl, fun w' hb => ?_⟩) ?_
  rotate_left
  · have kf := KF w' hb
    go_simp
    with_reducible rfl
  simp only [Act.put, List.setIfInBounds_toArray, List.set_cons_zero, List.set_cons_succ]
  refine seq_take 10 (v := ?_) rfl (by kernel_rfl) (fun _ _ _ h => h) (Or.inl ⟨by rfl, fun w' hb => ?_⟩) ?_
  rotate_left
  · have kf := KF w' hb
    go_simp
    with_reducible rfl
  simp only [Act.put, List.setIfInBounds_toArray, List.set_cons_zero, List.set_cons_succ]
  refine seq_take 11 (v := ?_) rfl (by kernel_rfl) (fun _ _ _ h => h) (Or.inl ⟨by rfl, fun w' hb => ?_⟩) ?_
  rotate_left
  · have kf := KF w' hb
    go_simp
    with_reducible rfl
  simp only [Act.put, List.setIfInBounds_toArray, List.set_cons_zero, List.set_cons_succ]
  refine seq_take 12 (v := ?_) rfl (by kernel_rfl) (fun _ _ _ h => h) (Or.inl ⟨by rfl, fun w' hb => ?_⟩) ?_
  rotate_left
  · have kf := KF w' hb
    go_simp
    with_reducible rfl
  simp only [Act.put, List.setIfInBounds_toArray, List.set_cons_zero, List.set_cons_succ]
  refine seq_take 13 (v := ?_) rfl (by kernel_rfl) (fun _ _ _ h => h) (Or.inl ⟨by rfl, fun w' hb => ?_⟩) ?_
  rotate_left
  · have kf := KF w' hb
    go_simp
    with_reducible rfl
  simp only [Act.put, List.setIfInBounds_toArray, List.set_cons_zero, List.set_cons_succ]
  refine seq_take 14 (v := ?_) rfl (by kernel_rfl) (fun _ _ _ h => h) (Or.inl ⟨by rfl, fun w' hb => ?_⟩) ?_
  rotate_left
  · have kf := KF w' hb
    go_simp
    with_reducible rfl
  simp only [Act.put, List.setIfInBounds_toArray, List.set_cons_zero, List.set_cons_succ]
  refine seq_take 15 (v := ?_) rfl (by kernel_rfl) (fun _ _ _ h => h) (Or.inl ⟨by rfl, fun w' hb => ?_⟩) ?_
  rotate_left
  · have kf := KF w' hb
    go_simp
    with_reducible rfl
  simp only [Act.put, List.setIfInBounds_toArray, List.set_cons_zero, List.set_cons_succ]
  refine seq_take 16 (v := ?_) rfl (by kernel_rfl) (fun _ _ _ h => h) (Or.inl ⟨by rfl, fun w' hb => ?_⟩) ?_
  rotate_left
  · have kf := KF w' hb
    go_simp
    with_reducible rfl
  simp only [Act.put, List.setIfInBounds_toArray, List.set_cons_zero, List.set_cons_succ]
  refine seq_take 17 (v := ?_) rfl (by kernel_rfl) (fun _ _ _ h => h) (Or.inl ⟨by rfl, fun w' hb => ?_⟩) ?_
  rotate_left
  · have kf := KF w' hb
    go_simp
    with_reducible rfl
  simp only [Act.put, List.setIfInBounds_toArray, List.set_cons_zero, List.set_cons_succ]
  refine seq_take 18 (v := ?_) rfl (by kernel_rfl) (fun _ _ _ h => h) (Or.inl ⟨by rfl, fun w' hb => ?_⟩) ?_
  rotate_left
  · have kf := KF w' hb
    go_simp
    with_reducible rfl
  simp only [Act.put, List.setIfInBounds_toArray, List.set_cons_zero, List.set_cons_succ]
  refine seq_take 19 (v := ?_) rfl (by kernel_rfl) (fun _ _ _ h => h) (Or.inl ⟨by rfl, fun w' hb => ?_⟩) ?_
  rotate_left
  · have kf := KF w' hb
    go_simp
    with_reducible rfl
  simp only [Act.put, List.setIfInBounds_toArray, List.set_cons_zero, List.set_cons_succ]
  refine seq_take 20 (v := ?_) rfl (by kernel_rfl) (fun _ _ _ h => h) (Or.inl ⟨by rfl, fun w' hb => ?_⟩) ?_
  rotate_left
  · have kf := KF w' hb
    go_simp
    with_reducible rfl
  simp only [Act.put, List.setIfInBounds_toArray, List.set_cons_zero, List.set_cons_succ]
  refine seq_take 21 (v := ?_) rfl (by kernel_rfl) (fun _ _ _ h => h) (Or.inl ⟨by rfl, fun w' hb => ?_⟩) ?_
  rotate_left
  · have kf := KF w' hb
    go_simp
    with_reducible rfl
  simp only [Act.put, List.setIfInBounds_toArray, List.set_cons_zero, List.set_cons_succ]
  refine seq_take 22 (v := ?_) rfl (by kernel_rfl) (fun _ _ _ h => h) (Or.inl ⟨by rfl, fun w' hb => ?_⟩) ?_
  rotate_left
  · have kf := KF w' hb
    go_simp
    with_reducible rfl
  simp only [Act.put, List.setIfInBounds_toArray, List.set_cons_zero, List.set_cons_succ]
  refine seq_take 23 (v := ?_) rfl (by kernel_rfl) (fun _ _ _ h => h) (Or.inl ⟨by rfl, fun w' hb => ?_⟩) ?_
  rotate_left
  · have kf := KF w' hb
    go_simp
    with_reducible rfl
  simp only [Act.put, List.setIfInBounds_toArray, List.set_cons_zero, List.set_cons_succ]
  refine seq_take 24 (v := ?_) rfl (by kernel_rfl) (fun _ _ _ h => h) (Or.inl ⟨by rfl, fun w' hb => ?_⟩) ?_
  rotate_left
  · have kf := KF w' hb
    go_simp
    with_reducible rfl
  simp only [Act.put, List.setIfInBounds_toArray, List.set_cons_zero, List.set_cons_succ]
  refine seq_end (by kernel_rfl) ?_
  obtain ⟨-, z0, z1, z2, z3, z4, z5, z6, z7, z8⟩ := KF w2 (Below.refl _ _)
  clear KF KF0
  have d1 : decide ((1 : Int) ≤ (t : Int)) = false := by simp; omega
  go_wp2_with fail
  go_ret
  exact ⟨by rw [hM]; first | rfl | (simp; done) | (simp; omega), belT hB0 hb2⟩
set_option maxRecDepth 100000 in
set_option maxHeartbeats 8000000 in
theorem May8b (x : Nat) (p o : Int) (ab sb : Option Addr) (cb cs : Nat) (l : List UInt8) (u : List Nat) (n r t : Nat) (w : World) (ha : RB w ⟨8, x, p, o, l, u, n, r, t⟩ ab sb cb cs) (he : ⟨8, x, p, o, l, u, n, r, t⟩ = bareR ⟨8, x, p, o, l, u, n, r, t⟩) (hp0 : 0 ≤ p) (hp1 : p < 128) (hx1 : x ≤ 4000) (hr1 : r ≤ 4611686018427387904) (_ : 1 ≤ t) (q2 : ¬ t ≤ 2147483647) :
    Calls Try.prog 16 #[rv 8 x p o ab l.length cb sb u.length cs n r t] w fun e w' => e = .returned (.bool (mayB ⟨8, x, p, o, l, u, n, r, t⟩)) ∧ Below w.heap.size w w' := by
  have HEq := Lib.hid he
  have hK : kindB ⟨8, x, p, o, l, u, n, r, t⟩ = false := by simp [kindB]; omega
  have hM : mayB ⟨8, x, p, o, l, u, n, r, t⟩ = false := by unfold mayB; rw [decide_eq_true he, hK]; simp [hp0, hp1, hx1, hr1]
  clear he hK
  have hd0 : decide (p < 0) = false := by simp; omega
  have hd1 : decide (128 ≤ p) = false := by simp; omega
  have hd2 : decide (4000 < (x : Int)) = false := by simp; omega
  have hd3 : decide (4611686018427387904 < (r : Int)) = false := by simp; omega
  go_enter Try.func16, Try.ntmps16
  go_wp2_with fail
  obtain ⟨W, hW⟩ : ∃ W, W = w.alloc (.cells #[.int .i64 8, .int .u64 x, .int .i64 p, .int .i64 o, .slice ab l.length cb, .slice sb u.length cs, .int .u64 n, .int .u64 r, .int .u64 t] 27) := ⟨_, rfl⟩
  have hB0 : Below w.heap.size w W := by rw [hW]; exact below_alloc _ _
  have hG : W.heap[w.heap.size]? = some (.cells #[.int .i64 8, .int .u64 x, .int .i64 p, .int .i64 o, .slice ab l.length cb, .slice sb u.length cs, .int .u64 n, .int .u64 r, .int .u64 t] 27 (0, 0)) := by rw [hW]; exact heap_alloc_new _ _
  have hsz : w.heap.size < W.heap.size := by rw [hW]; simp
  rw [← hW]
  have KF0 : ∀ w', Below W.heap.size W w' → (loadVar 27 ⟨w.heap.size, 0, none⟩).run Try.prog w' = .ok (rv 8 x p o ab l.length cb sb u.length cs n r t) w' ∧ w'.cell? ⟨w.heap.size, 0, none⟩ = some (.int .i64 8) ∧ w'.cell? ⟨w.heap.size, 1, none⟩ = some (.int .u64 x) ∧ w'.cell? ⟨w.heap.size, 2, none⟩ = some (.int .i64 p) ∧ w'.cell? ⟨w.heap.size, 3, none⟩ = some (.int .i64 o) ∧ w'.cell? ⟨w.heap.size, 4, none⟩ = some (.slice ab l.length cb) ∧ w'.cell? ⟨w.heap.size, 5, none⟩ = some (.slice sb u.length cs) ∧ w'.cell? ⟨w.heap.size, 6, none⟩ = some (.int .u64 n) ∧ w'.cell? ⟨w.heap.size, 7, none⟩ = some (.int .u64 r) ∧ w'.cell? ⟨w.heap.size, 8, none⟩ = some (.int .u64 t) := fun w' h => loads9 8 x p o ab sb cb cs l u n r t _ w' ((h.block _ hsz).trans hG)
  clear hW hG
  have KF : ∀ w', Below W.drew.heap.size W.drew w' → (loadVar 27 ⟨w.heap.size, 0, none⟩).run Try.prog w' = .ok (rv 8 x p o ab l.length cb sb u.length cs n r t) w' ∧ w'.cell? ⟨w.heap.size, 0, none⟩ = some (.int .i64 8) ∧ w'.cell? ⟨w.heap.size, 1, none⟩ = some (.int .u64 x) ∧ w'.cell? ⟨w.heap.size, 2, none⟩ = some (.int .i64 p) ∧ w'.cell? ⟨w.heap.size, 3, none⟩ = some (.int .i64 o) ∧ w'.cell? ⟨w.heap.size, 4, none⟩ = some (.slice ab l.length cb) ∧ w'.cell? ⟨w.heap.size, 5, none⟩ = some (.slice sb u.length cs) ∧ w'.cell? ⟨w.heap.size, 6, none⟩ = some (.int .u64 n) ∧ w'.cell? ⟨w.heap.size, 7, none⟩ = some (.int .u64 r) ∧ w'.cell? ⟨w.heap.size, 8, none⟩ = some (.int .u64 t) := fun w' h => KF0 w' (belT (Below.refl _ _).drew h)
  refine seq_start 25 [false, false, false, false, false, false, false, false, false, false, false, false, false, false, false, false, false, false, false, false, false, false, false, false, false] (by kernel_rfl) rfl rfl ?_
  refine seq_take 0 (v := ?_) rfl (by kernel_rfl) (fun _ _ _ h => h) (Or.inl ⟨by rfl, fun w' hb => ?_⟩) ?_
  rotate_left
  · have kf := KF w' hb
    go_simp
    with_reducible rfl
  simp only [Act.put, List.setIfInBounds_toArray, List.set_cons_zero, List.set_cons_succ]
  refine seq_take 1 (v := ?_) rfl (by kernel_rfl) (fun _ _ _ h => h) (Or.inl ⟨by rfl, fun w' hb => ?_⟩) ?_
  rotate_left
  · have kf := KF w' hb
    go_simp
    with_reducible rfl
  simp only [Act.put, List.setIfInBounds_toArray, List.set_cons_zero, List.set_cons_succ]
  refine seq_do 2 rfl (by kernel_rfl) (fun K hK => ?_)
  go_simp
  refine (bareAny 8 x p o ab sb cb cs l u n r t _ (ha.below (belT hB0 (Below.refl _ _).drew))).mono ?_
  rintro e w1 ⟨⟨k2, x2, p2, o2, ab2, sb2, cb2, cs2, l2, u2, n2, r2, t2, hR, rfl, hR2⟩, hb1⟩
  refine hK.out _ _ hb1 ?_
  clear hK K
  simp only [List.set_cons_zero, List.set_cons_succ]
  have hb1 := belT (Below.refl _ _).drew hb1
  replace KF : ∀ w', Below w1.heap.size w1 w' → (loadVar 27 ⟨w.heap.size, 0, none⟩).run Try.prog w' = .ok (rv 8 x p o ab l.length cb sb u.length cs n r t) w' ∧ w'.cell? ⟨w.heap.size, 0, none⟩ = some (.int .i64 8) ∧ w'.cell? ⟨w.heap.size, 1, none⟩ = some (.int .u64 x) ∧ w'.cell? ⟨w.heap.size, 2, none⟩ = some (.int .i64 p) ∧ w'.cell? ⟨w.heap.size, 3, none⟩ = some (.int .i64 o) ∧ w'.cell? ⟨w.heap.size, 4, none⟩ = some (.slice ab l.length cb) ∧ w'.cell? ⟨w.heap.size, 5, none⟩ = some (.slice sb u.length cs) ∧ w'.cell? ⟨w.heap.size, 6, none⟩ = some (.int .u64 n) ∧ w'.cell? ⟨w.heap.size, 7, none⟩ = some (.int .u64 r) ∧ w'.cell? ⟨w.heap.size, 8, none⟩ = some (.int .u64 t) := fun w' h => KF0 w' (belT hb1 h)
  refine seq_do 3 rfl (by kernel_rfl) (fun K hK => ?_)
  go_simp
  refine (SameF 8 x p o ab sb cb cs l u n r t k2 x2 p2 o2 ab2 sb2 cb2 cs2 l2 u2 n2 r2 t2 _ (ha.below (belT hB0 hb1)) hR2).mono ?_
  rw [← hR, decide_eq_true HEq.out]
  rintro e w2 ⟨rfl, hb2⟩
  refine hK.out _ _ hb2 ?_
  clear hK K
  simp only [List.set_cons_zero, List.set_cons_succ]
  have hb2 := belT hb1 hb2
  replace KF : ∀ w', Below w2.heap.size w2 w' → (loadVar 27 ⟨w.heap.size, 0, none⟩).run Try.prog w' = .ok (rv 8 x p o ab l.length cb sb u.length cs n r t) w' ∧ w'.cell? ⟨w.heap.size, 0, none⟩ = some (.int .i64 8) ∧ w'.cell? ⟨w.heap.size, 1, none⟩ = some (.int .u64 x) ∧ w'.cell? ⟨w.heap.size, 2, none⟩ = some (.int .i64 p) ∧ w'.cell? ⟨w.heap.size, 3, none⟩ = some (.int .i64 o) ∧ w'.cell? ⟨w.heap.size, 4, none⟩ = some (.slice ab l.length cb) ∧ w'.cell? ⟨w.heap.size, 5, none⟩ = some (.slice sb u.length cs) ∧ w'.cell? ⟨w.heap.size, 6, none⟩ = some (.int .u64 n) ∧ w'.cell? ⟨w.heap.size, 7, none⟩ = some (.int .u64 r) ∧ w'.cell? ⟨w.heap.size, 8, none⟩ = some (.int .u64 t) := fun w' h => KF0 w' (belT hb2 h)
  refine seq_take 4 (v := ?_) rfl (by kernel_rfl) (fun _ _ _ h => h) (Or.inl ⟨by rfl, fun w' hb => ?_⟩) ?_
  rotate_left
  · have kf := KF w' hb
    go_simp
    with_reducible rfl
  simp only [Act.put, List.setIfInBounds_toArray, List.set_cons_zero, List.set_cons_succ]
  refine seq_take 5 (v := ?_) rfl (by kernel_rfl) (fun _ _ _ h => h) (Or.inl ⟨by rfl, fun w' hb => ?_⟩) ?_
  rotate_left
  · have kf := KF w' hb
    go_simp
    with_reducible rfl
  simp only [Act.put, List.setIfInBounds_toArray, List.set_cons_zero, List.set_cons_succ]
  refine seq_take 6 (v := ?_) rfl (by kernel_rfl) (fun _ _ _ h => h) (Or.inl ⟨by rfl, fun w' hb => ?_⟩) ?_
  rotate_left
  · have kf := KF w' hb
    go_simp
    with_reducible rfl
  simp only [Act.put, List.setIfInBounds_toArray, List.set_cons_zero, List.set_cons_succ]
  refine seq_take 7 (v := ?_) rfl (by kernel_rfl) (fun _ _ _ h => h) (Or.inl ⟨by rfl, fun w' hb => ?_⟩) ?_
  rotate_left
  · have kf := KF w' hb
    go_simp
    with_reducible rfl
  simp only [Act.put, List.setIfInBounds_toArray, List.set_cons_zero, List.set_cons_succ]
  refine seq_take 8 (v := ?_) rfl (by kernel_rfl) (fun _ _ _ h => h) (Or.inl ⟨by rfl, fun w' hb => ?_⟩) ?_
  rotate_left
  · have kf := KF w' hb
    go_simp
    with_reducible rfl
  simp only [Act.put, List.setIfInBounds_toArray, List.set_cons_zero, List.set_cons_succ]
  refine seq_take 9 (v := ?_) rfl (by kernel_rfl) (fun _ _ _ h => h) (Or.inl ⟨by rfl, fun w' hb => ?_⟩) ?_
  rotate_left
  · have kf := KF w' hb
    go_simp
    with_reducible rfl
  simp only [Act.put, List.setIfInBounds_toArray, List.set_cons_zero, List.set_cons_succ]
  refine seq_take 10 (v := ?_) rfl (by kernel_rfl) (fun _ _ _ h => h) (Or.inl ⟨by rfl, fun w' hb => ?_⟩) ?_
  rotate_left
  · have kf := KF w' hb
    go_simp
    with_reducible rfl
  simp only [Act.put, List.setIfInBounds_toArray, List.set_cons_zero, List.set_cons_succ]
  refine seq_take 11 (v := ?_) rfl (by kernel_rfl) (fun _ _ _ h => h) (Or.inl ⟨by rfl, fun w' hb => ?_⟩) ?_
  rotate_left
  · have kf := KF w' hb
    go_simp
    with_reducible rfl
  simp only [Act.put, List.setIfInBounds_toArray, List.set_cons_zero, List.set_cons_succ]
  refine seq_take 12 (v := ?_) rfl (by kernel_rfl) (fun _ _ _ h => h) (Or.inl ⟨by rfl, fun w' hb => ?_⟩) ?_
  rotate_left
  · have kf := KF w' hb
    go_simp
    with_reducible rfl
  simp only [Act.put, List.setIfInBounds_toArray, List.set_cons_zero, List.set_cons_succ]
  refine seq_take 13 (v := ?_) rfl (by kernel_rfl) (fun _ _ _ h => h) (Or.inl ⟨by rfl, fun w' hb => ?_⟩) ?_
  rotate_left
  · have kf := KF w' hb
    go_simp
    with_reducible rfl
  simp only [Act.put, List.setIfInBounds_toArray, List.set_cons_zero, List.set_cons_succ]
  refine seq_take 14 (v := ?_) rfl (by kernel_rfl) (fun _ _ _ h => h) (Or.inl ⟨by rfl, fun w' hb => ?_⟩) ?_
  rotate_left
  · have kf := KF w' hb
    go_simp
    with_reducible rfl
  simp only [Act.put, List.setIfInBounds_toArray, List.set_cons_zero, List.set_cons_succ]
  refine seq_take 15 (v := ?_) rfl (by kernel_rfl) (fun _ _ _ h => h) (Or.inl ⟨by rfl, fun w' hb => ?_⟩) ?_
  rotate_left
  · have kf := KF w' hb
    go_simp
    with_reducible rfl
  simp only [Act.put, List.setIfInBounds_toArray, List.set_cons_zero, List.set_cons_succ]
  refine seq_take 16 (v := ?_) rfl (by kernel_rfl) (fun _ _ _ h => h) (Or.inl ⟨by rfl, fun w' hb => ?_⟩) ?_
  rotate_left
  · have kf := KF w' hb
    go_simp
    with_reducible rfl
  simp only [Act.put, List.setIfInBounds_toArray, List.set_cons_zero, List.set_cons_succ]
  refine seq_take 17 (v := ?_) rfl (by kernel_rfl) (fun _ _ _ h => h) (Or.inl ⟨by rfl, fun w' hb => ?_⟩) ?_
  rotate_left
  · have kf := KF w' hb
    go_simp
    with_reducible rfl
  simp only [Act.put, List.setIfInBounds_toArray, List.set_cons_zero, List.set_cons_succ]
  refine seq_take 18 (v := ?_) rfl (by kernel_rfl) (fun _ _ _ h => h) (Or.inl ⟨by rfl, fun w' hb => ?_⟩) ?_
  rotate_left
  · have kf := KF w' hb
    go_simp
    with_reducible rfl
  simp only [Act.put, List.setIfInBounds_toArray, List.set_cons_zero, List.set_cons_succ]
  refine seq_take 19 (v := ?_) rfl (by kernel_rfl) (fun _ _ _ h => h) (Or.inl ⟨by rfl, fun w' hb => ?_⟩) ?_
  rotate_left
  · have kf := KF w' hb
    go_simp
    with_reducible rfl
  simp only [Act.put, List.setIfInBounds_toArray, List.set_cons_zero, List.set_cons_succ]
  refine seq_take 20 (v := ?_) rfl (by kernel_rfl) (fun _ _ _ h => h) (Or.inl ⟨by rfl, fun w' hb => ?_⟩) ?_
  rotate_left
  · have kf := KF w' hb
    go_simp
    with_reducible rfl
  simp only [Act.put, List.setIfInBounds_toArray, List.set_cons_zero, List.set_cons_succ]
  refine seq_take 21 (v := ?_) rfl (by kernel_rfl) (fun _ _ _ h => h) (Or.inl ⟨by rfl, fun w' hb => ?_⟩) ?_
  rotate_left
  · have kf := KF w' hb
    go_simp
    with_reducible rfl
  simp only [Act.put, List.setIfInBounds_toArray, List.set_cons_zero, List.set_cons_succ]
  refine seq_take 22 (v := ?_) rfl (by kernel_rfl) (fun _ _ _ h => h) (Or.inl ⟨by rfl, fun w' hb => ?_⟩) ?_
  rotate_left
  · have kf := KF w' hb
    go_simp
    with_reducible rfl
  simp only [Act.put, List.setIfInBounds_toArray, List.set_cons_zero, List.set_cons_succ]
  refine seq_take 23 (v := ?_) rfl (by kernel_rfl) (fun _ _ _ h => h) (Or.inl ⟨by rfl, fun w' hb => ?_⟩) ?_
  rotate_left
  · have kf := KF w' hb
    go_simp
    with_reducible rfl
  simp only [Act.put, List.setIfInBounds_toArray, List.set_cons_zero, List.set_cons_succ]
  refine seq_take 24 (v := ?_) rfl (by kernel_rfl) (fun _ _ _ h => h) (Or.inl ⟨by rfl, fun w' hb => ?_⟩) ?_
  rotate_left
  · have kf := KF w' hb
    go_simp
    with_reducible rfl
  simp only [Act.put, List.setIfInBounds_toArray, List.set_cons_zero, List.set_cons_succ]
  refine seq_end (by kernel_rfl) ?_
  obtain ⟨-, z0, z1, z2, z3, z4, z5, z6, z7, z8⟩ := KF w2 (Below.refl _ _)
  clear KF KF0
  have d1 : decide ((1 : Int) ≤ (t : Int)) = true := by simp; omega
  have d2 : decide ((t : Int) ≤ 2147483647) = false := by simp; omega
  go_wp2_with fail
  go_ret
  exact ⟨by rw [hM]; first | rfl | (simp; done) | (simp; omega), belT hB0 hb2⟩
set_option maxRecDepth 100000 in
set_option maxHeartbeats 8000000 in
theorem May8c (x : Nat) (p o : Int) (ab sb : Option Addr) (cb cs : Nat) (l : List UInt8) (u : List Nat) (n r t : Nat) (w : World) (ha : RB w ⟨8, x, p, o, l, u, n, r, t⟩ ab sb cb cs) (he : ⟨8, x, p, o, l, u, n, r, t⟩ = bareR ⟨8, x, p, o, l, u, n, r, t⟩) (hp0 : 0 ≤ p) (hp1 : p < 128) (hx1 : x ≤ 4000) (hr1 : r ≤ 4611686018427387904) (q1 : 1 ≤ t) (q2 : t ≤ 2147483647) :
    Calls Try.prog 16 #[rv 8 x p o ab l.length cb sb u.length cs n r t] w fun e w' => e = .returned (.bool (mayB ⟨8, x, p, o, l, u, n, r, t⟩)) ∧ Below w.heap.size w w' := by
  have HEq := Lib.hid he
  have hK : kindB ⟨8, x, p, o, l, u, n, r, t⟩ = true := by simp [kindB]; omega
  have hM : mayB ⟨8, x, p, o, l, u, n, r, t⟩ = true := by unfold mayB; rw [decide_eq_true he, hK]; simp [hp0, hp1, hx1, hr1]
  clear he hK
  have hd0 : decide (p < 0) = false := by simp; omega
  have hd1 : decide (128 ≤ p) = false := by simp; omega
  have hd2 : decide (4000 < (x : Int)) = false := by simp; omega
  have hd3 : decide (4611686018427387904 < (r : Int)) = false := by simp; omega
  go_enter Try.func16, Try.ntmps16
  go_wp2_with fail
  obtain ⟨W, hW⟩ : ∃ W, W = w.alloc (.cells #[.int .i64 8, .int .u64 x, .int .i64 p, .int .i64 o, .slice ab l.length cb, .slice sb u.length cs, .int .u64 n, .int .u64 r, .int .u64 t] 27) := ⟨_, rfl⟩
  have hB0 : Below w.heap.size w W := by rw [hW]; exact below_alloc _ _
  have hG : W.heap[w.heap.size]? = some (.cells #[.int .i64 8, .int .u64 x, .int .i64 p, .int .i64 o, .slice ab l.length cb, .slice sb u.length cs, .int .u64 n, .int .u64 r, .int .u64 t] 27 (0, 0)) := by rw [hW]; exact heap_alloc_new _ _
  have hsz : w.heap.size < W.heap.size := by rw [hW]; simp
  rw [← hW]
  have KF0 : ∀ w', Below W.heap.size W w' → (loadVar 27 ⟨w.heap.size, 0, none⟩).run Try.prog w' = .ok (rv 8 x p o ab l.length cb sb u.length cs n r t) w' ∧ w'.cell? ⟨w.heap.size, 0, none⟩ = some (.int .i64 8) ∧ w'.cell? ⟨w.heap.size, 1, none⟩ = some (.int .u64 x) ∧ w'.cell? ⟨w.heap.size, 2, none⟩ = some (.int .i64 p) ∧ w'.cell? ⟨w.heap.size, 3, none⟩ = some (.int .i64 o) ∧ w'.cell? ⟨w.heap.size, 4, none⟩ = some (.slice ab l.length cb) ∧ w'.cell? ⟨w.heap.size, 5, none⟩ = some (.slice sb u.length cs) ∧ w'.cell? ⟨w.heap.size, 6, none⟩ = some (.int .u64 n) ∧ w'.cell? ⟨w.heap.size, 7, none⟩ = some (.int .u64 r) ∧ w'.cell? ⟨w.heap.size, 8, none⟩ = some (.int .u64 t) := fun w' h => loads9 8 x p o ab sb cb cs l u n r t _ w' ((h.block _ hsz).trans hG)
  clear hW hG
  have KF : ∀ w', Below W.drew.heap.size W.drew w' → (loadVar 27 ⟨w.heap.size, 0, none⟩).run Try.prog w' = .ok (rv 8 x p o ab l.length cb sb u.length cs n r t) w' ∧ w'.cell? ⟨w.heap.size, 0, none⟩ = some (.int .i64 8) ∧ w'.cell? ⟨w.heap.size, 1, none⟩ = some (.int .u64 x) ∧ w'.cell? ⟨w.heap.size, 2, none⟩ = some (.int .i64 p) ∧ w'.cell? ⟨w.heap.size, 3, none⟩ = some (.int .i64 o) ∧ w'.cell? ⟨w.heap.size, 4, none⟩ = some (.slice ab l.length cb) ∧ w'.cell? ⟨w.heap.size, 5, none⟩ = some (.slice sb u.length cs) ∧ w'.cell? ⟨w.heap.size, 6, none⟩ = some (.int .u64 n) ∧ w'.cell? ⟨w.heap.size, 7, none⟩ = some (.int .u64 r) ∧ w'.cell? ⟨w.heap.size, 8, none⟩ = some (.int .u64 t) := fun w' h => KF0 w' (belT (Below.refl _ _).drew h)
  refine seq_start 25 [false, false, false, false, false, false, false, false, false, false, false, false, false, false, false, false, false, false, false, false, false, false, false, false, false] (by kernel_rfl) rfl rfl ?_
  refine seq_take 0 (v := ?_) rfl (by kernel_rfl) (fun _ _ _ h => h) (Or.inl ⟨by rfl, fun w' hb => ?_⟩) ?_
  rotate_left
  · have kf := KF w' hb
    go_simp
    with_reducible rfl
  simp only [Act.put, List.setIfInBounds_toArray, List.set_cons_zero, List.set_cons_succ]
  refine seq_take 1 (v := ?_) rfl (by kernel_rfl) (fun _ _ _ h => h) (Or.inl ⟨by rfl, fun w' hb => ?_⟩) ?_
  rotate_left
  · have kf := KF w' hb
    go_simp
    with_reducible rfl
  simp only [Act.put, List.setIfInBounds_toArray, List.set_cons_zero, List.set_cons_succ]
  refine seq_do 2 rfl (by kernel_rfl) (fun K hK => ?_)
  go_simp
  refine (bareAny 8 x p o ab sb cb cs l u n r t _ (ha.below (belT hB0 (Below.refl _ _).drew))).mono ?_
  rintro e w1 ⟨⟨k2, x2, p2, o2, ab2, sb2, cb2, cs2, l2, u2, n2, r2, t2, hR, rfl, hR2⟩, hb1⟩
  refine hK.out _ _ hb1 ?_
  clear hK K
  simp only [List.set_cons_zero, List.set_cons_succ]
  have hb1 := belT (Below.refl _ _).drew hb1
  replace KF : ∀ w', Below w1.heap.size w1 w' → (loadVar 27 ⟨w.heap.size, 0, none⟩).run Try.prog w' = .ok (rv 8 x p o ab l.length cb sb u.length cs n r t) w' ∧ w'.cell? ⟨w.heap.size, 0, none⟩ = some (.int .i64 8) ∧ w'.cell? ⟨w.heap.size, 1, none⟩ = some (.int .u64 x) ∧ w'.cell? ⟨w.heap.size, 2, none⟩ = some (.int .i64 p) ∧ w'.cell? ⟨w.heap.size, 3, none⟩ = some (.int .i64 o) ∧ w'.cell? ⟨w.heap.size, 4, none⟩ = some (.slice ab l.length cb) ∧ w'.cell? ⟨w.heap.size, 5, none⟩ = some (.slice sb u.length cs) ∧ w'.cell? ⟨w.heap.size, 6, none⟩ = some (.int .u64 n) ∧ w'.cell? ⟨w.heap.size, 7, none⟩ = some (.int .u64 r) ∧ w'.cell? ⟨w.heap.size, 8, none⟩ = some (.int .u64 t) := fun w' h => KF0 w' (belT hb1 h)
  refine seq_do 3 rfl (by kernel_rfl) (fun K hK => ?_)
  go_simp
  refine (SameF 8 x p o ab sb cb cs l u n r t k2 x2 p2 o2 ab2 sb2 cb2 cs2 l2 u2 n2 r2 t2 _ (ha.below (belT hB0 hb1)) hR2).mono ?_
  rw [← hR, decide_eq_true HEq.out]
  rintro e w2 ⟨rfl, hb2⟩
  refine hK.out _ _ hb2 ?_
  clear hK K
  simp only [List.set_cons_zero, List.set_cons_succ]
  have hb2 := belT hb1 hb2
  replace KF : ∀ w', Below w2.heap.size w2 w' → (loadVar 27 ⟨w.heap.size, 0, none⟩).run Try.prog w' = .ok (rv 8 x p o ab l.length cb sb u.length cs n r t) w' ∧ w'.cell? ⟨w.heap.size, 0, none⟩ = some (.int .i64 8) ∧ w'.cell? ⟨w.heap.size, 1, none⟩ = some (.int .u64 x) ∧ w'.cell? ⟨w.heap.size, 2, none⟩ = some (.int .i64 p) ∧ w'.cell? ⟨w.heap.size, 3, none⟩ = some (.int .i64 o) ∧ w'.cell? ⟨w.heap.size, 4, none⟩ = some (.slice ab l.length cb) ∧ w'.cell? ⟨w.heap.size, 5, none⟩ = some (.slice sb u.length cs) ∧ w'.cell? ⟨w.heap.size, 6, none⟩ = some (.int .u64 n) ∧ w'.cell? ⟨w.heap.size, 7, none⟩ = some (.int .u64 r) ∧ w'.cell? ⟨w.heap.size, 8, none⟩ = some (.int .u64 t) := fun w' h => KF0 w' (belT hb2 h)
  refine seq_take 4 (v := ?_) rfl (by kernel_rfl) (fun _ _ _ h => h) (Or.inl ⟨by rfl, fun w' hb => ?_⟩) ?_
  rotate_left
  · have kf := KF w' hb
    go_simp
    with_reducible rfl
  simp only [Act.put, List.setIfInBounds_toArray, List.set_cons_zero, List.set_cons_succ]
  refine seq_take 5 (v := ?_) rfl (by kernel_rfl) (fun _ _ _ h => h) (Or.inl ⟨by rfl, fun w' hb => ?_⟩) ?_
  rotate_left
  · have kf := KF w' hb
    go_simp
    with_reducible rfl
  simp only [Act.put, List.setIfInBounds_toArray, List.set_cons_zero, List.set_cons_succ]
  refine seq_take 6 (v := ?_) rfl (by kernel_rfl) (fun _ _ _ h => h) (Or.inl ⟨by rfl, fun w' hb => ?_⟩) ?_
  rotate_left
  · have kf := KF w' hb
    go_simp
    with_reducible rfl
  simp only [Act.put, List.setIfInBounds_toArray, List.set_cons_zero, List.set_cons_succ]
  refine seq_take 7 (v := ?_) rfl (by kernel_rfl) (fun _ _ _ h => h) (Or.inl ⟨by rfl, fun w' hb => ?_⟩) ?_
  rotate_left
  · have kf := KF w' hb
    go_simp
    with_reducible rfl
  simp only [Act.put, List.setIfInBounds_toArray, List.set_cons_zero, List.set_cons_succ]
  refine seq_take 8 (v := ?_) rfl (by kernel_rfl) (fun _ _ _ h => h) (Or.inl ⟨by rfl, fun w' hb => ?_⟩) ?_
  rotate_left
  · have kf := KF w' hb
    go_simp
    with_reducible rfl
  simp only [Act.put, List.setIfInBounds_toArray, List.set_cons_zero, List.set_cons_succ]
  refine seq_take 9 (v := ?_) rfl (by kernel_rfl) (fun _ _ _ h => h) (Or.inl ⟨by rfl, fun w' hb => ?_⟩) ?_
  rotate_left
  · have kf := KF w' hb
    go_simp
    with_reducible rfl
  simp only [Act.put, List.setIfInBounds_toArray, List.set_cons_zero, List.set_cons_succ]
  refine seq_take 10 (v := ?_) rfl (by kernel_rfl) (fun _ _ _ h => h) (Or.inl ⟨by rfl, fun w' hb => ?_⟩) ?_
  rotate_left
  · have kf := KF w' hb
    go_simp
    with_reducible rfl
  simp only [Act.put, List.setIfInBounds_toArray, List.set_cons_zero, List.set_cons_succ]
  refine seq_take 11 (v := ?_) rfl (by kernel_rfl) (fun _ _ _ h => h) (Or.inl ⟨by rfl, fun w' hb => ?_⟩) ?_
  rotate_left
  · have kf := KF w' hb
    go_simp
    with_reducible rfl
  simp only [Act.put, List.setIfInBounds_toArray, List.set_cons_zero, List.set_cons_succ]
  refine seq_take 12 (v := ?_) rfl (by kernel_rfl) (fun _ _ _ h => h) (Or.inl ⟨by rfl, fun w' hb => ?_⟩) ?_
  rotate_left
  · have kf := KF w' hb
    go_simp
    with_reducible rfl
  simp only [Act.put, List.setIfInBounds_toArray, List.set_cons_zero, List.set_cons_succ]
  refine seq_take 13 (v := ?_) rfl (by kernel_rfl) (fun _ _ _ h => h) (Or.inl ⟨by rfl, fun w' hb => ?_⟩) ?_
  rotate_left
  · have kf := KF w' hb
    go_simp
    with_reducible rfl
  simp only [Act.put, List.setIfInBounds_toArray, List.set_cons_zero, List.set_cons_succ]
  refine seq_take 14 (v := ?_) rfl (by kernel_rfl) (fun _ _ _ h => h) (Or.inl ⟨by rfl, fun w' hb => ?_⟩) ?_
  rotate_left
  · have kf := KF w' hb
    go_simp
    with_reducible rfl
  simp only [Act.put, List.setIfInBounds_toArray, List.set_cons_zero, List.set_cons_succ]
  refine seq_take 15 (v := ?_) rfl (by kernel_rfl) (fun _ _ _ h => h) (Or.inl ⟨by rfl, fun w' hb => ?_⟩) ?_
  rotate_left
  · have kf := KF w' hb
    go_simp
    with_reducible rfl
  simp only [Act.put, List.setIfInBounds_toArray, List.set_cons_zero, List.set_cons_succ]
  refine seq_take 16 (v := ?_) rfl (by kernel_rfl) (fun _ _ _ h => h) (Or.inl ⟨by rfl, fun w' hb => ?_⟩) ?_
  rotate_left
  · have kf := KF w' hb
    go_simp
    with_reducible rfl
  simp only [Act.put, List.setIfInBounds_toArray, List.set_cons_zero, List.set_cons_succ]
  refine seq_take 17 (v := ?_) rfl (by kernel_rfl) (fun _ _ _ h => h) (Or.inl ⟨by rfl, fun w' hb => ?_⟩) ?_
  rotate_left
  · have kf := KF w' hb
    go_simp
    with_reducible rfl
  simp only [Act.put, List.setIfInBounds_toArray, List.set_cons_zero, List.set_cons_succ]
  refine seq_take 18 (v := ?_) rfl (by kernel_rfl) (fun _ _ _ h => h) (Or.inl ⟨by rfl, fun w' hb => ?_⟩) ?_
  rotate_left
  · have kf := KF w' hb
    go_simp
    with_reducible rfl
  simp only [Act.put, List.setIfInBounds_toArray, List.set_cons_zero, List.set_cons_succ]
  refine seq_take 19 (v := ?_) rfl (by kernel_rfl) (fun _ _ _ h => h) (Or.inl ⟨by rfl, fun w' hb => ?_⟩) ?_
  rotate_left
  · have kf := KF w' hb
    go_simp
    with_reducible rfl
  simp only [Act.put, List.setIfInBounds_toArray, List.set_cons_zero, List.set_cons_succ]
  refine seq_take 20 (v := ?_) rfl (by kernel_rfl) (fun _ _ _ h => h) (Or.inl ⟨by rfl, fun w' hb => ?_⟩) ?_
  rotate_left
  · have kf := KF w' hb
    go_simp
    with_reducible rfl
  simp only [Act.put, List.setIfInBounds_toArray, List.set_cons_zero, List.set_cons_succ]
  refine seq_take 21 (v := ?_) rfl (by kernel_rfl) (fun _ _ _ h => h) (Or.inl ⟨by rfl, fun w' hb => ?_⟩) ?_
  rotate_left
  · have kf := KF w' hb
    go_simp
    with_reducible rfl
  simp only [Act.put, List.setIfInBounds_toArray, List.set_cons_zero, List.set_cons_succ]
  refine seq_take 22 (v := ?_) rfl (by kernel_rfl) (fun _ _ _ h => h) (Or.inl ⟨by rfl, fun w' hb => ?_⟩) ?_
  rotate_left
  · have kf := KF w' hb
    go_simp
    with_reducible rfl
  simp only [Act.put, List.setIfInBounds_toArray, List.set_cons_zero, List.set_cons_succ]
  refine seq_take 23 (v := ?_) rfl (by kernel_rfl) (fun _ _ _ h => h) (Or.inl ⟨by rfl, fun w' hb => ?_⟩) ?_
  rotate_left
  · have kf := KF w' hb
    go_simp
    with_reducible rfl
  simp only [Act.put, List.setIfInBounds_toArray, List.set_cons_zero, List.set_cons_succ]
  refine seq_take 24 (v := ?_) rfl (by kernel_rfl) (fun _ _ _ h => h) (Or.inl ⟨by rfl, fun w' hb => ?_⟩) ?_
  rotate_left
  · have kf := KF w' hb
    go_simp
    with_reducible rfl
  simp only [Act.put, List.setIfInBounds_toArray, List.set_cons_zero, List.set_cons_succ]
  refine seq_end (by kernel_rfl) ?_
  obtain ⟨-, z0, z1, z2, z3, z4, z5, z6, z7, z8⟩ := KF w2 (Below.refl _ _)
  clear KF KF0
  have d1 : decide ((1 : Int) ≤ (t : Int)) = true := by simp; omega
  have d2 : decide ((t : Int) ≤ 2147483647) = true := by simp; omega
  go_wp2_with fail
  go_ret
  exact ⟨by rw [hM]; first | rfl | (simp; done) | (simp; omega), belT hB0 hb2⟩
set_option maxRecDepth 100000 in
set_option maxHeartbeats 8000000 in
theorem May0 (k : Int) (x : Nat) (p o : Int) (ab sb : Option Addr) (cb cs : Nat) (l : List UInt8) (u : List Nat) (n r t : Nat) (w : World) (ha : RB w ⟨k, x, p, o, l, u, n, r, t⟩ ab sb cb cs) (he : ⟨k, x, p, o, l, u, n, r, t⟩ = bareR ⟨k, x, p, o, l, u, n, r, t⟩) (hp0 : 0 ≤ p) (hp1 : p < 128) (hx1 : x ≤ 4000) (hr1 : r ≤ 4611686018427387904) (hk : ¬ (1 ≤ k ∧ k ≤ 8)) :
    Calls Try.prog 16 #[rv k x p o ab l.length cb sb u.length cs n r t] w fun e w' => e = .returned (.bool (mayB ⟨k, x, p, o, l, u, n, r, t⟩)) ∧ Below w.heap.size w w' := by
  have HEq := Lib.hid he
  have hK : kindB ⟨k, x, p, o, l, u, n, r, t⟩ = false := by simp only [kindB]; rw [if_neg (by omega), if_neg (by omega), if_neg (by omega), if_neg (by omega), if_neg (by omega), if_neg (by omega), if_neg (by omega), if_neg (by omega)]
  have hM : mayB ⟨k, x, p, o, l, u, n, r, t⟩ = false := by unfold mayB; rw [decide_eq_true he, hK]; simp
  clear he hK
  have hd0 : decide (p < 0) = false := by simp; omega
  have hd1 : decide (128 ≤ p) = false := by simp; omega
  have hd2 : decide (4000 < (x : Int)) = false := by simp; omega
  have hd3 : decide (4611686018427387904 < (r : Int)) = false := by simp; omega
  go_enter Try.func16, Try.ntmps16
  go_wp2_with fail
  obtain ⟨W, hW⟩ : ∃ W, W = w.alloc (.cells #[.int .i64 k, .int .u64 x, .int .i64 p, .int .i64 o, .slice ab l.length cb, .slice sb u.length cs, .int .u64 n, .int .u64 r, .int .u64 t] 27) := ⟨_, rfl⟩
  have hB0 : Below w.heap.size w W := by rw [hW]; exact below_alloc _ _
  have hG : W.heap[w.heap.size]? = some (.cells #[.int .i64 k, .int .u64 x, .int .i64 p, .int .i64 o, .slice ab l.length cb, .slice sb u.length cs, .int .u64 n, .int .u64 r, .int .u64 t] 27 (0, 0)) := by rw [hW]; exact heap_alloc_new _ _
  have hsz : w.heap.size < W.heap.size := by rw [hW]; simp
  rw [← hW]
  have KF0 : ∀ w', Below W.heap.size W w' → (loadVar 27 ⟨w.heap.size, 0, none⟩).run Try.prog w' = .ok (rv k x p o ab l.length cb sb u.length cs n r t) w' ∧ w'.cell? ⟨w.heap.size, 0, none⟩ = some (.int .i64 k) ∧ w'.cell? ⟨w.heap.size, 1, none⟩ = some (.int .u64 x) ∧ w'.cell? ⟨w.heap.size, 2, none⟩ = some (.int .i64 p) ∧ w'.cell? ⟨w.heap.size, 3, none⟩ = some (.int .i64 o) ∧ w'.cell? ⟨w.heap.size, 4, none⟩ = some (.slice ab l.length cb) ∧ w'.cell? ⟨w.heap.size, 5, none⟩ = some (.slice sb u.length cs) ∧ w'.cell? ⟨w.heap.size, 6, none⟩ = some (.int .u64 n) ∧ w'.cell? ⟨w.heap.size, 7, none⟩ = some (.int .u64 r) ∧ w'.cell? ⟨w.heap.size, 8, none⟩ = some (.int .u64 t) := fun w' h => loads9 k x p o ab sb cb cs l u n r t _ w' ((h.block _ hsz).trans hG)
  clear hW hG
  have KF : ∀ w', Below W.drew.heap.size W.drew w' → (loadVar 27 ⟨w.heap.size, 0, none⟩).run Try.prog w' = .ok (rv k x p o ab l.length cb sb u.length cs n r t) w' ∧ w'.cell? ⟨w.heap.size, 0, none⟩ = some (.int .i64 k) ∧ w'.cell? ⟨w.heap.size, 1, none⟩ = some (.int .u64 x) ∧ w'.cell? ⟨w.heap.size, 2, none⟩ = some (.int .i64 p) ∧ w'.cell? ⟨w.heap.size, 3, none⟩ = some (.int .i64 o) ∧ w'.cell? ⟨w.heap.size, 4, none⟩ = some (.slice ab l.length cb) ∧ w'.cell? ⟨w.heap.size, 5, none⟩ = some (.slice sb u.length cs) ∧ w'.cell? ⟨w.heap.size, 6, none⟩ = some (.int .u64 n) ∧ w'.cell? ⟨w.heap.size, 7, none⟩ = some (.int .u64 r) ∧ w'.cell? ⟨w.heap.size, 8, none⟩ = some (.int .u64 t) := fun w' h => KF0 w' (belT (Below.refl _ _).drew h)
  refine seq_start 25 [false, false, false, false, false, false, false, false, false, false, false, false, false, false, false, false, false, false, false, false, false, false, false, false, false] (by kernel_rfl) rfl rfl ?_
  refine seq_take 0 (v := ?_) rfl (by kernel_rfl) (fun _ _ _ h => h) (Or.inl ⟨by rfl, fun w' hb => ?_⟩) ?_
  rotate_left
  · have kf := KF w' hb
    go_simp
    with_reducible rfl
  simp only [Act.put, List.setIfInBounds_toArray, List.set_cons_zero, List.set_cons_succ]
  refine seq_take 1 (v := ?_) rfl (by kernel_rfl) (fun _ _ _ h => h) (Or.inl ⟨by rfl, fun w' hb => ?_⟩) ?_
  rotate_left
  · have kf := KF w' hb
    go_simp
    with_reducible rfl
  simp only [Act.put, List.setIfInBounds_toArray, List.set_cons_zero, List.set_cons_succ]
  refine seq_do 2 rfl (by kernel_rfl) (fun K hK => ?_)
  go_simp
  refine (bareAny k x p o ab sb cb cs l u n r t _ (ha.below (belT hB0 (Below.refl _ _).drew))).mono ?_
  rintro e w1 ⟨⟨k2, x2, p2, o2, ab2, sb2, cb2, cs2, l2, u2, n2, r2, t2, hR, rfl, hR2⟩, hb1⟩
  refine hK.out _ _ hb1 ?_
  clear hK K
  simp only [List.set_cons_zero, List.set_cons_succ]
  have hb1 := belT (Below.refl _ _).drew hb1
  replace KF : ∀ w', Below w1.heap.size w1 w' → (loadVar 27 ⟨w.heap.size, 0, none⟩).run Try.prog w' = .ok (rv k x p o ab l.length cb sb u.length cs n r t) w' ∧ w'.cell? ⟨w.heap.size, 0, none⟩ = some (.int .i64 k) ∧ w'.cell? ⟨w.heap.size, 1, none⟩ = some (.int .u64 x) ∧ w'.cell? ⟨w.heap.size, 2, none⟩ = some (.int .i64 p) ∧ w'.cell? ⟨w.heap.size, 3, none⟩ = some (.int .i64 o) ∧ w'.cell? ⟨w.heap.size, 4, none⟩ = some (.slice ab l.length cb) ∧ w'.cell? ⟨w.heap.size, 5, none⟩ = some (.slice sb u.length cs) ∧ w'.cell? ⟨w.heap.size, 6, none⟩ = some (.int .u64 n) ∧ w'.cell? ⟨w.heap.size, 7, none⟩ = some (.int .u64 r) ∧ w'.cell? ⟨w.heap.size, 8, none⟩ = some (.int .u64 t) := fun w' h => KF0 w' (belT hb1 h)
  refine seq_do 3 rfl (by kernel_rfl) (fun K hK => ?_)
  go_simp
  refine (SameF k x p o ab sb cb cs l u n r t k2 x2 p2 o2 ab2 sb2 cb2 cs2 l2 u2 n2 r2 t2 _ (ha.below (belT hB0 hb1)) hR2).mono ?_
  rw [← hR, decide_eq_true HEq.out]
  rintro e w2 ⟨rfl, hb2⟩
  refine hK.out _ _ hb2 ?_
  clear hK K
  simp only [List.set_cons_zero, List.set_cons_succ]
  have hb2 := belT hb1 hb2
  replace KF : ∀ w', Below w2.heap.size w2 w' → (loadVar 27 ⟨w.heap.size, 0, none⟩).run Try.prog w' = .ok (rv k x p o ab l.length cb sb u.length cs n r t) w' ∧ w'.cell? ⟨w.heap.size, 0, none⟩ = some (.int .i64 k) ∧ w'.cell? ⟨w.heap.size, 1, none⟩ = some (.int .u64 x) ∧ w'.cell? ⟨w.heap.size, 2, none⟩ = some (.int .i64 p) ∧ w'.cell? ⟨w.heap.size, 3, none⟩ = some (.int .i64 o) ∧ w'.cell? ⟨w.heap.size, 4, none⟩ = some (.slice ab l.length cb) ∧ w'.cell? ⟨w.heap.size, 5, none⟩ = some (.slice sb u.length cs) ∧ w'.cell? ⟨w.heap.size, 6, none⟩ = some (.int .u64 n) ∧ w'.cell? ⟨w.heap.size, 7, none⟩ = some (.int .u64 r) ∧ w'.cell? ⟨w.heap.size, 8, none⟩ = some (.int .u64 t) := fun w' h => KF0 w' (belT hb2 h)
  refine seq_take 4 (v := ?_) rfl (by kernel_rfl) (fun _ _ _ h => h) (Or.inl ⟨by rfl, fun w' hb => ?_⟩) ?_
  rotate_left
  · have kf := KF w' hb
    go_simp
    with_reducible rfl
  simp only [Act.put, List.setIfInBounds_toArray, List.set_cons_zero, List.set_cons_succ]
  refine seq_take 5 (v := ?_) rfl (by kernel_rfl) (fun _ _ _ h => h) (Or.inl ⟨by rfl, fun w' hb => ?_⟩) ?_
  rotate_left
  · have kf := KF w' hb
    go_simp
    with_reducible rfl
  simp only [Act.put, List.setIfInBounds_toArray, List.set_cons_zero, List.set_cons_succ]
  refine seq_take 6 (v := ?_) rfl (by kernel_rfl) (fun _ _ _ h => h) (Or.inl ⟨by rfl, fun w' hb => ?_⟩) ?_
  rotate_left
  · have kf := KF w' hb
    go_simp
    with_reducible rfl
  simp only [Act.put, List.setIfInBounds_toArray, List.set_cons_zero, List.set_cons_succ]
  refine seq_take 7 (v := ?_) rfl (by kernel_rfl) (fun _ _ _ h => h) (Or.inl ⟨by rfl, fun w' hb => ?_⟩) ?_
  rotate_left
  · have kf := KF w' hb
    go_simp
    with_reducible rfl
  simp only [Act.put, List.setIfInBounds_toArray, List.set_cons_zero, List.set_cons_succ]
  refine seq_take 8 (v := ?_) rfl (by kernel_rfl) (fun _ _ _ h => h) (Or.inl ⟨by rfl, fun w' hb => ?_⟩) ?_
  rotate_left
  · have kf := KF w' hb
    go_simp
    with_reducible rfl
  simp only [Act.put, List.setIfInBounds_toArray, List.set_cons_zero, List.set_cons_succ]
  refine seq_take 9 (v := ?_) rfl (by kernel_rfl) (fun _ _ _ h => h) (Or.inl ⟨by rfl, fun w' hb => ?_⟩) ?_
  rotate_left
  · have kf := KF w' hb
    go_simp
    with_reducible rfl
  simp only [Act.put, List.setIfInBounds_toArray, List.set_cons_zero, List.set_cons_succ]
  refine seq_take 10 (v := ?_) rfl (by kernel_rfl) (fun _ _ _ h => h) (Or.inl ⟨by rfl, fun w' hb => ?_⟩) ?_
  rotate_left
  · have kf := KF w' hb
    go_simp
    with_reducible rfl
  simp only [Act.put, List.setIfInBounds_toArray, List.set_cons_zero, List.set_cons_succ]
  refine seq_take 11 (v := ?_) rfl (by kernel_rfl) (fun _ _ _ h => h) (Or.inl ⟨by rfl, fun w' hb => ?_⟩) ?_
  rotate_left
  · have kf := KF w' hb
    go_simp
    with_reducible rfl
  simp only [Act.put, List.setIfInBounds_toArray, List.set_cons_zero, List.set_cons_succ]
  refine seq_take 12 (v := ?_) rfl (by kernel_rfl) (fun _ _ _ h => h) (Or.inl ⟨by rfl, fun w' hb => ?_⟩) ?_
  rotate_left
  · have kf := KF w' hb
    go_simp
    with_reducible rfl
  simp only [Act.put, List.setIfInBounds_toArray, List.set_cons_zero, List.set_cons_succ]
  refine seq_take 13 (v := ?_) rfl (by kernel_rfl) (fun _ _ _ h => h) (Or.inl ⟨by rfl, fun w' hb => ?_⟩) ?_
  rotate_left
  · have kf := KF w' hb
    go_simp
    with_reducible rfl
  simp only [Act.put, List.setIfInBounds_toArray, List.set_cons_zero, List.set_cons_succ]
  refine seq_take 14 (v := ?_) rfl (by kernel_rfl) (fun _ _ _ h => h) (Or.inl ⟨by rfl, fun w' hb => ?_⟩) ?_
  rotate_left
  · have kf := KF w' hb
    go_simp
    with_reducible rfl
  simp only [Act.put, List.setIfInBounds_toArray, List.set_cons_zero, List.set_cons_succ]
  refine seq_take 15 (v := ?_) rfl (by kernel_rfl) (fun _ _ _ h => h) (Or.inl ⟨by rfl, fun w' hb => ?_⟩) ?_
  rotate_left
  · have kf := KF w' hb
    go_simp
    with_reducible rfl
  simp only [Act.put, List.setIfInBounds_toArray, List.set_cons_zero, List.set_cons_succ]
  refine seq_take 16 (v := ?_) rfl (by kernel_rfl) (fun _ _ _ h => h) (Or.inl ⟨by rfl, fun w' hb => ?_⟩) ?_
  rotate_left
  · have kf := KF w' hb
    go_simp
    with_reducible rfl
  simp only [Act.put, List.setIfInBounds_toArray, List.set_cons_zero, List.set_cons_succ]
  refine seq_take 17 (v := ?_) rfl (by kernel_rfl) (fun _ _ _ h => h) (Or.inl ⟨by rfl, fun w' hb => ?_⟩) ?_
  rotate_left
  · have kf := KF w' hb
    go_simp
    with_reducible rfl
  simp only [Act.put, List.setIfInBounds_toArray, List.set_cons_zero, List.set_cons_succ]
  refine seq_take 18 (v := ?_) rfl (by kernel_rfl) (fun _ _ _ h => h) (Or.inl ⟨by rfl, fun w' hb => ?_⟩) ?_
  rotate_left
  · have kf := KF w' hb
    go_simp
    with_reducible rfl
  simp only [Act.put, List.setIfInBounds_toArray, List.set_cons_zero, List.set_cons_succ]
  refine seq_take 19 (v := ?_) rfl (by kernel_rfl) (fun _ _ _ h => h) (Or.inl ⟨by rfl, fun w' hb => ?_⟩) ?_
  rotate_left
  · have kf := KF w' hb
    go_simp
    with_reducible rfl
  simp only [Act.put, List.setIfInBounds_toArray, List.set_cons_zero, List.set_cons_succ]
  refine seq_take 20 (v := ?_) rfl (by kernel_rfl) (fun _ _ _ h => h) (Or.inl ⟨by rfl, fun w' hb => ?_⟩) ?_
  rotate_left
  · have kf := KF w' hb
    go_simp
    with_reducible rfl
  simp only [Act.put, List.setIfInBounds_toArray, List.set_cons_zero, List.set_cons_succ]
  refine seq_take 21 (v := ?_) rfl (by kernel_rfl) (fun _ _ _ h => h) (Or.inl ⟨by rfl, fun w' hb => ?_⟩) ?_
  rotate_left
  · have kf := KF w' hb
    go_simp
    with_reducible rfl
  simp only [Act.put, List.setIfInBounds_toArray, List.set_cons_zero, List.set_cons_succ]
  refine seq_take 22 (v := ?_) rfl (by kernel_rfl) (fun _ _ _ h => h) (Or.inl ⟨by rfl, fun w' hb => ?_⟩) ?_
  rotate_left
  · have kf := KF w' hb
    go_simp
    with_reducible rfl
  simp only [Act.put, List.setIfInBounds_toArray, List.set_cons_zero, List.set_cons_succ]
  refine seq_take 23 (v := ?_) rfl (by kernel_rfl) (fun _ _ _ h => h) (Or.inl ⟨by rfl, fun w' hb => ?_⟩) ?_
  rotate_left
  · have kf := KF w' hb
    go_simp
    with_reducible rfl
  simp only [Act.put, List.setIfInBounds_toArray, List.set_cons_zero, List.set_cons_succ]
  refine seq_take 24 (v := ?_) rfl (by kernel_rfl) (fun _ _ _ h => h) (Or.inl ⟨by rfl, fun w' hb => ?_⟩) ?_
  rotate_left
  · have kf := KF w' hb
    go_simp
    with_reducible rfl
  simp only [Act.put, List.setIfInBounds_toArray, List.set_cons_zero, List.set_cons_succ]
  refine seq_end (by kernel_rfl) ?_
  obtain ⟨-, z0, z1, z2, z3, z4, z5, z6, z7, z8⟩ := KF w2 (Below.refl _ _)
  clear KF KF0
  have k1 : (k == 1) = false := by simp; omega
  have k2 : (k == 2) = false := by simp; omega
  have k3 : (k == 3) = false := by simp; omega
  have k4 : (k == 4) = false := by simp; omega
  have k5 : (k == 5) = false := by simp; omega
  have k6 : (k == 6) = false := by simp; omega
  have k7 : (k == 7) = false := by simp; omega
  have k8 : (k == 8) = false := by simp; omega
  go_wp2_with fail
  go_ret
  exact ⟨by rw [hM]; rfl, belT hB0 hb2⟩
theorem MayF (k : Int) (x : Nat) (p o : Int) (ab sb : Option Addr) (cb cs : Nat) (l : List UInt8) (u : List Nat) (n r t : Nat) (w : World) (ha : RB w ⟨k, x, p, o, l, u, n, r, t⟩ ab sb cb cs) :
    Calls Try.prog 16 #[rv k x p o ab l.length cb sb u.length cs n r t] w fun e w' => e = .returned (.bool (mayB ⟨k, x, p, o, l, u, n, r, t⟩)) ∧ Below w.heap.size w w' := by
  by_cases he : ⟨k, x, p, o, l, u, n, r, t⟩ = bareR ⟨k, x, p, o, l, u, n, r, t⟩
  case neg => exact MayA k x p o ab sb cb cs l u n r t w ha he
  by_cases hp0 : 0 ≤ p
  case neg => exact MayB0 k x p o ab sb cb cs l u n r t w ha he hp0
  by_cases hp1 : p < 128
  case neg => exact MayB1 k x p o ab sb cb cs l u n r t w ha he hp0 hp1
  by_cases hx1 : x ≤ 4000
  case neg => exact MayB2 k x p o ab sb cb cs l u n r t w ha he hp0 hp1 hx1
  by_cases hr1 : r ≤ 4611686018427387904
  case neg => exact MayB3 k x p o ab sb cb cs l u n r t w ha he hp0 hp1 hx1 hr1
  by_cases hk : 1 ≤ k ∧ k ≤ 8
  case neg => exact May0 k x p o ab sb cb cs l u n r t w ha he hp0 hp1 hx1 hr1 hk
  obtain rfl | rfl | rfl | rfl | rfl | rfl | rfl | rfl : k = 1 ∨ k = 2 ∨ k = 3 ∨ k = 4 ∨ k = 5 ∨ k = 6 ∨ k = 7 ∨ k = 8 := by omega
  · by_cases q1 : 12 ≤ o
    case neg => exact May1a x p o ab sb cb cs l u n r t w ha he hp0 hp1 hx1 hr1 q1
    by_cases q2 : 1 ≤ l.length
    case neg => exact May1b x p o ab sb cb cs l u n r t w ha he hp0 hp1 hx1 hr1 q1 q2
    by_cases q3 : l.length ≤ 1024
    case neg => exact May1c x p o ab sb cb cs l u n r t w ha he hp0 hp1 hx1 hr1 q1 q2 q3
    by_cases q4 : o ≤ 1024 - (l.length : Int)
    case neg => exact May1d x p o ab sb cb cs l u n r t w ha he hp0 hp1 hx1 hr1 q1 q2 q3 q4
    exact May1e x p o ab sb cb cs l u n r t w ha he hp0 hp1 hx1 hr1 q1 q2 q3 q4
  · by_cases q1 : l.length = 1024
    case neg => exact May2a x p o ab sb cb cs l u n r t w ha he hp0 hp1 hx1 hr1 q1
    exact May2b x p o ab sb cb cs l u n r t w ha he hp0 hp1 hx1 hr1 q1
  · by_cases q1 : 1 ≤ x
    case neg => exact May3a x p o ab sb cb cs l u n r t w ha he hp0 hp1 hx1 hr1 q1
    exact May3b x p o ab sb cb cs l u n r t w ha he hp0 hp1 hx1 hr1 q1
  · by_cases q1 : 1 ≤ x
    case neg => exact May4a x p o ab sb cb cs l u n r t w ha he hp0 hp1 hx1 hr1 q1
    exact May4b x p o ab sb cb cs l u n r t w ha he hp0 hp1 hx1 hr1 q1
  · exact May5 x p o ab sb cb cs l u n r t w ha he hp0 hp1 hx1 hr1
  · by_cases q1 : 1 ≤ n
    case neg => exact May6a x p o ab sb cb cs l u n r t w ha he hp0 hp1 hx1 hr1 q1
    by_cases q2 : n ≤ 4001
    case neg => exact May6b x p o ab sb cb cs l u n r t w ha he hp0 hp1 hx1 hr1 q1 q2
    exact May6c x p o ab sb cb cs l u n r t w ha he hp0 hp1 hx1 hr1 q1 q2
  · by_cases q1 : 1 ≤ n
    case neg => exact May7a x p o ab sb cb cs l u n r t w ha he hp0 hp1 hx1 hr1 q1
    by_cases q2 : n ≤ 4001
    case neg => exact May7b x p o ab sb cb cs l u n r t w ha he hp0 hp1 hx1 hr1 q1 q2
    exact May7c x p o ab sb cb cs l u n r t w ha he hp0 hp1 hx1 hr1 q1 q2
  · by_cases q1 : 1 ≤ t
    case neg => exact May8a x p o ab sb cb cs l u n r t w ha he hp0 hp1 hx1 hr1 q1
    by_cases q2 : t ≤ 2147483647
    case neg => exact May8b x p o ab sb cb cs l u n r t w ha he hp0 hp1 hx1 hr1 q1 q2
    exact May8c x p o ab sb cb cs l u n r t w ha he hp0 hp1 hx1 hr1 q1 q2
end Go.Proofs.Ytokijkinlcdjeaa

/- The reference's Tell; Of, Copy, members. -/
import Derived.Test.YtbpajfjeakffkaaQZ
namespace Go.Proofs.Ytbpajfjeakffkaa
open Go.RowKit Go.Sort Go.Shelf
attribute [local go_sem] Oper.semAt_some

set_option maxRecDepth 10000 in
set_option maxHeartbeats 3200000 in
theorem rtell16 (rb : Nat) (s : List Pl) (f : List Bool) (n : Int) (p : Pl) (w : World) (h : RM w rb s f) :
    Calls Try.prog 16 #[.pointer (some ⟨rb, 0, none⟩), .int .i64 n, pv p] w fun e w' => Off rb w w' ∧
      ((¬ (1 ≤ n ∧ n ≤ 5 ∧ f.getD (n - 1).toNat false = true) ∧ e = .returned (.tuple #[.bool false, .int .i64 2]) ∧ RM w' rb s f) ∨
       ((1 ≤ n ∧ n ≤ 5 ∧ f.getD (n - 1).toNat false = true) ∧ ((uptoP p (s.getD (n - 1).toNat (0, 0)) = true ∧ e = .returned (.tuple #[.bool false, .int .i64 0]) ∧ RM w' rb s f) ∨
         (uptoP p (s.getD (n - 1).toNat (0, 0)) = false ∧ e = .returned (.tuple #[.bool true, .int .i64 0]) ∧ RM w' rb (s.set (n - 1).toNat p) f)))) := by
  have hrl := h.lt
  have hB0 : RowKit.Below w.heap.size w (w.alloc (.cells #[.int .u64 (p.1 : Int), .int .u64 (p.2 : Int)] 26)) := (RowKit.Below.refl _ _).alloc (Nat.le_refl _) _
  have hz0 : (w.alloc (.cells #[.int .u64 (p.1 : Int), .int .u64 (p.2 : Int)] 26)).heap[w.heap.size]? = some (.cells #[.int .u64 (p.1 : Int), .int .u64 (p.2 : Int)] 26 (0, 0)) := heap_alloc_new _ _
  have hO0 := Off.of_below (mb := rb) hB0 (by omega)
  have hR0 := h.below hB0
  by_cases h1 : n < 1
  · have d1 : decide (n < 1) = true := decide_eq_true h1
    have HN : Hid (¬ (1 ≤ n ∧ n ≤ 5 ∧ f.getD (n - 1).toNat false = true)) := fun hc => by omega
    clear h1 h
    go_enter Try.func16, Try.ntmps16
    go_wp2_with fail
    go_ret2
    exact ⟨hO0, .inl ⟨HN.out, rfl, hR0⟩⟩
  have d1 : decide (n < 1) = false := decide_eq_false h1
  by_cases h2 : 5 < n
  · have d2 : decide (5 < n) = true := decide_eq_true h2
    have HN : Hid (¬ (1 ≤ n ∧ n ≤ 5 ∧ f.getD (n - 1).toNat false = true)) := fun hc => by omega
    clear h1 h2 h
    go_enter Try.func16, Try.ntmps16
    go_wp2_with fail
    go_ret2
    exact ⟨hO0, .inl ⟨HN.out, rfl, hR0⟩⟩
  have d2 : decide (5 < n) = false := decide_eq_false h2
  obtain ⟨m, rfl⟩ : ∃ m : Nat, n = (m : Int) + 1 := ⟨(n - 1).toNat, by omega⟩
  have hm5 : m < 5 := by omega
  have hmi : (m : Int) < 5 := by omega
  rw [show ((m : Int) + 1 - 1).toNat = m by omega]
  have hwm : IntKind.i64.wrap (m : Int) = (m : Int) := by unfold IntKind.wrap; simp [IntKind.signed, IntKind.bits]; omega
  have hfl : m < f.length := by rw [h.lf]; exact hm5
  have hsl : m < s.length := by rw [h.ls]; exact hm5
  have hcf := hR0.flag m hfl
  have hgd : f.getD m false = f[m] := by simp [hfl]
  rw [hgd]
  have HC : Hid (1 ≤ (m : Int) + 1 ∧ (m : Int) + 1 ≤ 5) := ⟨by omega, by omega⟩
  clear h1 h2 h hgd hB0
  obtain ⟨z, hz⟩ : ∃ z, f[m] = z := ⟨_, rfl⟩
  rw [hz] at hcf ⊢
  clear hz
  cases z
  · have HR := Lib.hid hR0
    have HO := Lib.hid hO0
    clear hz0 hR0 hO0
    go_enter Try.func16, Try.ntmps16
    go_wp2_with fail
    go_ret2
    exact ⟨HO.out, .inl ⟨(by rintro ⟨_, _, hc⟩; cases hc), rfl, HR.out⟩⟩
  · rw [getD_at s m hsl]
    have hc12 := hR0.place m hsl
    obtain ⟨y, hy⟩ : ∃ y, s[m] = y := ⟨_, rfl⟩
    rw [hy] at hc12 ⊢
    clear hy
    have HR := Lib.hid hR0
    have HO := Lib.hid hO0
    have PU := Lib.hid (fun w => upto26 p y w)
    have HZ := Lib.hid hz0
    have HC12 := Lib.hid hc12
    clear hz0 hR0 hO0 hc12
    go_enter Try.func16, Try.ntmps16
    go_wp2_with fail
    obtain ⟨W, hW⟩ : ∃ W, w.alloc (.cells #[.int .u64 (p.1 : Int), .int .u64 (p.2 : Int)] 26) = W := ⟨_, rfl⟩
    rw [hW] at HZ HC12 HR HO ⊢
    clear hW hcf
    have KF : ∀ w', Gr W.drew w' → (w'.cell? ⟨w.heap.size, 0, none⟩ = some (.int .u64 (p.1 : Int)) ∧ w'.cell? ⟨w.heap.size, 1, none⟩ = some (.int .u64 (p.2 : Int))) ∧ (w'.cell? ⟨rb, m * 2, none⟩ = some (.int .u64 (y.1 : Int)) ∧ w'.cell? ⟨rb, m * 2 + 1, none⟩ = some (.int .u64 (y.2 : Int))) ∧ (m : Int) < 5 ∧ IntKind.i64.wrap (m : Int) = (m : Int) := fun w' hg => by
      have hb : RowKit.Below W.heap.size W w' := ((Gr.refl W).drew.trans hg).below
      have e1 : w'.heap[w.heap.size]? = _ := (hb.block _ (Array.getElem?_eq_some_iff.1 HZ.out).1).trans HZ.out
      exact ⟨⟨cell_of_row _ _ _ _ _ _ e1, cell_of_row _ _ _ _ _ _ e1⟩, ⟨Below.cellSome hb HC12.out.1, Below.cellSome hb HC12.out.2⟩, hmi, hwm⟩
    refine seqS_start (Gr W.drew) 9 [false, false, false, false, false, false, false, false, false] (by kernel_rfl) rfl rfl (Gr.refl _) ?_
    refine seqS_take 0 (v := ?_) rfl (by kernel_rfl) (fun _ _ _ h => h) (Or.inl ⟨by rfl, fun w' hb => ?_⟩) ?_
    rotate_left
    · have kf := KF w' hb
      go_simp
      with_reducible rfl
    simp only [Act.put, List.setIfInBounds_toArray, List.set_cons_zero, List.set_cons_succ]
    refine seqS_take 1 (v := ?_) rfl (by kernel_rfl) (fun _ _ _ h => h) (Or.inl ⟨by rfl, fun w' hb => ?_⟩) ?_
    rotate_left
    · have kf := KF w' hb
      go_simp
      with_reducible rfl
    simp only [Act.put, List.setIfInBounds_toArray, List.set_cons_zero, List.set_cons_succ]
    refine seqS_take 2 (v := ?_) rfl (by kernel_rfl) (fun _ _ _ h => h) (Or.inl ⟨by rfl, fun w' hb => ?_⟩) ?_
    rotate_left
    · have kf := KF w' hb
      go_simp
      with_reducible rfl
    simp only [Act.put, List.setIfInBounds_toArray, List.set_cons_zero, List.set_cons_succ]
    refine seqS_take 3 (v := ?_) rfl (by kernel_rfl) (fun _ _ _ h => h) (Or.inl ⟨by rfl, fun w' hb => ?_⟩) ?_
    rotate_left
    · have kf := KF w' hb
      go_simp
      with_reducible rfl
    simp only [Act.put, List.setIfInBounds_toArray, List.set_cons_zero, List.set_cons_succ]
    refine seqS_take 4 (v := ?_) rfl (by kernel_rfl) (fun _ _ _ h => h) (Or.inl ⟨by rfl, fun w' hb => ?_⟩) ?_
    rotate_left
    · have kf := KF w' hb
      go_simp
      with_reducible rfl
    simp only [Act.put, List.setIfInBounds_toArray, List.set_cons_zero, List.set_cons_succ]
    refine seqS_take 5 (v := ?_) rfl (by kernel_rfl) (fun _ _ _ h => h) (Or.inl ⟨by rfl, fun w' hb => ?_⟩) ?_
    rotate_left
    · have kf := KF w' hb
      go_simp
      with_reducible rfl
    simp only [Act.put, List.setIfInBounds_toArray, List.set_cons_zero, List.set_cons_succ]
    refine seqS_take 6 (v := ?_) rfl (by kernel_rfl) (fun _ _ _ h => h) (Or.inl ⟨by rfl, fun w' hb => ?_⟩) ?_
    rotate_left
    · have kf := KF w' hb
      go_simp
      with_reducible rfl
    simp only [Act.put, List.setIfInBounds_toArray, List.set_cons_zero, List.set_cons_succ]
    refine seqS_take 7 (v := ?_) rfl (by kernel_rfl) (fun _ _ _ h => h) (Or.inl ⟨by rfl, fun w' hb => ?_⟩) ?_
    rotate_left
    · have kf := KF w' hb
      go_simp
      with_reducible rfl
    simp only [Act.put, List.setIfInBounds_toArray, List.set_cons_zero, List.set_cons_succ]
    refine seqS_do 8 rfl (by kernel_rfl) (fun K hK => ?_)
    go_simp
    refine (PU.out _).mono ?_
    rintro e w3 ⟨rfl, hg3⟩
    refine hK.out (Gr W.drew) _ _ (fun _ h => h) hg3 ?_
    clear hK K
    simp only [List.set_cons_zero, List.set_cons_succ]
    refine seqS_end (by kernel_rfl) (fun hEnd => ?_)
    clear KF hEnd
    have hG3 : Gr W w3 := (Gr.refl W).drew.trans hg3
    have HO3 := Lib.hid (HO.out.trans (Off.of_below hG3.below (by have := HR.out.lt; omega)))
    have HR3 := Lib.hid (HR.out.below hG3.below)
    have hz3 : w3.heap[w.heap.size]? = _ := (hG3.below.block _ (Array.getElem?_eq_some_iff.1 HZ.out).1).trans HZ.out
    have HZ3 := Lib.hid hz3
    clear hz3 HZ HC12 PU hG3 HR HO hg3
    cases hu : uptoP p y
    · have HU := Lib.hid hu
      clear hu
      have hR3 := HR3.out.kept (w' := w3.drew) rfl
      have hth := hR3.there m hm5
      have KF : ∀ w', Off rb w3.drew w' → (w'.cell? ⟨w.heap.size, 0, none⟩ = some (.int .u64 (p.1 : Int)) ∧ w'.cell? ⟨w.heap.size, 1, none⟩ = some (.int .u64 (p.2 : Int))) ∧ (m : Int) < 5 ∧ IntKind.i64.wrap (m : Int) = (m : Int) := fun w' ho => by
        have e1 : w'.heap[w.heap.size]? = _ := (ho.2 _ (Array.getElem?_eq_some_iff.1 HZ3.out).1 (by omega)).trans HZ3.out
        exact ⟨⟨cell_of_row _ _ _ _ _ _ e1, cell_of_row _ _ _ _ _ _ e1⟩, hmi, hwm⟩
      go_wp2_with fail
      refine seqS_start (Off rb w3.drew) 8 [false, false, false, false, false, false, false, false] (by kernel_rfl) rfl rfl (Off.refl _ _) ?_
      refine seqS_take 0 (v := ?_) rfl (by kernel_rfl) (fun _ _ _ h => h) (Or.inl ⟨by rfl, fun w' hb => ?_⟩) ?_
      rotate_left
      · have kf := KF w' hb
        go_simp
        with_reducible rfl
      simp only [Act.put, List.setIfInBounds_toArray, List.set_cons_zero, List.set_cons_succ]
      refine seqS_take 1 (v := ?_) rfl (by kernel_rfl) (fun _ _ _ h => h) (Or.inl ⟨by rfl, fun w' hb => ?_⟩) ?_
      rotate_left
      · have kf := KF w' hb
        go_simp
        with_reducible rfl
      simp only [Act.put, List.setIfInBounds_toArray, List.set_cons_zero, List.set_cons_succ]
      refine seqS_take 2 (v := ?_) rfl (by kernel_rfl) (fun _ _ _ h => h) (Or.inl ⟨by rfl, fun w' hb => ?_⟩) ?_
      rotate_left
      · have kf := KF w' hb
        go_simp
        with_reducible rfl
      simp only [Act.put, List.setIfInBounds_toArray, List.set_cons_zero, List.set_cons_succ]
      refine seqS_take 3 (v := ?_) rfl (by kernel_rfl) (fun _ _ _ h => h) (Or.inl ⟨by rfl, fun w' hb => ?_⟩) ?_
      rotate_left
      · have kf := KF w' hb
        go_simp
        with_reducible rfl
      simp only [Act.put, List.setIfInBounds_toArray, List.set_cons_zero, List.set_cons_succ]
      refine seqS_take 4 (v := ?_) rfl (by kernel_rfl) (fun _ _ _ h => h) (Or.inl ⟨by rfl, fun w' hb => ?_⟩) ?_
      rotate_left
      · have kf := KF w' hb
        go_simp
        with_reducible rfl
      simp only [Act.put, List.setIfInBounds_toArray, List.set_cons_zero, List.set_cons_succ]
      refine seqS_take 5 (v := ?_) rfl (by kernel_rfl) (fun _ _ _ h => h) (Or.inl ⟨by rfl, fun w' hb => ?_⟩) ?_
      rotate_left
      · have kf := KF w' hb
        go_simp
        with_reducible rfl
      simp only [Act.put, List.setIfInBounds_toArray, List.set_cons_zero, List.set_cons_succ]
      refine seqS_take 6 (v := ?_) rfl (by kernel_rfl) (fun _ _ _ h => h) (Or.inl ⟨by rfl, fun w' hb => ?_⟩) ?_
      rotate_left
      · have kf := KF w' hb
        go_simp
        with_reducible rfl
      simp only [Act.put, List.setIfInBounds_toArray, List.set_cons_zero, List.set_cons_succ]
      refine seqS_do 7 rfl (by kernel_rfl) (fun K hK => ?_)
      refine wp_store_mid 26 (.tmp 39) (.tmp 36) rfl rb (m * 2) #[.int .u64 (p.1 : Int), .int .u64 (p.2 : Int)] rfl rfl hth (by rw [info26]; rfl) (two_one _ _) ?_
      refine hK.out (Off rb w3.drew) _ _ (fun _ h => h) (off_set2 w3.drew rb (m * 2) _ _) ?_
      clear hK K
      simp only [List.set_cons_zero, List.set_cons_succ]
      refine seqS_end (by kernel_rfl) (fun hEnd => ?_)
      clear KF hEnd
      go_wp2_with fail
      go_ret2
      exact ⟨(HO3.out.trans (b := w3) (Off.of_below (w' := w3.drew) (Gr.refl w3).drew.below (by have := HR3.out.lt; omega))).trans (off_set2 w3.drew rb (m * 2) _ _), .inr ⟨⟨HC.out.1, HC.out.2, (by first | rfl | trivial | exact HU.out)⟩, .inr ⟨(by first | rfl | trivial | exact HU.out), rfl, hR3.setPlace m hm5 p⟩⟩⟩
    · have HU := Lib.hid hu
      clear hu
      go_wp2_with fail
      go_ret2
      exact ⟨HO3.out, .inr ⟨⟨HC.out.1, HC.out.2, (by first | rfl | trivial | exact HU.out)⟩, .inl ⟨(by first | rfl | trivial | exact HU.out), rfl, HR3.out⟩⟩⟩

end Go.Proofs.Ytbpajfjeakffkaa

/- QuorumPlaces: its walk. -/
import Derived.Test.YtbpajfjeakffkaaQO
import Derived.OwnWalk
namespace Go.Proofs.Ytbpajfjeakffkaa
open Go.RowKit Go.Sort Go.Shelf

theorem optV_form (o : Option Pl) : ∃ (q : Pl) (z : Bool), optV o = .tuple #[.agg #[.int .u64 (q.1 : Int), .int .u64 (q.2 : Int)], .bool z] := by
  cases o with
  | none => exact ⟨(0, 0), false, rfl⟩
  | some q => exact ⟨q, true, rfl⟩
theorem neq26 (a b : Pl) (w : World) : (binOp .neq 26 (.agg #[.int .u64 (a.1 : Int), .int .u64 (a.2 : Int)]) (.agg #[.int .u64 (b.1 : Int), .int .u64 (b.2 : Int)])).run Try.prog w = .ok (.bool (!decide (a = b))) w := by
  obtain ⟨a1, a2⟩ := a
  obtain ⟨b1, b2⟩ := b
  by_cases h1 : a1 = b1
  · by_cases h2 : a2 = b2
    · have e : decide ((a1, a2) = (b1, b2)) = true := decide_eq_true (by rw [h1, h2])
      rw [e]; subst h1 h2
      go_simp
    · have e : decide ((a1, a2) = (b1, b2)) = false := decide_eq_false (by rintro ⟨⟩; exact h2 rfl)
      rw [e]
      have h2' : ((a2 : Int) == (b2 : Int)) = false := by simp; omega
      subst h1
      go_simp
  · have e : decide ((a1, a2) = (b1, b2)) = false := decide_eq_false (by rintro ⟨⟩; exact h1 rfl)
    rw [e]
    have h1' : ((a1 : Int) == (b1 : Int)) = false := by simp; omega
    go_simp

set_option maxRecDepth 10000 in
set_option maxHeartbeats 12800000 in
theorem places5 (kk : Int) (a1 : Option Addr) (c1 : Nat) (l : List Pl) (pa pb : Pl) (w : World) (h : Ps w a1 l) (hn : a1 = none → c1 = 0) (hl : l.length ≤ 9223372036854775807) :
    Calls Try.prog 5 #[.int .i64 kk, .slice a1 l.length c1, pv pa, pv pb] w fun e w' => e = .returned (.bool true) ∧ RowKit.Below w.heap.size w w' := by
  go_enter Try.func5, Try.ntmps5
  by_cases hbig : 300 < l.length
  · have d1 : decide (300 < (l.length : Int)) = true := decide_eq_true (by omega)
    go_wp2_with fail
    have hB : RowKit.Below w.heap.size w ((w.alloc (.cells #[.int .u64 (pa.1 : Int), .int .u64 (pa.2 : Int)] 26)).alloc (.cells #[.int .u64 (pb.1 : Int), .int .u64 (pb.2 : Int)] 26)) := ((Gr.refl w).alloc _).alloc _ |>.below
    refine (known8 _).mono ?_
    rintro e w1 ⟨rfl, hb1⟩
    go_wp2_with fail
    go_ret
    exact ⟨rfl, belT hB hb1⟩
  have d1 : decide (300 < (l.length : Int)) = false := decide_eq_false (by omega)
  have hl3 : l.length ≤ 300 := by omega
  clear hbig hl
  have hGA : Gr w ((w.alloc (.cells #[.int .u64 (pa.1 : Int), .int .u64 (pa.2 : Int)] 26)).alloc (.cells #[.int .u64 (pb.1 : Int), .int .u64 (pb.2 : Int)] 26)) := ((Gr.refl w).alloc _).alloc _
  have hza : ((w.alloc (.cells #[.int .u64 (pa.1 : Int), .int .u64 (pa.2 : Int)] 26)).alloc (.cells #[.int .u64 (pb.1 : Int), .int .u64 (pb.2 : Int)] 26)).heap[w.heap.size]? = some (.cells #[.int .u64 (pa.1 : Int), .int .u64 (pa.2 : Int)] 26 (0, 0)) := (heap_alloc_old _ _ (by simp)).trans (heap_alloc_new _ _)
  have hzb : ((w.alloc (.cells #[.int .u64 (pa.1 : Int), .int .u64 (pa.2 : Int)] 26)).alloc (.cells #[.int .u64 (pb.1 : Int), .int .u64 (pb.2 : Int)] 26)).heap[w.heap.size + 1]? = some (.cells #[.int .u64 (pb.1 : Int), .int .u64 (pb.2 : Int)] 26 (0, 0)) := by
    have := heap_alloc_new (w.alloc (.cells #[.int .u64 (pa.1 : Int), .int .u64 (pa.2 : Int)] 26)) (.cells #[.int .u64 (pb.1 : Int), .int .u64 (pb.2 : Int)] 26)
    simpa using this
  obtain ⟨W, hW⟩ : ∃ W, W = (w.alloc (.cells #[.int .u64 (pa.1 : Int), .int .u64 (pa.2 : Int)] 26)).alloc (.cells #[.int .u64 (pb.1 : Int), .int .u64 (pb.2 : Int)] 26) := ⟨_, rfl⟩
  rw [← hW] at hGA hza hzb
  have hpsW := h.below hGA.below
  have HA := Lib.hid hza
  have HB := Lib.hid hzb
  clear hza hzb h
  go_wp2_with (at_builtin; go_loud (refine wpList_append_p rfl _ _ rfl W.heap.size (.slice none 0 0) [] rfl (OwnP.nil _ _) a1 l l.length c1 rfl rfl (by rw [← hW]; exact hpsW) hn (by simp; omega) (by rw [← hW]; exact Nat.le_refl _) ?_); intro v1 w1 hown hg1)
  rw [List.nil_append] at hown
  have BW1 : RowKit.Below W.heap.size W w1 := belowP_grown (RowKit.Below.refl _ _) (Nat.le_refl _) (OwnP.nil _ _) (by rw [hW]; exact hg1)
  obtain ⟨ag, cg, rfl, hpo, _, _, _⟩ := hown.form
  have B1 := hGA.below.trans (BW1.mono hGA.below.size)
  have hza1 : w1.heap[w.heap.size]? = _ := (BW1.block _ (Array.getElem?_eq_some_iff.1 HA.out).1).trans HA.out
  have hzb1 : w1.heap[w.heap.size + 1]? = _ := (BW1.block _ (Array.getElem?_eq_some_iff.1 HB.out).1).trans HB.out
  have hps1 := hpsW.below BW1
  have HA1 := Lib.hid hza1
  have HB1 := Lib.hid hzb1
  clear hza1 hzb1 HA HB hpsW hown hg1 BW1 hGA hW hn
  obtain ⟨q, z, hqz⟩ := optV_form (rleast l kk)
  refine (least22 kk ag cg l (by omega) w1 hpo).mono ?_
  rintro e w2 ⟨rfl, hb2⟩
  rw [hqz]
  have B2 := B1.trans (hb2.mono B1.size)
  have hps2 := hps1.below hb2
  have hpo2 := hpo.below hb2
  have HA2 : Hid (w2.heap[w.heap.size]? = _) := (hb2.block _ (Array.getElem?_eq_some_iff.1 HA1.out).1).trans HA1.out
  have HB2 : Hid (w2.heap[w.heap.size + 1]? = _) := (hb2.block _ (Array.getElem?_eq_some_iff.1 HB1.out).1).trans HB1.out
  clear HA1 HB1 hps1 hpo hb2 B1
  go_wp2_with fail
  have hgq : RowKit.Below w2.heap.size w2 (w2.alloc (.cells #[.int .u64 (q.1 : Int), .int .u64 (q.2 : Int)] 26)) := (RowKit.Below.refl _ _).alloc (Nat.le_refl _) _
  refine (rleast23 kk a1 c1 l _ (hps2.below hgq) (by omega)).mono ?_
  rintro e w3 ⟨rfl, hb3⟩
  rw [hqz]
  have hb3' := belT hgq hb3
  have B3 := B2.trans (hb3'.mono B2.size)
  have HQ3 : Hid (w3.heap[w2.heap.size]? = some (.cells #[.int .u64 (q.1 : Int), .int .u64 (q.2 : Int)] 26 (0, 0))) := (hb3.block _ (by simp)).trans (heap_alloc_new _ _)
  have HA3 : Hid (w3.heap[w.heap.size]? = _) := (hb3'.block _ (Array.getElem?_eq_some_iff.1 HA2.out).1).trans HA2.out
  have HB3 : Hid (w3.heap[w.heap.size + 1]? = _) := (hb3'.block _ (Array.getElem?_eq_some_iff.1 HB2.out).1).trans HB2.out
  have hps3 := hps2.below hb3'
  have hpo3 := hpo2.below hb3'
  clear HA2 HB2 hps2 hpo2 B2 hb3 hb3' hgq hqz
  have nqq : ∀ w, (binOp .neq 26 (.agg #[.int .u64 (q.1 : Int), .int .u64 (q.2 : Int)]) (.agg #[.int .u64 (q.1 : Int), .int .u64 (q.2 : Int)])).run Try.prog w = .ok (.bool false) w := fun w => (neq26 q q w).trans (by simp)
  have nqp := neq26 pa pb
  have hless := less_upto pa pb
  obtain ⟨z2, hz2⟩ : ∃ z2, (!decide (pa = pb)) = z2 := ⟨_, rfl⟩
  rw [hz2] at nqp hless
  clear hz2
  have hg4 : RowKit.Below w3.heap.size w3 (w3.alloc (.cells #[.int .u64 (q.1 : Int), .int .u64 (q.2 : Int)] 26)) := (RowKit.Below.refl _ _).alloc (Nat.le_refl _) _
  have HQ4 : Hid ((w3.alloc (.cells #[.int .u64 (q.1 : Int), .int .u64 (q.2 : Int)] 26)).heap[w3.heap.size]? = some (.cells #[.int .u64 (q.1 : Int), .int .u64 (q.2 : Int)] 26 (0, 0))) := heap_alloc_new _ _
  go_wp2_with fail
  obtain ⟨w5, hw5⟩ : ∃ w5, w5 = w3.alloc (.cells #[.int .u64 (q.1 : Int), .int .u64 (q.2 : Int)] 26) := ⟨_, rfl⟩
  rw [← hw5] at hg4 HQ4 ⊢
  have hps5 := hps3.below hg4
  have hpo5 := hpo3.below hg4
  have B5 := B3.trans (hg4.mono B3.size)
  have HKF : Hid (∀ w', Gr w5.drew w' → (w'.cell? ⟨w.heap.size, 0, none⟩ = some (.int .u64 (pa.1 : Int)) ∧ w'.cell? ⟨w.heap.size, 1, none⟩ = some (.int .u64 (pa.2 : Int))) ∧ (w'.cell? ⟨(w.heap.size + 1), 0, none⟩ = some (.int .u64 (pb.1 : Int)) ∧ w'.cell? ⟨(w.heap.size + 1), 1, none⟩ = some (.int .u64 (pb.2 : Int))) ∧ (w'.cell? ⟨w2.heap.size, 0, none⟩ = some (.int .u64 (q.1 : Int)) ∧ w'.cell? ⟨w2.heap.size, 1, none⟩ = some (.int .u64 (q.2 : Int))) ∧ (w'.cell? ⟨w3.heap.size, 0, none⟩ = some (.int .u64 (q.1 : Int)) ∧ w'.cell? ⟨w3.heap.size, 1, none⟩ = some (.int .u64 (q.2 : Int)))) := fun w' hg => by
    have hb := ((Gr.refl w5).drew.trans hg).below
    have hb5 := belT hg4 hb
    have e1 : w'.heap[w.heap.size]? = _ := (hb5.block _ (Array.getElem?_eq_some_iff.1 HA3.out).1).trans HA3.out
    have e2 : w'.heap[w.heap.size + 1]? = _ := (hb5.block _ (Array.getElem?_eq_some_iff.1 HB3.out).1).trans HB3.out
    have e3 : w'.heap[w2.heap.size]? = _ := (hb5.block _ (Array.getElem?_eq_some_iff.1 HQ3.out).1).trans HQ3.out
    have e4 : w'.heap[w3.heap.size]? = _ := (hb.block _ (Array.getElem?_eq_some_iff.1 HQ4.out).1).trans HQ4.out
    exact ⟨⟨cell_of_row _ _ _ _ _ _ e1, cell_of_row _ _ _ _ _ _ e1⟩, ⟨cell_of_row _ _ _ _ _ _ e2, cell_of_row _ _ _ _ _ _ e2⟩, ⟨cell_of_row _ _ _ _ _ _ e3, cell_of_row _ _ _ _ _ _ e3⟩, cell_of_row _ _ _ _ _ _ e4, cell_of_row _ _ _ _ _ _ e4⟩
  clear HA3 HB3 HQ3 HQ4 hps3 hpo3 hg4 hw5 B3
  have PC := Lib.hid (fun w h => choose20 ag cg l w h (by omega))
  have PR := Lib.hid (fun w h => rchoose24 a1 c1 l w h (by omega))
  have PL := Lib.hid (fun w => less25 pa pb w)
  have PU := Lib.hid (fun w => upto26 pa pb w)
  rw [← choose_eq] at PR
  rw [hless] at PL
  clear hless
  cases hu : uptoP pa pb
  · rw [hu] at PL PU
    rw [Bool.false_and] at PL
    clear hu
    go_wp2_with fail
    have KF : ∀ w', Gr w5.drew w' → (w'.cell? ⟨w.heap.size, 0, none⟩ = some (.int .u64 (pa.1 : Int)) ∧ w'.cell? ⟨w.heap.size, 1, none⟩ = some (.int .u64 (pa.2 : Int))) ∧ (w'.cell? ⟨(w.heap.size + 1), 0, none⟩ = some (.int .u64 (pb.1 : Int)) ∧ w'.cell? ⟨(w.heap.size + 1), 1, none⟩ = some (.int .u64 (pb.2 : Int))) ∧ (w'.cell? ⟨w2.heap.size, 0, none⟩ = some (.int .u64 (q.1 : Int)) ∧ w'.cell? ⟨w2.heap.size, 1, none⟩ = some (.int .u64 (q.2 : Int))) ∧ (w'.cell? ⟨w3.heap.size, 0, none⟩ = some (.int .u64 (q.1 : Int)) ∧ w'.cell? ⟨w3.heap.size, 1, none⟩ = some (.int .u64 (q.2 : Int))) := HKF.out
    refine seqS_start (Gr w5.drew) 29 [false, false, false, false, false, false, false, false, false, false, false, false, false, false, false, false, false, false, false, false, false, false, false, false, false, false, false, false, false] (by kernel_rfl) rfl rfl (Gr.refl _) ?_
    refine seqS_take 0 (v := ?_) rfl (by kernel_rfl) (fun _ _ _ h => h) (Or.inl ⟨by rfl, fun w' hb => ?_⟩) ?_
    rotate_left
    · have kf := KF w' hb
      go_simp
      with_reducible rfl
    simp only [Act.put, List.setIfInBounds_toArray, List.set_cons_zero, List.set_cons_succ]
    refine seqS_take 1 (v := ?_) rfl (by kernel_rfl) (fun _ _ _ h => h) (Or.inl ⟨by rfl, fun w' hb => ?_⟩) ?_
    rotate_left
    · have kf := KF w' hb
      go_simp
      with_reducible rfl
    simp only [Act.put, List.setIfInBounds_toArray, List.set_cons_zero, List.set_cons_succ]
    refine seqS_take 2 (v := ?_) rfl (by kernel_rfl) (fun _ _ _ h => h) (Or.inl ⟨by rfl, fun w' hb => ?_⟩) ?_
    rotate_left
    · have kf := KF w' hb
      go_simp
      with_reducible rfl
    simp only [Act.put, List.setIfInBounds_toArray, List.set_cons_zero, List.set_cons_succ]
    refine seqS_take 3 (v := ?_) rfl (by kernel_rfl) (fun _ _ _ h => h) (Or.inl ⟨by rfl, fun w' hb => ?_⟩) ?_
    rotate_left
    · have kf := KF w' hb
      go_simp
      with_reducible rfl
    simp only [Act.put, List.setIfInBounds_toArray, List.set_cons_zero, List.set_cons_succ]
    refine seqS_take 4 (v := ?_) rfl (by kernel_rfl) (fun _ _ _ h => h) (Or.inl ⟨by rfl, fun w' hb => ?_⟩) ?_
    rotate_left
    · have kf := KF w' hb
      go_simp
      with_reducible rfl
    simp only [Act.put, List.setIfInBounds_toArray, List.set_cons_zero, List.set_cons_succ]
    refine seqS_take 5 (v := ?_) rfl (by kernel_rfl) (fun _ _ _ h => h) (Or.inl ⟨by rfl, fun w' hb => ?_⟩) ?_
    rotate_left
    · have kf := KF w' hb
      go_simp
      with_reducible rfl
    simp only [Act.put, List.setIfInBounds_toArray, List.set_cons_zero, List.set_cons_succ]
    refine seqS_take 6 (v := ?_) rfl (by kernel_rfl) (fun _ _ _ h => h) (Or.inl ⟨by rfl, fun w' hb => ?_⟩) ?_
    rotate_left
    · have kf := KF w' hb
      go_simp
      with_reducible rfl
    simp only [Act.put, List.setIfInBounds_toArray, List.set_cons_zero, List.set_cons_succ]
    refine seqS_take 7 (v := ?_) rfl (by kernel_rfl) (fun _ _ _ h => h) (Or.inl ⟨by rfl, fun w' hb => ?_⟩) ?_
    rotate_left
    · have kf := KF w' hb
      go_simp
      with_reducible rfl
    simp only [Act.put, List.setIfInBounds_toArray, List.set_cons_zero, List.set_cons_succ]
    refine seqS_take 8 (v := ?_) rfl (by kernel_rfl) (fun _ _ _ h => h) (Or.inl ⟨by rfl, fun w' hb => ?_⟩) ?_
    rotate_left
    · have kf := KF w' hb
      go_simp
      with_reducible rfl
    simp only [Act.put, List.setIfInBounds_toArray, List.set_cons_zero, List.set_cons_succ]
    refine seqS_take 9 (v := ?_) rfl (by kernel_rfl) (fun _ _ _ h => h) (Or.inl ⟨by rfl, fun w' hb => ?_⟩) ?_
    rotate_left
    · have kf := KF w' hb
      go_simp
      with_reducible rfl
    simp only [Act.put, List.setIfInBounds_toArray, List.set_cons_zero, List.set_cons_succ]
    refine seqS_take 11 (v := ?_) rfl (by kernel_rfl) (fun _ _ _ h => h) (Or.inl ⟨by rfl, fun w' hb => ?_⟩) ?_
    rotate_left
    · have kf := KF w' hb
      go_simp
      with_reducible rfl
    simp only [Act.put, List.setIfInBounds_toArray, List.set_cons_zero, List.set_cons_succ]
    refine seqS_do 10 rfl (by kernel_rfl) (fun K hK => ?_)
    go_simp
    refine (PC.out _ (hpo5.below (Gr.refl w5).drew.below)).mono ?_
    rintro e u1 ⟨rfl, hg1⟩
    refine hK.out (Gr w5.drew) _ _ (fun _ h => h) hg1 ?_
    clear hK K
    simp only [List.set_cons_zero, List.set_cons_succ]
    refine seqS_do 12 rfl (by kernel_rfl) (fun K hK => ?_)
    go_simp
    refine (PR.out _ (hps5.below ((Gr.refl w5).drew.trans hg1).below)).mono ?_
    rintro e u2 ⟨rfl, hg2⟩
    refine hK.out (Gr w5.drew) _ _ (fun _ h => h) (hg1.trans hg2) ?_
    clear hK K
    simp only [List.set_cons_zero, List.set_cons_succ]
    refine seqS_take 13 (v := ?_) rfl (by kernel_rfl) (fun _ _ _ h => h) (Or.inl ⟨by rfl, fun w' hb => ?_⟩) ?_
    rotate_left
    · have kf := KF w' hb
      go_simp
      with_reducible rfl
    simp only [Act.put, List.setIfInBounds_toArray, List.set_cons_zero, List.set_cons_succ]
    refine seqS_take 14 (v := ?_) rfl (by kernel_rfl) (fun _ _ _ h => h) (Or.inl ⟨by rfl, fun w' hb => ?_⟩) ?_
    rotate_left
    · have kf := KF w' hb
      go_simp
      with_reducible rfl
    simp only [Act.put, List.setIfInBounds_toArray, List.set_cons_zero, List.set_cons_succ]
    refine seqS_take 15 (v := ?_) rfl (by kernel_rfl) (fun _ _ _ h => h) (Or.inl ⟨by rfl, fun w' hb => ?_⟩) ?_
    rotate_left
    · have kf := KF w' hb
      go_simp
      with_reducible rfl
    simp only [Act.put, List.setIfInBounds_toArray, List.set_cons_zero, List.set_cons_succ]
    refine seqS_take 16 (v := ?_) rfl (by kernel_rfl) (fun _ _ _ h => h) (Or.inl ⟨by rfl, fun w' hb => ?_⟩) ?_
    rotate_left
    · have kf := KF w' hb
      go_simp
      with_reducible rfl
    simp only [Act.put, List.setIfInBounds_toArray, List.set_cons_zero, List.set_cons_succ]
    refine seqS_take 17 (v := ?_) rfl (by kernel_rfl) (fun _ _ _ h => h) (Or.inl ⟨by rfl, fun w' hb => ?_⟩) ?_
    rotate_left
    · have kf := KF w' hb
      go_simp
      with_reducible rfl
    simp only [Act.put, List.setIfInBounds_toArray, List.set_cons_zero, List.set_cons_succ]
    refine seqS_take 19 (v := ?_) rfl (by kernel_rfl) (fun _ _ _ h => h) (Or.inl ⟨by rfl, fun w' hb => ?_⟩) ?_
    rotate_left
    · have kf := KF w' hb
      go_simp
      with_reducible rfl
    simp only [Act.put, List.setIfInBounds_toArray, List.set_cons_zero, List.set_cons_succ]
    refine seqS_take 20 (v := ?_) rfl (by kernel_rfl) (fun _ _ _ h => h) (Or.inl ⟨by rfl, fun w' hb => ?_⟩) ?_
    rotate_left
    · have kf := KF w' hb
      go_simp
      with_reducible rfl
    simp only [Act.put, List.setIfInBounds_toArray, List.set_cons_zero, List.set_cons_succ]
    refine seqS_do 18 rfl (by kernel_rfl) (fun K hK => ?_)
    go_simp
    refine (PL.out _).mono ?_
    rintro e u3 ⟨rfl, hg3⟩
    refine hK.out (Gr w5.drew) _ _ (fun _ h => h) ((hg1.trans hg2).trans hg3) ?_
    clear hK K
    simp only [List.set_cons_zero, List.set_cons_succ]
    refine seqS_do 21 rfl (by kernel_rfl) (fun K hK => ?_)
    go_simp
    refine (PU.out _).mono ?_
    rintro e u4 ⟨rfl, hg4⟩
    refine hK.out (Gr w5.drew) _ _ (fun _ h => h) (((hg1.trans hg2).trans hg3).trans hg4) ?_
    clear hK K
    simp only [List.set_cons_zero, List.set_cons_succ]
    refine seqS_take 22 (v := ?_) rfl (by kernel_rfl) (fun _ _ _ h => h) (Or.inl ⟨by rfl, fun w' hb => ?_⟩) ?_
    rotate_left
    · have kf := KF w' hb
      go_simp
      with_reducible rfl
    simp only [Act.put, List.setIfInBounds_toArray, List.set_cons_zero, List.set_cons_succ]
    refine seqS_take 23 (v := undef) rfl (by kernel_rfl) (fun _ _ _ h => h) (Or.inr ⟨by rfl, rfl⟩) ?_
    simp only [Act.put, List.setIfInBounds_toArray, List.set_cons_zero, List.set_cons_succ]
    refine seqS_take 24 (v := undef) rfl (by kernel_rfl) (fun _ _ _ h => h) (Or.inr ⟨by rfl, rfl⟩) ?_
    simp only [Act.put, List.setIfInBounds_toArray, List.set_cons_zero, List.set_cons_succ]
    refine seqS_take 25 (v := undef) rfl (by kernel_rfl) (fun _ _ _ h => h) (Or.inr ⟨by rfl, rfl⟩) ?_
    simp only [Act.put, List.setIfInBounds_toArray, List.set_cons_zero, List.set_cons_succ]
    refine seqS_take 26 (v := ?_) rfl (by kernel_rfl) (fun _ _ _ h => h) (Or.inl ⟨by rfl, fun w' hb => ?_⟩) ?_
    rotate_left
    · have kf := KF w' hb
      go_simp
      with_reducible rfl
    simp only [Act.put, List.setIfInBounds_toArray, List.set_cons_zero, List.set_cons_succ]
    refine seqS_take 27 (v := ?_) rfl (by kernel_rfl) (fun _ _ _ h => h) (Or.inl ⟨by rfl, fun w' hb => ?_⟩) ?_
    rotate_left
    · have kf := KF w' hb
      go_simp
      with_reducible rfl
    simp only [Act.put, List.setIfInBounds_toArray, List.set_cons_zero, List.set_cons_succ]
    refine seqS_take 28 (v := ?_) rfl (by kernel_rfl) (fun _ _ _ h => h) (Or.inl ⟨by rfl, fun w' hb => ?_⟩) ?_
    rotate_left
    · have kf := KF w' hb
      go_simp
      with_reducible rfl
    simp only [Act.put, List.setIfInBounds_toArray, List.set_cons_zero, List.set_cons_succ]
    refine seqS_end (by kernel_rfl) (fun hEnd => ?_)
    clear hEnd KF PC PR PL PU
    have G6 : Gr w5 u4 := (Gr.refl w5).drew.trans (((hg1.trans hg2).trans hg3).trans hg4)
    have B6 : RowKit.Below w.heap.size w u4 := B5.trans (G6.below.mono B5.size)
    replace hps5 := hps5.below G6.below
    replace hpo5 := hpo5.below G6.below
    clear hg1 hg2 hg3 hg4 G6 B5
    go_wp2_with fail
    go_loopw [14] (fun i wr => ∃ k : Nat, k ≤ l.length ∧ i = .int .i64 k ∧ Gr u4 wr) (fun i _ => l.length - (intOf i).toNat)
    case atStart => exact ⟨0, by omega, rfl, Gr.refl _⟩
    case round =>
      obtain ⟨k, hk, rfl, hg⟩ := hrel
      by_cases hlt : k < l.length
      · obtain ⟨b1, o1, rfl⟩ := hps5.ex hlt
        obtain ⟨b2, o2, rfl⟩ := hpo5.ex hlt
        have c1' := (hps5.below hg.below).cell b1 o1 rfl k hlt
        have c2' := (hpo5.below hg.below).cell b2 o2 rfl k hlt
        obtain ⟨x, hx⟩ : ∃ x, l[k] = x := ⟨_, rfl⟩
        rw [hx] at c1' c2'
        clear hx
        have nqx : ∀ w, (binOp .neq 26 (.agg #[.int .u64 (x.1 : Int), .int .u64 (x.2 : Int)]) (.agg #[.int .u64 (x.1 : Int), .int .u64 (x.2 : Int)])).run Try.prog w = .ok (.bool false) w := fun w => (neq26 x x w).trans (by simp)
        go_wp2_with fail
        have KF : ∀ w', Gr wr.drew w' → ((w'.cell? ⟨b1, o1 + k * 2, none⟩ = some (.int .u64 (x.1 : Int)) ∧ w'.cell? ⟨b1, o1 + k * 2 + 1, none⟩ = some (.int .u64 (x.2 : Int))) ∧ (w'.cell? ⟨b2, o2 + k * 2, none⟩ = some (.int .u64 (x.1 : Int)) ∧ w'.cell? ⟨b2, o2 + k * 2 + 1, none⟩ = some (.int .u64 (x.2 : Int)))) ∧ k < l.length := fun w' hg2 => by
          have hb := ((Gr.refl wr).drew.trans hg2).below
          exact ⟨⟨⟨Below.cellSome hb c1'.1, Below.cellSome hb c1'.2⟩, Below.cellSome hb c2'.1, Below.cellSome hb c2'.2⟩, hlt⟩
        refine seqS_start (Gr wr.drew) 9 [false, false, false, false, false, false, false, false, false] (by kernel_rfl) rfl rfl (Gr.refl _) ?_
        refine seqS_take 0 (v := ?_) rfl (by kernel_rfl) (fun _ _ _ h => h) (Or.inl ⟨by rfl, fun w' hb => ?_⟩) ?_
        rotate_left
        · have kf := KF w' hb
          go_simp
          with_reducible rfl
        simp only [Act.put, List.setIfInBounds_toArray, List.set_cons_zero, List.set_cons_succ]
        refine seqS_take 1 (v := ?_) rfl (by kernel_rfl) (fun _ _ _ h => h) (Or.inl ⟨by rfl, fun w' hb => ?_⟩) ?_
        rotate_left
        · have kf := KF w' hb
          go_simp
          with_reducible rfl
        simp only [Act.put, List.setIfInBounds_toArray, List.set_cons_zero, List.set_cons_succ]
        refine seqS_take 2 (v := ?_) rfl (by kernel_rfl) (fun _ _ _ h => h) (Or.inl ⟨by rfl, fun w' hb => ?_⟩) ?_
        rotate_left
        · have kf := KF w' hb
          go_simp
          with_reducible rfl
        simp only [Act.put, List.setIfInBounds_toArray, List.set_cons_zero, List.set_cons_succ]
        refine seqS_take 3 (v := ?_) rfl (by kernel_rfl) (fun _ _ _ h => h) (Or.inl ⟨by rfl, fun w' hb => ?_⟩) ?_
        rotate_left
        · have kf := KF w' hb
          go_simp
          with_reducible rfl
        simp only [Act.put, List.setIfInBounds_toArray, List.set_cons_zero, List.set_cons_succ]
        refine seqS_take 4 (v := ?_) rfl (by kernel_rfl) (fun _ _ _ h => h) (Or.inl ⟨by rfl, fun w' hb => ?_⟩) ?_
        rotate_left
        · have kf := KF w' hb
          go_simp
          with_reducible rfl
        simp only [Act.put, List.setIfInBounds_toArray, List.set_cons_zero, List.set_cons_succ]
        refine seqS_take 5 (v := ?_) rfl (by kernel_rfl) (fun _ _ _ h => h) (Or.inl ⟨by rfl, fun w' hb => ?_⟩) ?_
        rotate_left
        · have kf := KF w' hb
          go_simp
          with_reducible rfl
        simp only [Act.put, List.setIfInBounds_toArray, List.set_cons_zero, List.set_cons_succ]
        refine seqS_take 6 (v := ?_) rfl (by kernel_rfl) (fun _ _ _ h => h) (Or.inl ⟨by rfl, fun w' hb => ?_⟩) ?_
        rotate_left
        · have kf := KF w' hb
          go_simp
          with_reducible rfl
        simp only [Act.put, List.setIfInBounds_toArray, List.set_cons_zero, List.set_cons_succ]
        refine seqS_take 7 (v := ?_) rfl (by kernel_rfl) (fun _ _ _ h => h) (Or.inl ⟨by rfl, fun w' hb => ?_⟩) ?_
        rotate_left
        · have kf := KF w' hb
          go_simp
          with_reducible rfl
        simp only [Act.put, List.setIfInBounds_toArray, List.set_cons_zero, List.set_cons_succ]
        refine seqS_take 8 (v := ?_) rfl (by kernel_rfl) (fun _ _ _ h => h) (Or.inl ⟨by rfl, fun w' hb => ?_⟩) ?_
        rotate_left
        · have kf := KF w' hb
          go_simp
          with_reducible rfl
        simp only [Act.put, List.setIfInBounds_toArray, List.set_cons_zero, List.set_cons_succ]
        refine seqS_end (by kernel_rfl) (fun hEnd => ?_)
        clear hEnd KF
        go_wp2_with fail
        go_roundw
        case rel => exact ⟨k + 1, by omega, by go_num, hg.trans (Gr.refl _).drew⟩
        case measure => simp [intOf]; omega
      · go_wp2_with fail
        refine (known8 _).mono ?_
        rintro e w9 ⟨rfl, hb9⟩
        go_wp2_with fail
        go_ret
        exact ⟨rfl, (B6.trans (hg.below.mono B6.size)).trans (hb9.mono (B6.trans (hg.below.mono B6.size)).size)⟩
  · rw [hu] at PL PU
    rw [Bool.true_and] at PL
    clear hu
    cases z2
    all_goals
        go_wp2_with fail
        have KF : ∀ w', Gr w5.drew w' → (w'.cell? ⟨w.heap.size, 0, none⟩ = some (.int .u64 (pa.1 : Int)) ∧ w'.cell? ⟨w.heap.size, 1, none⟩ = some (.int .u64 (pa.2 : Int))) ∧ (w'.cell? ⟨(w.heap.size + 1), 0, none⟩ = some (.int .u64 (pb.1 : Int)) ∧ w'.cell? ⟨(w.heap.size + 1), 1, none⟩ = some (.int .u64 (pb.2 : Int))) ∧ (w'.cell? ⟨w2.heap.size, 0, none⟩ = some (.int .u64 (q.1 : Int)) ∧ w'.cell? ⟨w2.heap.size, 1, none⟩ = some (.int .u64 (q.2 : Int))) ∧ (w'.cell? ⟨w3.heap.size, 0, none⟩ = some (.int .u64 (q.1 : Int)) ∧ w'.cell? ⟨w3.heap.size, 1, none⟩ = some (.int .u64 (q.2 : Int))) := HKF.out
        refine seqS_start (Gr w5.drew) 29 [false, false, false, false, false, false, false, false, false, false, false, false, false, false, false, false, false, false, false, false, false, false, false, false, false, false, false, false, false] (by kernel_rfl) rfl rfl (Gr.refl _) ?_
        refine seqS_take 0 (v := ?_) rfl (by kernel_rfl) (fun _ _ _ h => h) (Or.inl ⟨by rfl, fun w' hb => ?_⟩) ?_
        rotate_left
        · have kf := KF w' hb
          go_simp
          with_reducible rfl
        simp only [Act.put, List.setIfInBounds_toArray, List.set_cons_zero, List.set_cons_succ]
        refine seqS_take 1 (v := ?_) rfl (by kernel_rfl) (fun _ _ _ h => h) (Or.inl ⟨by rfl, fun w' hb => ?_⟩) ?_
        rotate_left
        · have kf := KF w' hb
          go_simp
          with_reducible rfl
        simp only [Act.put, List.setIfInBounds_toArray, List.set_cons_zero, List.set_cons_succ]
        refine seqS_take 2 (v := ?_) rfl (by kernel_rfl) (fun _ _ _ h => h) (Or.inl ⟨by rfl, fun w' hb => ?_⟩) ?_
        rotate_left
        · have kf := KF w' hb
          go_simp
          with_reducible rfl
        simp only [Act.put, List.setIfInBounds_toArray, List.set_cons_zero, List.set_cons_succ]
        refine seqS_take 3 (v := ?_) rfl (by kernel_rfl) (fun _ _ _ h => h) (Or.inl ⟨by rfl, fun w' hb => ?_⟩) ?_
        rotate_left
        · have kf := KF w' hb
          go_simp
          with_reducible rfl
        simp only [Act.put, List.setIfInBounds_toArray, List.set_cons_zero, List.set_cons_succ]
        refine seqS_take 4 (v := ?_) rfl (by kernel_rfl) (fun _ _ _ h => h) (Or.inl ⟨by rfl, fun w' hb => ?_⟩) ?_
        rotate_left
        · have kf := KF w' hb
          go_simp
          with_reducible rfl
        simp only [Act.put, List.setIfInBounds_toArray, List.set_cons_zero, List.set_cons_succ]
        refine seqS_take 5 (v := ?_) rfl (by kernel_rfl) (fun _ _ _ h => h) (Or.inl ⟨by rfl, fun w' hb => ?_⟩) ?_
        rotate_left
        · have kf := KF w' hb
          go_simp
          with_reducible rfl
        simp only [Act.put, List.setIfInBounds_toArray, List.set_cons_zero, List.set_cons_succ]
        refine seqS_take 6 (v := ?_) rfl (by kernel_rfl) (fun _ _ _ h => h) (Or.inl ⟨by rfl, fun w' hb => ?_⟩) ?_
        rotate_left
        · have kf := KF w' hb
          go_simp
          with_reducible rfl
        simp only [Act.put, List.setIfInBounds_toArray, List.set_cons_zero, List.set_cons_succ]
        refine seqS_take 7 (v := ?_) rfl (by kernel_rfl) (fun _ _ _ h => h) (Or.inl ⟨by rfl, fun w' hb => ?_⟩) ?_
        rotate_left
        · have kf := KF w' hb
          go_simp
          with_reducible rfl
        simp only [Act.put, List.setIfInBounds_toArray, List.set_cons_zero, List.set_cons_succ]
        refine seqS_take 8 (v := ?_) rfl (by kernel_rfl) (fun _ _ _ h => h) (Or.inl ⟨by rfl, fun w' hb => ?_⟩) ?_
        rotate_left
        · have kf := KF w' hb
          go_simp
          with_reducible rfl
        simp only [Act.put, List.setIfInBounds_toArray, List.set_cons_zero, List.set_cons_succ]
        refine seqS_take 9 (v := ?_) rfl (by kernel_rfl) (fun _ _ _ h => h) (Or.inl ⟨by rfl, fun w' hb => ?_⟩) ?_
        rotate_left
        · have kf := KF w' hb
          go_simp
          with_reducible rfl
        simp only [Act.put, List.setIfInBounds_toArray, List.set_cons_zero, List.set_cons_succ]
        refine seqS_take 11 (v := ?_) rfl (by kernel_rfl) (fun _ _ _ h => h) (Or.inl ⟨by rfl, fun w' hb => ?_⟩) ?_
        rotate_left
        · have kf := KF w' hb
          go_simp
          with_reducible rfl
        simp only [Act.put, List.setIfInBounds_toArray, List.set_cons_zero, List.set_cons_succ]
        refine seqS_do 10 rfl (by kernel_rfl) (fun K hK => ?_)
        go_simp
        refine (PC.out _ (hpo5.below (Gr.refl w5).drew.below)).mono ?_
        rintro e u1 ⟨rfl, hg1⟩
        refine hK.out (Gr w5.drew) _ _ (fun _ h => h) hg1 ?_
        clear hK K
        simp only [List.set_cons_zero, List.set_cons_succ]
        refine seqS_do 12 rfl (by kernel_rfl) (fun K hK => ?_)
        go_simp
        refine (PR.out _ (hps5.below ((Gr.refl w5).drew.trans hg1).below)).mono ?_
        rintro e u2 ⟨rfl, hg2⟩
        refine hK.out (Gr w5.drew) _ _ (fun _ h => h) (hg1.trans hg2) ?_
        clear hK K
        simp only [List.set_cons_zero, List.set_cons_succ]
        refine seqS_take 13 (v := ?_) rfl (by kernel_rfl) (fun _ _ _ h => h) (Or.inl ⟨by rfl, fun w' hb => ?_⟩) ?_
        rotate_left
        · have kf := KF w' hb
          go_simp
          with_reducible rfl
        simp only [Act.put, List.setIfInBounds_toArray, List.set_cons_zero, List.set_cons_succ]
        refine seqS_take 14 (v := ?_) rfl (by kernel_rfl) (fun _ _ _ h => h) (Or.inl ⟨by rfl, fun w' hb => ?_⟩) ?_
        rotate_left
        · have kf := KF w' hb
          go_simp
          with_reducible rfl
        simp only [Act.put, List.setIfInBounds_toArray, List.set_cons_zero, List.set_cons_succ]
        refine seqS_take 15 (v := ?_) rfl (by kernel_rfl) (fun _ _ _ h => h) (Or.inl ⟨by rfl, fun w' hb => ?_⟩) ?_
        rotate_left
        · have kf := KF w' hb
          go_simp
          with_reducible rfl
        simp only [Act.put, List.setIfInBounds_toArray, List.set_cons_zero, List.set_cons_succ]
        refine seqS_take 16 (v := ?_) rfl (by kernel_rfl) (fun _ _ _ h => h) (Or.inl ⟨by rfl, fun w' hb => ?_⟩) ?_
        rotate_left
        · have kf := KF w' hb
          go_simp
          with_reducible rfl
        simp only [Act.put, List.setIfInBounds_toArray, List.set_cons_zero, List.set_cons_succ]
        refine seqS_take 17 (v := ?_) rfl (by kernel_rfl) (fun _ _ _ h => h) (Or.inl ⟨by rfl, fun w' hb => ?_⟩) ?_
        rotate_left
        · have kf := KF w' hb
          go_simp
          with_reducible rfl
        simp only [Act.put, List.setIfInBounds_toArray, List.set_cons_zero, List.set_cons_succ]
        refine seqS_take 19 (v := ?_) rfl (by kernel_rfl) (fun _ _ _ h => h) (Or.inl ⟨by rfl, fun w' hb => ?_⟩) ?_
        rotate_left
        · have kf := KF w' hb
          go_simp
          with_reducible rfl
        simp only [Act.put, List.setIfInBounds_toArray, List.set_cons_zero, List.set_cons_succ]
        refine seqS_take 20 (v := ?_) rfl (by kernel_rfl) (fun _ _ _ h => h) (Or.inl ⟨by rfl, fun w' hb => ?_⟩) ?_
        rotate_left
        · have kf := KF w' hb
          go_simp
          with_reducible rfl
        simp only [Act.put, List.setIfInBounds_toArray, List.set_cons_zero, List.set_cons_succ]
        refine seqS_do 18 rfl (by kernel_rfl) (fun K hK => ?_)
        go_simp
        refine (PL.out _).mono ?_
        rintro e u3 ⟨rfl, hg3⟩
        refine hK.out (Gr w5.drew) _ _ (fun _ h => h) ((hg1.trans hg2).trans hg3) ?_
        clear hK K
        simp only [List.set_cons_zero, List.set_cons_succ]
        refine seqS_do 21 rfl (by kernel_rfl) (fun K hK => ?_)
        go_simp
        refine (PU.out _).mono ?_
        rintro e u4 ⟨rfl, hg4⟩
        refine hK.out (Gr w5.drew) _ _ (fun _ h => h) (((hg1.trans hg2).trans hg3).trans hg4) ?_
        clear hK K
        simp only [List.set_cons_zero, List.set_cons_succ]
        refine seqS_take 22 (v := ?_) rfl (by kernel_rfl) (fun _ _ _ h => h) (Or.inl ⟨by rfl, fun w' hb => ?_⟩) ?_
        rotate_left
        · have kf := KF w' hb
          go_simp
          with_reducible rfl
        simp only [Act.put, List.setIfInBounds_toArray, List.set_cons_zero, List.set_cons_succ]
        refine seqS_take 23 (v := ?_) rfl (by kernel_rfl) (fun _ _ _ h => h) (Or.inl ⟨by rfl, fun w' hb => ?_⟩) ?_
        rotate_left
        · have kf := KF w' hb
          go_simp
          with_reducible rfl
        simp only [Act.put, List.setIfInBounds_toArray, List.set_cons_zero, List.set_cons_succ]
        refine seqS_take 24 (v := ?_) rfl (by kernel_rfl) (fun _ _ _ h => h) (Or.inl ⟨by rfl, fun w' hb => ?_⟩) ?_
        rotate_left
        · have kf := KF w' hb
          go_simp
          with_reducible rfl
        simp only [Act.put, List.setIfInBounds_toArray, List.set_cons_zero, List.set_cons_succ]
        refine seqS_take 25 (v := ?_) rfl (by kernel_rfl) (fun _ _ _ h => h) (Or.inl ⟨by rfl, fun w' hb => ?_⟩) ?_
        rotate_left
        · have kf := KF w' hb
          go_simp
          with_reducible rfl
        simp only [Act.put, List.setIfInBounds_toArray, List.set_cons_zero, List.set_cons_succ]
        refine seqS_take 26 (v := ?_) rfl (by kernel_rfl) (fun _ _ _ h => h) (Or.inl ⟨by rfl, fun w' hb => ?_⟩) ?_
        rotate_left
        · have kf := KF w' hb
          go_simp
          with_reducible rfl
        simp only [Act.put, List.setIfInBounds_toArray, List.set_cons_zero, List.set_cons_succ]
        refine seqS_take 27 (v := ?_) rfl (by kernel_rfl) (fun _ _ _ h => h) (Or.inl ⟨by rfl, fun w' hb => ?_⟩) ?_
        rotate_left
        · have kf := KF w' hb
          go_simp
          with_reducible rfl
        simp only [Act.put, List.setIfInBounds_toArray, List.set_cons_zero, List.set_cons_succ]
        refine seqS_take 28 (v := ?_) rfl (by kernel_rfl) (fun _ _ _ h => h) (Or.inl ⟨by rfl, fun w' hb => ?_⟩) ?_
        rotate_left
        · have kf := KF w' hb
          go_simp
          with_reducible rfl
        simp only [Act.put, List.setIfInBounds_toArray, List.set_cons_zero, List.set_cons_succ]
        refine seqS_end (by kernel_rfl) (fun hEnd => ?_)
        clear hEnd KF PC PR PL PU
        have G6 : Gr w5 u4 := (Gr.refl w5).drew.trans (((hg1.trans hg2).trans hg3).trans hg4)
        have B6 : RowKit.Below w.heap.size w u4 := B5.trans (G6.below.mono B5.size)
        replace hps5 := hps5.below G6.below
        replace hpo5 := hpo5.below G6.below
        clear hg1 hg2 hg3 hg4 G6 B5
        go_wp2_with fail
        go_loopw [14] (fun i wr => ∃ k : Nat, k ≤ l.length ∧ i = .int .i64 k ∧ Gr u4 wr) (fun i _ => l.length - (intOf i).toNat)
        case atStart => exact ⟨0, by omega, rfl, Gr.refl _⟩
        case round =>
          obtain ⟨k, hk, rfl, hg⟩ := hrel
          by_cases hlt : k < l.length
          · obtain ⟨b1, o1, rfl⟩ := hps5.ex hlt
            obtain ⟨b2, o2, rfl⟩ := hpo5.ex hlt
            have c1' := (hps5.below hg.below).cell b1 o1 rfl k hlt
            have c2' := (hpo5.below hg.below).cell b2 o2 rfl k hlt
            obtain ⟨x, hx⟩ : ∃ x, l[k] = x := ⟨_, rfl⟩
            rw [hx] at c1' c2'
            clear hx
            have nqx : ∀ w, (binOp .neq 26 (.agg #[.int .u64 (x.1 : Int), .int .u64 (x.2 : Int)]) (.agg #[.int .u64 (x.1 : Int), .int .u64 (x.2 : Int)])).run Try.prog w = .ok (.bool false) w := fun w => (neq26 x x w).trans (by simp)
            go_wp2_with fail
            have KF : ∀ w', Gr wr.drew w' → ((w'.cell? ⟨b1, o1 + k * 2, none⟩ = some (.int .u64 (x.1 : Int)) ∧ w'.cell? ⟨b1, o1 + k * 2 + 1, none⟩ = some (.int .u64 (x.2 : Int))) ∧ (w'.cell? ⟨b2, o2 + k * 2, none⟩ = some (.int .u64 (x.1 : Int)) ∧ w'.cell? ⟨b2, o2 + k * 2 + 1, none⟩ = some (.int .u64 (x.2 : Int)))) ∧ k < l.length := fun w' hg2 => by
              have hb := ((Gr.refl wr).drew.trans hg2).below
              exact ⟨⟨⟨Below.cellSome hb c1'.1, Below.cellSome hb c1'.2⟩, Below.cellSome hb c2'.1, Below.cellSome hb c2'.2⟩, hlt⟩
            refine seqS_start (Gr wr.drew) 9 [false, false, false, false, false, false, false, false, false] (by kernel_rfl) rfl rfl (Gr.refl _) ?_
            refine seqS_take 0 (v := ?_) rfl (by kernel_rfl) (fun _ _ _ h => h) (Or.inl ⟨by rfl, fun w' hb => ?_⟩) ?_
            rotate_left
            · have kf := KF w' hb
              go_simp
              with_reducible rfl
            simp only [Act.put, List.setIfInBounds_toArray, List.set_cons_zero, List.set_cons_succ]
            refine seqS_take 1 (v := ?_) rfl (by kernel_rfl) (fun _ _ _ h => h) (Or.inl ⟨by rfl, fun w' hb => ?_⟩) ?_
            rotate_left
            · have kf := KF w' hb
              go_simp
              with_reducible rfl
            simp only [Act.put, List.setIfInBounds_toArray, List.set_cons_zero, List.set_cons_succ]
            refine seqS_take 2 (v := ?_) rfl (by kernel_rfl) (fun _ _ _ h => h) (Or.inl ⟨by rfl, fun w' hb => ?_⟩) ?_
            rotate_left
            · have kf := KF w' hb
              go_simp
              with_reducible rfl
            simp only [Act.put, List.setIfInBounds_toArray, List.set_cons_zero, List.set_cons_succ]
            refine seqS_take 3 (v := ?_) rfl (by kernel_rfl) (fun _ _ _ h => h) (Or.inl ⟨by rfl, fun w' hb => ?_⟩) ?_
            rotate_left
            · have kf := KF w' hb
              go_simp
              with_reducible rfl
            simp only [Act.put, List.setIfInBounds_toArray, List.set_cons_zero, List.set_cons_succ]
            refine seqS_take 4 (v := ?_) rfl (by kernel_rfl) (fun _ _ _ h => h) (Or.inl ⟨by rfl, fun w' hb => ?_⟩) ?_
            rotate_left
            · have kf := KF w' hb
              go_simp
              with_reducible rfl
            simp only [Act.put, List.setIfInBounds_toArray, List.set_cons_zero, List.set_cons_succ]
            refine seqS_take 5 (v := ?_) rfl (by kernel_rfl) (fun _ _ _ h => h) (Or.inl ⟨by rfl, fun w' hb => ?_⟩) ?_
            rotate_left
            · have kf := KF w' hb
              go_simp
              with_reducible rfl
            simp only [Act.put, List.setIfInBounds_toArray, List.set_cons_zero, List.set_cons_succ]
            refine seqS_take 6 (v := ?_) rfl (by kernel_rfl) (fun _ _ _ h => h) (Or.inl ⟨by rfl, fun w' hb => ?_⟩) ?_
            rotate_left
            · have kf := KF w' hb
              go_simp
              with_reducible rfl
            simp only [Act.put, List.setIfInBounds_toArray, List.set_cons_zero, List.set_cons_succ]
            refine seqS_take 7 (v := ?_) rfl (by kernel_rfl) (fun _ _ _ h => h) (Or.inl ⟨by rfl, fun w' hb => ?_⟩) ?_
            rotate_left
            · have kf := KF w' hb
              go_simp
              with_reducible rfl
            simp only [Act.put, List.setIfInBounds_toArray, List.set_cons_zero, List.set_cons_succ]
            refine seqS_take 8 (v := ?_) rfl (by kernel_rfl) (fun _ _ _ h => h) (Or.inl ⟨by rfl, fun w' hb => ?_⟩) ?_
            rotate_left
            · have kf := KF w' hb
              go_simp
              with_reducible rfl
            simp only [Act.put, List.setIfInBounds_toArray, List.set_cons_zero, List.set_cons_succ]
            refine seqS_end (by kernel_rfl) (fun hEnd => ?_)
            clear hEnd KF
            go_wp2_with fail
            go_roundw
            case rel => exact ⟨k + 1, by omega, by go_num, hg.trans (Gr.refl _).drew⟩
            case measure => simp [intOf]; omega
          · go_wp2_with fail
            refine (known8 _).mono ?_
            rintro e w9 ⟨rfl, hb9⟩
            go_wp2_with fail
            go_ret
            exact ⟨rfl, (B6.trans (hg.below.mono B6.size)).trans (hb9.mono (B6.trans (hg.below.mono B6.size)).size)⟩


end Go.Proofs.Ytbpajfjeakffkaa

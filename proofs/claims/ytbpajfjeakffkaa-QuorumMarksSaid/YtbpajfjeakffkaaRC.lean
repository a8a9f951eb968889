/- looks: marks as the document's. -/
import Derived.Test.YtbpajfjeakffkaaRB
import Derived.Test.YtbpajfjeakffkaaQQ
namespace Go.Proofs.Ytbpajfjeakffkaa
open Go.RowKit Go.Sort Go.Shelf
attribute [local go_sem] Oper.semAt_some

set_option maxRecDepth 10000 in
set_option maxHeartbeats 12800000 in
theorem looks13 (mp mb rb : Nat) (D : MapD) (hD : D.length ≤ 1000000000) (s : List Pl) (f : List Bool) (p : Pl) (w : World) (h : MS w mp mb D) (hr : RM w rb s f) (hv : View D s f) :
    Calls Try.prog 13 #[.pointer (some ⟨mp, 0, none⟩), .pointer (some ⟨rb, 0, none⟩), pv p] w fun e w' => e = .returned (.bool true) ∧ RowKit.Below w.heap.size w w' := by
  have hB0 : RowKit.Below w.heap.size w (w.alloc (.cells #[.int .u64 (p.1 : Int), .int .u64 (p.2 : Int)] 26)) := (RowKit.Below.refl _ _).alloc (Nat.le_refl _) _
  have hz0 : (w.alloc (.cells #[.int .u64 (p.1 : Int), .int .u64 (p.2 : Int)] 26)).heap[w.heap.size]? = some (.cells #[.int .u64 (p.1 : Int), .int .u64 (p.2 : Int)] 26 (0, 0)) := heap_alloc_new _ _
  have HPerm := Lib.hid (hv.perm h.nd)
  have HVW := Lib.hid hv
  clear hv
  go_enter Try.func13, Try.ntmps13
  go_wp2_with fail
  refine (rplaces29 rb s f _ (hr.below hB0)).mono ?_
  rintro e w1 ⟨v, rfl, hown, hb1⟩
  obtain ⟨av, cv, rfl, hps, _, _, _⟩ := hown.form
  clear hown
  have hplen : ((en s f 5).map (·.2)).length ≤ 5 := by simpa using en_len s f 5
  have HT : Hid ((told D).Perm ((en s f 5).map (·.2))) := by
    show (D.map (·.2)).Perm _
    exact HPerm.out.map _
  obtain ⟨lp, hlp⟩ : ∃ lp, (en s f 5).map (·.2) = lp := ⟨_, rfl⟩
  rw [hlp] at hps hplen HT ⊢
  have B1 : RowKit.Below w.heap.size w w1 := belT hB0 hb1
  have hM1 := h.below B1
  have hR1 := hr.below B1
  have hz1 : w1.heap[w.heap.size]? = _ := (hb1.block _ (Array.getElem?_eq_some_iff.1 hz0).1).trans hz0
  clear hlp hz0 hB0 hb1 h hr HPerm
  go_wp2_with fail
  go_loopw [8] (fun i wr => ∃ n : Int, -1 ≤ n ∧ n ≤ 8 ∧ i = .int .i64 n ∧ RowKit.Below w1.heap.size w1 wr) (fun i _ => (8 - intOf i).toNat)
  case atStart => exact ⟨-1, by omega, by omega, rfl, RowKit.Below.refl _ _⟩
  case round =>
    obtain ⟨n, hn1, hn8, rfl, hb⟩ := hrel
    by_cases hlt : n < 8
    · have d8 : decide (n < 8) = true := decide_eq_true hlt
      have hM := hM1.below hb
      have P28 := Lib.hid (fun w h => leastM28 mp mb D hD n w h)
      have P23 := Lib.hid (fun w h => rleast23 n av cv lp w h (by omega))
      have P18 := Lib.hid (fun w h => haveM18 mp mb D hD n p w h)
      have P27 := Lib.hid (fun w h => have27 av cv lp p w h (by omega))
      have PO := Lib.hid (fun w h => of30 mp mb D n w h)
      have hmh := mhave_law lp n p
      rw [← rleast_perm HT.out n] at P23 hmh
      rw [show (List.map (fun x : Int × Pl => x.2) D) = told D from rfl] at P28 P18
      rw [hmh] at P18
      obtain ⟨r, zr, hrz⟩ := optV_form (rleast (told D) n)
      rw [hrz] at P28 P23
      have nqr := neq26 r r
      rw [decide_eq_true rfl] at nqr
      have nq0 : ∀ w, (binOp .neq 26 (.agg #[.int .u64 0, .int .u64 0]) (.agg #[.int .u64 0, .int .u64 0])).run Try.prog w = .ok (.bool false) w := fun w => by kernel_rfl
      clear hmh hrz
      by_cases hA : n < 1
      · have dA : decide (n < 1) = true := decide_eq_true hA
        have dA2 : decide (1 ≤ n) = false := decide_eq_false (by omega)
        have hg : getM D n = none := by rw [HVW.out n, if_neg (by omega)]
        rw [hg, show optV none = .tuple #[.agg #[.int .u64 0, .int .u64 0], .bool false] from rfl] at PO
        rw [dA, Bool.true_or] at P18
        clear hg
        go_wp2_with fail
        refine (PO.out _ hM).mono ?_
        rintro e w2 ⟨rfl, hb2⟩
        have hq2 : RowKit.Below w2.heap.size w2 (w2.alloc (.cells #[.int .u64 0, .int .u64 0] 26)) := (RowKit.Below.refl _ _).alloc (Nat.le_refl _) _
        have hz9 : (w2.alloc (.cells #[.int .u64 0, .int .u64 0] 26)).heap[w2.heap.size]? = some (.cells #[.int .u64 0, .int .u64 0] 26 (0, 0)) := heap_alloc_new _ _
        have B6 := hb.trans (belT hb2 hq2 |>.mono hb.size)
        clear hM hb2 PO
        go_wp2_with fail
        obtain ⟨W6, hW6⟩ : ∃ W6, W6 = w2.alloc (.cells #[.int .u64 0, .int .u64 0] 26) := ⟨_, rfl⟩
        rw [← hW6] at hq2 hz9 B6 ⊢
        clear hW6 hb
        have KF : ∀ w', RowKit.Below W6.drew.heap.size W6.drew w' → True := fun w' hg => trivial
        refine seqS_start (RowKit.Below W6.drew.heap.size W6.drew) 19 [false, false, false, false, false, false, false, false, false, false, false, false, false, false, false, false, false, false, false] (by kernel_rfl) rfl rfl (RowKit.Below.refl _ _) ?_
        refine seqS_take 0 (v := ?_) rfl (by kernel_rfl) (fun _ _ _ h => h) (Or.inl ⟨by rfl, fun w' hb => ?_⟩) ?_
        rotate_left
        · have kf := KF w' hb
          go_simp
          with_reducible rfl
        simp only [Act.put, List.setIfInBounds_toArray, List.set_cons_zero, List.set_cons_succ]
        refine seqS_take 1 (v := ?_) rfl (by kernel_rfl) (fun _ _ _ h => h) (Or.inl ⟨by rfl, fun w' hb => ?_⟩) ?_
        rotate_left
        · have kf := KF w' hb
          go_simp
          with_reducible rfl
        simp only [Act.put, List.setIfInBounds_toArray, List.set_cons_zero, List.set_cons_succ]
        refine seqS_take 2 (v := ?_) rfl (by kernel_rfl) (fun _ _ _ h => h) (Or.inl ⟨by rfl, fun w' hb => ?_⟩) ?_
        rotate_left
        · have kf := KF w' hb
          go_simp
          with_reducible rfl
        simp only [Act.put, List.setIfInBounds_toArray, List.set_cons_zero, List.set_cons_succ]
        refine seqS_take 3 (v := ?_) rfl (by kernel_rfl) (fun _ _ _ h => h) (Or.inl ⟨by rfl, fun w' hb => ?_⟩) ?_
        rotate_left
        · have kf := KF w' hb
          go_simp
          with_reducible rfl
        simp only [Act.put, List.setIfInBounds_toArray, List.set_cons_zero, List.set_cons_succ]
        refine seqS_take 4 (v := undef) rfl (by kernel_rfl) (fun _ _ _ h => h) (Or.inr ⟨by rfl, rfl⟩) ?_
        simp only [Act.put, List.setIfInBounds_toArray, List.set_cons_zero, List.set_cons_succ]
        refine seqS_take 5 (v := undef) rfl (by kernel_rfl) (fun _ _ _ h => h) (Or.inr ⟨by rfl, rfl⟩) ?_
        simp only [Act.put, List.setIfInBounds_toArray, List.set_cons_zero, List.set_cons_succ]
        refine seqS_take 6 (v := ?_) rfl (by kernel_rfl) (fun _ _ _ h => h) (Or.inl ⟨by rfl, fun w' hb => ?_⟩) ?_
        rotate_left
        · have kf := KF w' hb
          go_simp
          with_reducible rfl
        simp only [Act.put, List.setIfInBounds_toArray, List.set_cons_zero, List.set_cons_succ]
        refine seqS_take 7 (v := ?_) rfl (by kernel_rfl) (fun _ _ _ h => h) (Or.inl ⟨by rfl, fun w' hb => ?_⟩) ?_
        rotate_left
        · have kf := KF w' hb
          go_simp
          with_reducible rfl
        simp only [Act.put, List.setIfInBounds_toArray, List.set_cons_zero, List.set_cons_succ]
        refine seqS_take 8 (v := undef) rfl (by kernel_rfl) (fun _ _ _ h => h) (Or.inr ⟨by rfl, rfl⟩) ?_
        simp only [Act.put, List.setIfInBounds_toArray, List.set_cons_zero, List.set_cons_succ]
        refine seqS_take 9 (v := undef) rfl (by kernel_rfl) (fun _ _ _ h => h) (Or.inr ⟨by rfl, rfl⟩) ?_
        simp only [Act.put, List.setIfInBounds_toArray, List.set_cons_zero, List.set_cons_succ]
        refine seqS_take 10 (v := undef) rfl (by kernel_rfl) (fun _ _ _ h => h) (Or.inr ⟨by rfl, rfl⟩) ?_
        simp only [Act.put, List.setIfInBounds_toArray, List.set_cons_zero, List.set_cons_succ]
        refine seqS_take 11 (v := undef) rfl (by kernel_rfl) (fun _ _ _ h => h) (Or.inr ⟨by rfl, rfl⟩) ?_
        simp only [Act.put, List.setIfInBounds_toArray, List.set_cons_zero, List.set_cons_succ]
        refine seqS_take 12 (v := undef) rfl (by kernel_rfl) (fun _ _ _ h => h) (Or.inr ⟨by rfl, rfl⟩) ?_
        simp only [Act.put, List.setIfInBounds_toArray, List.set_cons_zero, List.set_cons_succ]
        refine seqS_take 13 (v := undef) rfl (by kernel_rfl) (fun _ _ _ h => h) (Or.inr ⟨by rfl, rfl⟩) ?_
        simp only [Act.put, List.setIfInBounds_toArray, List.set_cons_zero, List.set_cons_succ]
        refine seqS_take 14 (v := undef) rfl (by kernel_rfl) (fun _ _ _ h => h) (Or.inr ⟨by rfl, rfl⟩) ?_
        simp only [Act.put, List.setIfInBounds_toArray, List.set_cons_zero, List.set_cons_succ]
        refine seqS_take 15 (v := ?_) rfl (by kernel_rfl) (fun _ _ _ h => h) (Or.inl ⟨by rfl, fun w' hb => ?_⟩) ?_
        rotate_left
        · have kf := KF w' hb
          go_simp
          with_reducible rfl
        simp only [Act.put, List.setIfInBounds_toArray, List.set_cons_zero, List.set_cons_succ]
        refine seqS_do 16 rfl (by kernel_rfl) (fun K hK => ?_)
        go_simp
        refine hK.out (RowKit.Below W6.drew.heap.size W6.drew) _ _ (fun _ h => h) ((RowKit.Below.refl _ _).alloc (Nat.le_refl _) _) ?_
        clear hK K
        simp only [List.set_cons_zero, List.set_cons_succ]
        refine seqS_do 17 rfl (by kernel_rfl) (fun K hK => ?_)
        refine wp_store_row 26 (.tmp 11) (.tmp 29) rfl W6.heap.size #[.int .u64 0, .int .u64 0] rfl rfl 26 #[.int .u64 0, .int .u64 0] (heap_alloc_new W6.drew _) (by rw [info26]; rfl) rfl (two_one _ _) ?_
        refine hK.out (RowKit.Below W6.drew.heap.size W6.drew) _ _ (fun _ h => h) (below_setRow ((RowKit.Below.refl _ _).alloc (Nat.le_refl _) _) (Nat.le_refl _) _) ?_
        clear hK K
        simp only [List.set_cons_zero, List.set_cons_succ]
        refine seqS_take 18 (v := ?_) rfl (by kernel_rfl) (fun _ _ _ h => h) (Or.inl ⟨by rfl, fun w' hb => ?_⟩) ?_
        rotate_left
        · have kf := KF w' hb
          go_simp
          with_reducible rfl
        simp only [Act.put, List.setIfInBounds_toArray, List.set_cons_zero, List.set_cons_succ]
        refine seqS_end (by kernel_rfl) (fun hEnd => ?_)
        clear KF hEnd
        obtain ⟨u, hu⟩ : ∃ u, u = ((W6.alloc (.cells #[.int .u64 0, .int .u64 0] 26)).drew).setRow W6.heap.size #[.int .u64 0, .int .u64 0] := ⟨_, rfl⟩
        rw [← hu]
        have hbu : RowKit.Below W6.heap.size W6 u := by rw [hu]; exact below_setRow (((Gr.refl W6).alloc _).drew.below) (Nat.le_refl _) _
        have hz11 : u.heap[W6.heap.size]? = some (.cells #[.int .u64 0, .int .u64 0] 26 (0, 0)) := by rw [hu]; exact setRow_heap _ _ _ _ _ _ (heap_alloc_new W6 _)
        clear hu
        have hbU := hbu
        have hz11' := hz11
        obtain ⟨U, hU⟩ : ∃ U, U = u := ⟨_, rfl⟩
        rw [← hU] at hbU hz11' ⊢
        clear hU hz11 hbu
        go_wp2_with fail
        have BU := B6.trans (hbU.mono B6.size)
        refine (P28.out _ (hM1.below BU)).mono ?_
        rintro e w7 ⟨rfl, hb7⟩
        have hq7 : RowKit.Below w7.heap.size w7 (w7.alloc (.cells #[.int .u64 (r.1 : Int), .int .u64 (r.2 : Int)] 26)) := (RowKit.Below.refl _ _).alloc (Nat.le_refl _) _
        have hz13 : (w7.alloc (.cells #[.int .u64 (r.1 : Int), .int .u64 (r.2 : Int)] 26)).heap[w7.heap.size]? = some (.cells #[.int .u64 (r.1 : Int), .int .u64 (r.2 : Int)] 26 (0, 0)) := heap_alloc_new _ _
        have hbA := belT hb7 hq7
        have BA := BU.trans (hbA.mono BU.size)
        clear hb7 hq7
        go_wp2_with fail
        refine (P23.out _ (hps.below BA)).mono ?_
        rintro e w8 ⟨rfl, hb8⟩
        have hq8 : RowKit.Below w8.heap.size w8 (w8.alloc (.cells #[.int .u64 (r.1 : Int), .int .u64 (r.2 : Int)] 26)) := (RowKit.Below.refl _ _).alloc (Nat.le_refl _) _
        have hz15 : (w8.alloc (.cells #[.int .u64 (r.1 : Int), .int .u64 (r.2 : Int)] 26)).heap[w8.heap.size]? = some (.cells #[.int .u64 (r.1 : Int), .int .u64 (r.2 : Int)] 26 (0, 0)) := heap_alloc_new _ _
        have hbB := belT hb8 hq8
        have BB := BA.trans (hbB.mono BA.size)
        have g13 : (w8.alloc (.cells #[.int .u64 (r.1 : Int), .int .u64 (r.2 : Int)] 26)).heap[w7.heap.size]? = _ := (hbB.block _ (Array.getElem?_eq_some_iff.1 hz13).1).trans hz13
        have g11 : (w8.alloc (.cells #[.int .u64 (r.1 : Int), .int .u64 (r.2 : Int)] 26)).heap[W6.heap.size]? = _ := ((belT hbA hbB).block _ (Array.getElem?_eq_some_iff.1 hz11').1).trans hz11'
        have g9 : (w8.alloc (.cells #[.int .u64 (r.1 : Int), .int .u64 (r.2 : Int)] 26)).heap[w2.heap.size]? = _ := ((belT hbU (belT hbA hbB)).block _ (Array.getElem?_eq_some_iff.1 hz9).1).trans hz9
        have g5 : (w8.alloc (.cells #[.int .u64 (r.1 : Int), .int .u64 (r.2 : Int)] 26)).heap[w.heap.size]? = _ := (BB.block _ (Array.getElem?_eq_some_iff.1 hz1).1).trans hz1
        have hM8 := hM1.below BB
        have hps8 := hps.below BB
        clear hb8 hq8 hz13 hz11' hz9 hbU hbA hbB hq2 B6 BU BA
        obtain ⟨V, hV⟩ : ∃ V, V = w8.alloc (.cells #[.int .u64 (r.1 : Int), .int .u64 (r.2 : Int)] 26) := ⟨_, rfl⟩
        have HVV := Lib.hid hV
        have k50 := cell_of_row _ _ 0 _ _ _ g5
        have k51 := cell_of_row _ _ 1 _ _ _ g5
        have k90 := cell_of_row _ _ 0 _ _ _ g9
        have k91 := cell_of_row _ _ 1 _ _ _ g9
        have k110 := cell_of_row _ _ 0 _ _ _ g11
        have k111 := cell_of_row _ _ 1 _ _ _ g11
        have k130 := cell_of_row _ _ 0 _ _ _ g13
        have k131 := cell_of_row _ _ 1 _ _ _ g13
        have k150 := cell_of_row _ _ 0 _ _ _ hz15
        have k151 := cell_of_row _ _ 1 _ _ _ hz15
        clear g5 g9 g11 g13 hz15 hV
        go_wp2_with fail
        refine (P18.out _ hM8).mono ?_
        rintro e w9 ⟨rfl, hb9⟩
        have BC := BB.trans (hb9.mono BB.size)
        clear hM8 hps8 k50 k51 k90 k91 k110 k111 k130 k131 k150 k151 hb9
        go_wp2_with fail
        go_roundw
        case rel => exact ⟨n + 1, by omega, by omega, by go_num, BC⟩
        case measure => simp [intOf]; omega
      · have dA : decide (n < 1) = false := decide_eq_false hA
        have dA2 : decide (1 ≤ n) = true := decide_eq_true (by omega)
        rw [dA, Bool.false_or] at P18
        obtain ⟨zz, hzz⟩ : ∃ zz, decide (n ≤ (haveN lp p : Int)) = zz := ⟨_, rfl⟩
        rw [hzz] at P18
        by_cases hBn : 5 < n
        · have dB : decide (n ≤ 5) = false := decide_eq_false (by omega)
          have hg : getM D n = none := by rw [HVW.out n, if_neg (by omega)]
          rw [hg, show optV none = .tuple #[.agg #[.int .u64 0, .int .u64 0], .bool false] from rfl] at PO
          clear hg
          go_wp2_with fail
          refine (PO.out _ hM).mono ?_
          rintro e w2 ⟨rfl, hb2⟩
          have hq2 : RowKit.Below w2.heap.size w2 (w2.alloc (.cells #[.int .u64 0, .int .u64 0] 26)) := (RowKit.Below.refl _ _).alloc (Nat.le_refl _) _
          have hz9 : (w2.alloc (.cells #[.int .u64 0, .int .u64 0] 26)).heap[w2.heap.size]? = some (.cells #[.int .u64 0, .int .u64 0] 26 (0, 0)) := heap_alloc_new _ _
          have B6 := hb.trans (belT hb2 hq2 |>.mono hb.size)
          clear hM hb2 PO
          go_wp2_with fail
          obtain ⟨W6, hW6⟩ : ∃ W6, W6 = w2.alloc (.cells #[.int .u64 0, .int .u64 0] 26) := ⟨_, rfl⟩
          rw [← hW6] at hq2 hz9 B6 ⊢
          clear hW6 hb
          have KF : ∀ w', RowKit.Below W6.drew.heap.size W6.drew w' → True := fun w' hg => trivial
          refine seqS_start (RowKit.Below W6.drew.heap.size W6.drew) 19 [false, false, false, false, false, false, false, false, false, false, false, false, false, false, false, false, false, false, false] (by kernel_rfl) rfl rfl (RowKit.Below.refl _ _) ?_
          refine seqS_take 0 (v := ?_) rfl (by kernel_rfl) (fun _ _ _ h => h) (Or.inl ⟨by rfl, fun w' hb => ?_⟩) ?_
          rotate_left
          · have kf := KF w' hb
            go_simp
            with_reducible rfl
          simp only [Act.put, List.setIfInBounds_toArray, List.set_cons_zero, List.set_cons_succ]
          refine seqS_take 1 (v := ?_) rfl (by kernel_rfl) (fun _ _ _ h => h) (Or.inl ⟨by rfl, fun w' hb => ?_⟩) ?_
          rotate_left
          · have kf := KF w' hb
            go_simp
            with_reducible rfl
          simp only [Act.put, List.setIfInBounds_toArray, List.set_cons_zero, List.set_cons_succ]
          refine seqS_take 2 (v := ?_) rfl (by kernel_rfl) (fun _ _ _ h => h) (Or.inl ⟨by rfl, fun w' hb => ?_⟩) ?_
          rotate_left
          · have kf := KF w' hb
            go_simp
            with_reducible rfl
          simp only [Act.put, List.setIfInBounds_toArray, List.set_cons_zero, List.set_cons_succ]
          refine seqS_take 3 (v := ?_) rfl (by kernel_rfl) (fun _ _ _ h => h) (Or.inl ⟨by rfl, fun w' hb => ?_⟩) ?_
          rotate_left
          · have kf := KF w' hb
            go_simp
            with_reducible rfl
          simp only [Act.put, List.setIfInBounds_toArray, List.set_cons_zero, List.set_cons_succ]
          refine seqS_take 4 (v := ?_) rfl (by kernel_rfl) (fun _ _ _ h => h) (Or.inl ⟨by rfl, fun w' hb => ?_⟩) ?_
          rotate_left
          · have kf := KF w' hb
            go_simp
            with_reducible rfl
          simp only [Act.put, List.setIfInBounds_toArray, List.set_cons_zero, List.set_cons_succ]
          refine seqS_take 5 (v := ?_) rfl (by kernel_rfl) (fun _ _ _ h => h) (Or.inl ⟨by rfl, fun w' hb => ?_⟩) ?_
          rotate_left
          · have kf := KF w' hb
            go_simp
            with_reducible rfl
          simp only [Act.put, List.setIfInBounds_toArray, List.set_cons_zero, List.set_cons_succ]
          refine seqS_take 6 (v := ?_) rfl (by kernel_rfl) (fun _ _ _ h => h) (Or.inl ⟨by rfl, fun w' hb => ?_⟩) ?_
          rotate_left
          · have kf := KF w' hb
            go_simp
            with_reducible rfl
          simp only [Act.put, List.setIfInBounds_toArray, List.set_cons_zero, List.set_cons_succ]
          refine seqS_take 7 (v := ?_) rfl (by kernel_rfl) (fun _ _ _ h => h) (Or.inl ⟨by rfl, fun w' hb => ?_⟩) ?_
          rotate_left
          · have kf := KF w' hb
            go_simp
            with_reducible rfl
          simp only [Act.put, List.setIfInBounds_toArray, List.set_cons_zero, List.set_cons_succ]
          refine seqS_take 8 (v := undef) rfl (by kernel_rfl) (fun _ _ _ h => h) (Or.inr ⟨by rfl, rfl⟩) ?_
          simp only [Act.put, List.setIfInBounds_toArray, List.set_cons_zero, List.set_cons_succ]
          refine seqS_take 9 (v := undef) rfl (by kernel_rfl) (fun _ _ _ h => h) (Or.inr ⟨by rfl, rfl⟩) ?_
          simp only [Act.put, List.setIfInBounds_toArray, List.set_cons_zero, List.set_cons_succ]
          refine seqS_take 10 (v := undef) rfl (by kernel_rfl) (fun _ _ _ h => h) (Or.inr ⟨by rfl, rfl⟩) ?_
          simp only [Act.put, List.setIfInBounds_toArray, List.set_cons_zero, List.set_cons_succ]
          refine seqS_take 11 (v := undef) rfl (by kernel_rfl) (fun _ _ _ h => h) (Or.inr ⟨by rfl, rfl⟩) ?_
          simp only [Act.put, List.setIfInBounds_toArray, List.set_cons_zero, List.set_cons_succ]
          refine seqS_take 12 (v := undef) rfl (by kernel_rfl) (fun _ _ _ h => h) (Or.inr ⟨by rfl, rfl⟩) ?_
          simp only [Act.put, List.setIfInBounds_toArray, List.set_cons_zero, List.set_cons_succ]
          refine seqS_take 13 (v := undef) rfl (by kernel_rfl) (fun _ _ _ h => h) (Or.inr ⟨by rfl, rfl⟩) ?_
          simp only [Act.put, List.setIfInBounds_toArray, List.set_cons_zero, List.set_cons_succ]
          refine seqS_take 14 (v := undef) rfl (by kernel_rfl) (fun _ _ _ h => h) (Or.inr ⟨by rfl, rfl⟩) ?_
          simp only [Act.put, List.setIfInBounds_toArray, List.set_cons_zero, List.set_cons_succ]
          refine seqS_take 15 (v := ?_) rfl (by kernel_rfl) (fun _ _ _ h => h) (Or.inl ⟨by rfl, fun w' hb => ?_⟩) ?_
          rotate_left
          · have kf := KF w' hb
            go_simp
            with_reducible rfl
          simp only [Act.put, List.setIfInBounds_toArray, List.set_cons_zero, List.set_cons_succ]
          refine seqS_do 16 rfl (by kernel_rfl) (fun K hK => ?_)
          go_simp
          refine hK.out (RowKit.Below W6.drew.heap.size W6.drew) _ _ (fun _ h => h) ((RowKit.Below.refl _ _).alloc (Nat.le_refl _) _) ?_
          clear hK K
          simp only [List.set_cons_zero, List.set_cons_succ]
          refine seqS_do 17 rfl (by kernel_rfl) (fun K hK => ?_)
          refine wp_store_row 26 (.tmp 11) (.tmp 29) rfl W6.heap.size #[.int .u64 0, .int .u64 0] rfl rfl 26 #[.int .u64 0, .int .u64 0] (heap_alloc_new W6.drew _) (by rw [info26]; rfl) rfl (two_one _ _) ?_
          refine hK.out (RowKit.Below W6.drew.heap.size W6.drew) _ _ (fun _ h => h) (below_setRow ((RowKit.Below.refl _ _).alloc (Nat.le_refl _) _) (Nat.le_refl _) _) ?_
          clear hK K
          simp only [List.set_cons_zero, List.set_cons_succ]
          refine seqS_take 18 (v := ?_) rfl (by kernel_rfl) (fun _ _ _ h => h) (Or.inl ⟨by rfl, fun w' hb => ?_⟩) ?_
          rotate_left
          · have kf := KF w' hb
            go_simp
            with_reducible rfl
          simp only [Act.put, List.setIfInBounds_toArray, List.set_cons_zero, List.set_cons_succ]
          refine seqS_end (by kernel_rfl) (fun hEnd => ?_)
          clear KF hEnd
          obtain ⟨u, hu⟩ : ∃ u, u = ((W6.alloc (.cells #[.int .u64 0, .int .u64 0] 26)).drew).setRow W6.heap.size #[.int .u64 0, .int .u64 0] := ⟨_, rfl⟩
          rw [← hu]
          have hbu : RowKit.Below W6.heap.size W6 u := by rw [hu]; exact below_setRow (((Gr.refl W6).alloc _).drew.below) (Nat.le_refl _) _
          have hz11 : u.heap[W6.heap.size]? = some (.cells #[.int .u64 0, .int .u64 0] 26 (0, 0)) := by rw [hu]; exact setRow_heap _ _ _ _ _ _ (heap_alloc_new W6 _)
          clear hu
          have hbU := hbu
          have hz11' := hz11
          obtain ⟨U, hU⟩ : ∃ U, U = u := ⟨_, rfl⟩
          rw [← hU] at hbU hz11' ⊢
          clear hU hz11 hbu
          go_wp2_with fail
          have BU := B6.trans (hbU.mono B6.size)
          refine (P28.out _ (hM1.below BU)).mono ?_
          rintro e w7 ⟨rfl, hb7⟩
          have hq7 : RowKit.Below w7.heap.size w7 (w7.alloc (.cells #[.int .u64 (r.1 : Int), .int .u64 (r.2 : Int)] 26)) := (RowKit.Below.refl _ _).alloc (Nat.le_refl _) _
          have hz13 : (w7.alloc (.cells #[.int .u64 (r.1 : Int), .int .u64 (r.2 : Int)] 26)).heap[w7.heap.size]? = some (.cells #[.int .u64 (r.1 : Int), .int .u64 (r.2 : Int)] 26 (0, 0)) := heap_alloc_new _ _
          have hbA := belT hb7 hq7
          have BA := BU.trans (hbA.mono BU.size)
          clear hb7 hq7
          go_wp2_with fail
          refine (P23.out _ (hps.below BA)).mono ?_
          rintro e w8 ⟨rfl, hb8⟩
          have hq8 : RowKit.Below w8.heap.size w8 (w8.alloc (.cells #[.int .u64 (r.1 : Int), .int .u64 (r.2 : Int)] 26)) := (RowKit.Below.refl _ _).alloc (Nat.le_refl _) _
          have hz15 : (w8.alloc (.cells #[.int .u64 (r.1 : Int), .int .u64 (r.2 : Int)] 26)).heap[w8.heap.size]? = some (.cells #[.int .u64 (r.1 : Int), .int .u64 (r.2 : Int)] 26 (0, 0)) := heap_alloc_new _ _
          have hbB := belT hb8 hq8
          have BB := BA.trans (hbB.mono BA.size)
          have g13 : (w8.alloc (.cells #[.int .u64 (r.1 : Int), .int .u64 (r.2 : Int)] 26)).heap[w7.heap.size]? = _ := (hbB.block _ (Array.getElem?_eq_some_iff.1 hz13).1).trans hz13
          have g11 : (w8.alloc (.cells #[.int .u64 (r.1 : Int), .int .u64 (r.2 : Int)] 26)).heap[W6.heap.size]? = _ := ((belT hbA hbB).block _ (Array.getElem?_eq_some_iff.1 hz11').1).trans hz11'
          have g9 : (w8.alloc (.cells #[.int .u64 (r.1 : Int), .int .u64 (r.2 : Int)] 26)).heap[w2.heap.size]? = _ := ((belT hbU (belT hbA hbB)).block _ (Array.getElem?_eq_some_iff.1 hz9).1).trans hz9
          have g5 : (w8.alloc (.cells #[.int .u64 (r.1 : Int), .int .u64 (r.2 : Int)] 26)).heap[w.heap.size]? = _ := (BB.block _ (Array.getElem?_eq_some_iff.1 hz1).1).trans hz1
          have hM8 := hM1.below BB
          have hps8 := hps.below BB
          clear hb8 hq8 hz13 hz11' hz9 hbU hbA hbB hq2 B6 BU BA
          obtain ⟨V, hV⟩ : ∃ V, V = w8.alloc (.cells #[.int .u64 (r.1 : Int), .int .u64 (r.2 : Int)] 26) := ⟨_, rfl⟩
          have HVV := Lib.hid hV
          have k50 := cell_of_row _ _ 0 _ _ _ g5
          have k51 := cell_of_row _ _ 1 _ _ _ g5
          have k90 := cell_of_row _ _ 0 _ _ _ g9
          have k91 := cell_of_row _ _ 1 _ _ _ g9
          have k110 := cell_of_row _ _ 0 _ _ _ g11
          have k111 := cell_of_row _ _ 1 _ _ _ g11
          have k130 := cell_of_row _ _ 0 _ _ _ g13
          have k131 := cell_of_row _ _ 1 _ _ _ g13
          have k150 := cell_of_row _ _ 0 _ _ _ hz15
          have k151 := cell_of_row _ _ 1 _ _ _ hz15
          clear g5 g9 g11 g13 hz15 hV
          go_wp2_with fail
          refine (P18.out _ hM8).mono ?_
          rintro e w9 ⟨rfl, hb9⟩
          have BC := BB.trans (hb9.mono BB.size)
          have j50 := Below.cellSome hb9 k50
          have j51 := Below.cellSome hb9 k51
          have hps9 := hps8.below hb9
          clear hM8 hps8 k50 k51 k90 k91 k110 k111 k130 k131 k150 k151 hb9
          go_wp2_with fail
          refine (P27.out _ hps9).mono ?_
          rintro e w10 ⟨rfl, hb10⟩
          have BD := BC.trans (hb10.below.mono BC.size)
          clear j50 j51 hps9 hb10
          go_wp2_with fail
          go_roundw
          case rel => exact ⟨n + 1, by omega, by omega, by go_num, BD⟩
          case measure => simp [intOf]; omega
        · have dB : decide (n ≤ 5) = true := decide_eq_true (by omega)
          obtain ⟨m, hm⟩ : ∃ m : Nat, n = (m : Int) + 1 := ⟨(n - 1).toNat, by omega⟩
          have hm5 : m < 5 := by omega
          have hmi : n - 1 = (m : Int) := by omega
          have hwm : IntKind.i64.wrap (m : Int) = (m : Int) := by unfold IntKind.wrap; simp [IntKind.signed, IntKind.bits]; omega
          have hg := HVW.out n
          rw [show (n - 1).toNat = m by omega] at hg
          have hfl : m < f.length := by rw [hR1.lf]; exact hm5
          have hsl : m < s.length := by rw [hR1.ls]; exact hm5
          rw [getD_at s m hsl, show f.getD m false = f[m] by simp [hfl]] at hg
          have hn15 : 1 ≤ n ∧ n ≤ 5 := by omega
          clear hm
          obtain ⟨zf, hfv⟩ : ∃ z, f[m] = z := ⟨_, rfl⟩
          rw [hfv] at hg
          cases zf
          · rw [if_neg (by rintro ⟨_, _, h⟩; cases h)] at hg
            rw [hg, show optV none = .tuple #[.agg #[.int .u64 0, .int .u64 0], .bool false] from rfl] at PO
            clear hg
            go_wp2_with fail
            refine (PO.out _ hM).mono ?_
            rintro e w2 ⟨rfl, hb2⟩
            have hq2 : RowKit.Below w2.heap.size w2 (w2.alloc (.cells #[.int .u64 0, .int .u64 0] 26)) := (RowKit.Below.refl _ _).alloc (Nat.le_refl _) _
            have hz9 : (w2.alloc (.cells #[.int .u64 0, .int .u64 0] 26)).heap[w2.heap.size]? = some (.cells #[.int .u64 0, .int .u64 0] 26 (0, 0)) := heap_alloc_new _ _
            have B6 := hb.trans (belT hb2 hq2 |>.mono hb.size)
            clear hM hb2 PO
            go_wp2_with fail
            obtain ⟨W6, hW6⟩ : ∃ W6, W6 = w2.alloc (.cells #[.int .u64 0, .int .u64 0] 26) := ⟨_, rfl⟩
            rw [← hW6] at hq2 hz9 B6 ⊢
            clear hW6 hb
            have KF : ∀ w', RowKit.Below W6.drew.heap.size W6.drew w' → w'.cell? ⟨rb, 10 + m, none⟩ = some (.bool false) ∧ (m : Int) < 5 ∧ IntKind.i64.wrap (m : Int) = (m : Int) := fun w' hg => by
              have hb' := (Gr.refl W6).drew.below.trans hg
              have hR6 := (hR1.below B6).below hb'
              have := hR6.flag m (by rw [hR6.lf]; omega)
              rw [hfv] at this
              exact ⟨this, by omega, hwm⟩
            refine seqS_start (RowKit.Below W6.drew.heap.size W6.drew) 19 [false, false, false, false, false, false, false, false, false, false, false, false, false, false, false, false, false, false, false] (by kernel_rfl) rfl rfl (RowKit.Below.refl _ _) ?_
            refine seqS_take 0 (v := ?_) rfl (by kernel_rfl) (fun _ _ _ h => h) (Or.inl ⟨by rfl, fun w' hb => ?_⟩) ?_
            rotate_left
            · have kf := KF w' hb
              go_simp
              with_reducible rfl
            simp only [Act.put, List.setIfInBounds_toArray, List.set_cons_zero, List.set_cons_succ]
            refine seqS_take 1 (v := ?_) rfl (by kernel_rfl) (fun _ _ _ h => h) (Or.inl ⟨by rfl, fun w' hb => ?_⟩) ?_
            rotate_left
            · have kf := KF w' hb
              go_simp
              with_reducible rfl
            simp only [Act.put, List.setIfInBounds_toArray, List.set_cons_zero, List.set_cons_succ]
            refine seqS_take 2 (v := ?_) rfl (by kernel_rfl) (fun _ _ _ h => h) (Or.inl ⟨by rfl, fun w' hb => ?_⟩) ?_
            rotate_left
            · have kf := KF w' hb
              go_simp
              with_reducible rfl
            simp only [Act.put, List.setIfInBounds_toArray, List.set_cons_zero, List.set_cons_succ]
            refine seqS_take 3 (v := ?_) rfl (by kernel_rfl) (fun _ _ _ h => h) (Or.inl ⟨by rfl, fun w' hb => ?_⟩) ?_
            rotate_left
            · have kf := KF w' hb
              go_simp
              with_reducible rfl
            simp only [Act.put, List.setIfInBounds_toArray, List.set_cons_zero, List.set_cons_succ]
            refine seqS_take 4 (v := ?_) rfl (by kernel_rfl) (fun _ _ _ h => h) (Or.inl ⟨by rfl, fun w' hb => ?_⟩) ?_
            rotate_left
            · have kf := KF w' hb
              go_simp
              with_reducible rfl
            simp only [Act.put, List.setIfInBounds_toArray, List.set_cons_zero, List.set_cons_succ]
            refine seqS_take 5 (v := ?_) rfl (by kernel_rfl) (fun _ _ _ h => h) (Or.inl ⟨by rfl, fun w' hb => ?_⟩) ?_
            rotate_left
            · have kf := KF w' hb
              go_simp
              with_reducible rfl
            simp only [Act.put, List.setIfInBounds_toArray, List.set_cons_zero, List.set_cons_succ]
            refine seqS_take 6 (v := ?_) rfl (by kernel_rfl) (fun _ _ _ h => h) (Or.inl ⟨by rfl, fun w' hb => ?_⟩) ?_
            rotate_left
            · have kf := KF w' hb
              go_simp
              with_reducible rfl
            simp only [Act.put, List.setIfInBounds_toArray, List.set_cons_zero, List.set_cons_succ]
            refine seqS_take 7 (v := ?_) rfl (by kernel_rfl) (fun _ _ _ h => h) (Or.inl ⟨by rfl, fun w' hb => ?_⟩) ?_
            rotate_left
            · have kf := KF w' hb
              go_simp
              with_reducible rfl
            simp only [Act.put, List.setIfInBounds_toArray, List.set_cons_zero, List.set_cons_succ]
            refine seqS_take 8 (v := ?_) rfl (by kernel_rfl) (fun _ _ _ h => h) (Or.inl ⟨by rfl, fun w' hb => ?_⟩) ?_
            rotate_left
            · have kf := KF w' hb
              go_simp
              with_reducible rfl
            simp only [Act.put, List.setIfInBounds_toArray, List.set_cons_zero, List.set_cons_succ]
            refine seqS_take 9 (v := ?_) rfl (by kernel_rfl) (fun _ _ _ h => h) (Or.inl ⟨by rfl, fun w' hb => ?_⟩) ?_
            rotate_left
            · have kf := KF w' hb
              go_simp
              with_reducible rfl
            simp only [Act.put, List.setIfInBounds_toArray, List.set_cons_zero, List.set_cons_succ]
            refine seqS_take 10 (v := ?_) rfl (by kernel_rfl) (fun _ _ _ h => h) (Or.inl ⟨by rfl, fun w' hb => ?_⟩) ?_
            rotate_left
            · have kf := KF w' hb
              go_simp
              with_reducible rfl
            simp only [Act.put, List.setIfInBounds_toArray, List.set_cons_zero, List.set_cons_succ]
            refine seqS_take 11 (v := ?_) rfl (by kernel_rfl) (fun _ _ _ h => h) (Or.inl ⟨by rfl, fun w' hb => ?_⟩) ?_
            rotate_left
            · have kf := KF w' hb
              go_simp
              with_reducible rfl
            simp only [Act.put, List.setIfInBounds_toArray, List.set_cons_zero, List.set_cons_succ]
            refine seqS_take 12 (v := ?_) rfl (by kernel_rfl) (fun _ _ _ h => h) (Or.inl ⟨by rfl, fun w' hb => ?_⟩) ?_
            rotate_left
            · have kf := KF w' hb
              go_simp
              with_reducible rfl
            simp only [Act.put, List.setIfInBounds_toArray, List.set_cons_zero, List.set_cons_succ]
            refine seqS_take 13 (v := ?_) rfl (by kernel_rfl) (fun _ _ _ h => h) (Or.inl ⟨by rfl, fun w' hb => ?_⟩) ?_
            rotate_left
            · have kf := KF w' hb
              go_simp
              with_reducible rfl
            simp only [Act.put, List.setIfInBounds_toArray, List.set_cons_zero, List.set_cons_succ]
            refine seqS_take 14 (v := ?_) rfl (by kernel_rfl) (fun _ _ _ h => h) (Or.inl ⟨by rfl, fun w' hb => ?_⟩) ?_
            rotate_left
            · have kf := KF w' hb
              go_simp
              with_reducible rfl
            simp only [Act.put, List.setIfInBounds_toArray, List.set_cons_zero, List.set_cons_succ]
            refine seqS_take 15 (v := ?_) rfl (by kernel_rfl) (fun _ _ _ h => h) (Or.inl ⟨by rfl, fun w' hb => ?_⟩) ?_
            rotate_left
            · have kf := KF w' hb
              go_simp
              with_reducible rfl
            simp only [Act.put, List.setIfInBounds_toArray, List.set_cons_zero, List.set_cons_succ]
            refine seqS_do 16 rfl (by kernel_rfl) (fun K hK => ?_)
            go_simp
            refine hK.out (RowKit.Below W6.drew.heap.size W6.drew) _ _ (fun _ h => h) ((RowKit.Below.refl _ _).alloc (Nat.le_refl _) _) ?_
            clear hK K
            simp only [List.set_cons_zero, List.set_cons_succ]
            refine seqS_do 17 rfl (by kernel_rfl) (fun K hK => ?_)
            refine wp_store_row 26 (.tmp 11) (.tmp 29) rfl W6.heap.size #[.int .u64 0, .int .u64 0] rfl rfl 26 #[.int .u64 0, .int .u64 0] (heap_alloc_new W6.drew _) (by rw [info26]; rfl) rfl (two_one _ _) ?_
            refine hK.out (RowKit.Below W6.drew.heap.size W6.drew) _ _ (fun _ h => h) (below_setRow ((RowKit.Below.refl _ _).alloc (Nat.le_refl _) _) (Nat.le_refl _) _) ?_
            clear hK K
            simp only [List.set_cons_zero, List.set_cons_succ]
            refine seqS_take 18 (v := ?_) rfl (by kernel_rfl) (fun _ _ _ h => h) (Or.inl ⟨by rfl, fun w' hb => ?_⟩) ?_
            rotate_left
            · have kf := KF w' hb
              go_simp
              with_reducible rfl
            simp only [Act.put, List.setIfInBounds_toArray, List.set_cons_zero, List.set_cons_succ]
            refine seqS_end (by kernel_rfl) (fun hEnd => ?_)
            clear KF hEnd
            obtain ⟨u, hu⟩ : ∃ u, u = ((W6.alloc (.cells #[.int .u64 0, .int .u64 0] 26)).drew).setRow W6.heap.size #[.int .u64 0, .int .u64 0] := ⟨_, rfl⟩
            rw [← hu]
            have hbu : RowKit.Below W6.heap.size W6 u := by rw [hu]; exact below_setRow (((Gr.refl W6).alloc _).drew.below) (Nat.le_refl _) _
            have hz11 : u.heap[W6.heap.size]? = some (.cells #[.int .u64 0, .int .u64 0] 26 (0, 0)) := by rw [hu]; exact setRow_heap _ _ _ _ _ _ (heap_alloc_new W6 _)
            clear hu
            have hbU := hbu
            have hz11' := hz11
            obtain ⟨U, hU⟩ : ∃ U, U = u := ⟨_, rfl⟩
            rw [← hU] at hbU hz11' ⊢
            clear hU hz11 hbu
            go_wp2_with fail
            have BU := B6.trans (hbU.mono B6.size)
            refine (P28.out _ (hM1.below BU)).mono ?_
            rintro e w7 ⟨rfl, hb7⟩
            have hq7 : RowKit.Below w7.heap.size w7 (w7.alloc (.cells #[.int .u64 (r.1 : Int), .int .u64 (r.2 : Int)] 26)) := (RowKit.Below.refl _ _).alloc (Nat.le_refl _) _
            have hz13 : (w7.alloc (.cells #[.int .u64 (r.1 : Int), .int .u64 (r.2 : Int)] 26)).heap[w7.heap.size]? = some (.cells #[.int .u64 (r.1 : Int), .int .u64 (r.2 : Int)] 26 (0, 0)) := heap_alloc_new _ _
            have hbA := belT hb7 hq7
            have BA := BU.trans (hbA.mono BU.size)
            clear hb7 hq7
            go_wp2_with fail
            refine (P23.out _ (hps.below BA)).mono ?_
            rintro e w8 ⟨rfl, hb8⟩
            have hq8 : RowKit.Below w8.heap.size w8 (w8.alloc (.cells #[.int .u64 (r.1 : Int), .int .u64 (r.2 : Int)] 26)) := (RowKit.Below.refl _ _).alloc (Nat.le_refl _) _
            have hz15 : (w8.alloc (.cells #[.int .u64 (r.1 : Int), .int .u64 (r.2 : Int)] 26)).heap[w8.heap.size]? = some (.cells #[.int .u64 (r.1 : Int), .int .u64 (r.2 : Int)] 26 (0, 0)) := heap_alloc_new _ _
            have hbB := belT hb8 hq8
            have BB := BA.trans (hbB.mono BA.size)
            have g13 : (w8.alloc (.cells #[.int .u64 (r.1 : Int), .int .u64 (r.2 : Int)] 26)).heap[w7.heap.size]? = _ := (hbB.block _ (Array.getElem?_eq_some_iff.1 hz13).1).trans hz13
            have g11 : (w8.alloc (.cells #[.int .u64 (r.1 : Int), .int .u64 (r.2 : Int)] 26)).heap[W6.heap.size]? = _ := ((belT hbA hbB).block _ (Array.getElem?_eq_some_iff.1 hz11').1).trans hz11'
            have g9 : (w8.alloc (.cells #[.int .u64 (r.1 : Int), .int .u64 (r.2 : Int)] 26)).heap[w2.heap.size]? = _ := ((belT hbU (belT hbA hbB)).block _ (Array.getElem?_eq_some_iff.1 hz9).1).trans hz9
            have g5 : (w8.alloc (.cells #[.int .u64 (r.1 : Int), .int .u64 (r.2 : Int)] 26)).heap[w.heap.size]? = _ := (BB.block _ (Array.getElem?_eq_some_iff.1 hz1).1).trans hz1
            have hM8 := hM1.below BB
            have hps8 := hps.below BB
            clear hb8 hq8 hz13 hz11' hz9 hbU hbA hbB hq2 B6 BU BA
            obtain ⟨V, hV⟩ : ∃ V, V = w8.alloc (.cells #[.int .u64 (r.1 : Int), .int .u64 (r.2 : Int)] 26) := ⟨_, rfl⟩
            have HVV := Lib.hid hV
            have k50 := cell_of_row _ _ 0 _ _ _ g5
            have k51 := cell_of_row _ _ 1 _ _ _ g5
            have k90 := cell_of_row _ _ 0 _ _ _ g9
            have k91 := cell_of_row _ _ 1 _ _ _ g9
            have k110 := cell_of_row _ _ 0 _ _ _ g11
            have k111 := cell_of_row _ _ 1 _ _ _ g11
            have k130 := cell_of_row _ _ 0 _ _ _ g13
            have k131 := cell_of_row _ _ 1 _ _ _ g13
            have k150 := cell_of_row _ _ 0 _ _ _ hz15
            have k151 := cell_of_row _ _ 1 _ _ _ hz15
            clear g5 g9 g11 g13 hz15 hV
            go_wp2_with fail
            refine (P18.out _ hM8).mono ?_
            rintro e w9 ⟨rfl, hb9⟩
            have BC := BB.trans (hb9.mono BB.size)
            have j50 := Below.cellSome hb9 k50
            have j51 := Below.cellSome hb9 k51
            have hps9 := hps8.below hb9
            clear hM8 hps8 k50 k51 k90 k91 k110 k111 k130 k131 k150 k151 hb9
            go_wp2_with fail
            refine (P27.out _ hps9).mono ?_
            rintro e w10 ⟨rfl, hb10⟩
            have BD := BC.trans (hb10.below.mono BC.size)
            clear j50 j51 hps9 hb10
            go_wp2_with fail
            go_roundw
            case rel => exact ⟨n + 1, by omega, by omega, by go_num, BD⟩
            case measure => simp [intOf]; omega
          · rw [if_pos ⟨hn15.1, hn15.2, rfl⟩] at hg
            obtain ⟨y, hyv⟩ : ∃ y, s[m] = y := ⟨_, rfl⟩
            rw [hyv] at hg
            rw [hg, show optV (some y) = .tuple #[.agg #[.int .u64 (y.1 : Int), .int .u64 (y.2 : Int)], .bool true] from rfl] at PO
            have nqy := neq26 y y
            rw [decide_eq_true rfl] at nqy
            clear hg
            go_wp2_with fail
            refine (PO.out _ hM).mono ?_
            rintro e w2 ⟨rfl, hb2⟩
            have hq2 : RowKit.Below w2.heap.size w2 (w2.alloc (.cells #[.int .u64 (y.1 : Int), .int .u64 (y.2 : Int)] 26)) := (RowKit.Below.refl _ _).alloc (Nat.le_refl _) _
            have hz9 : (w2.alloc (.cells #[.int .u64 (y.1 : Int), .int .u64 (y.2 : Int)] 26)).heap[w2.heap.size]? = some (.cells #[.int .u64 (y.1 : Int), .int .u64 (y.2 : Int)] 26 (0, 0)) := heap_alloc_new _ _
            have B6 := hb.trans (belT hb2 hq2 |>.mono hb.size)
            clear hM hb2 PO
            go_wp2_with fail
            obtain ⟨W6, hW6⟩ : ∃ W6, W6 = w2.alloc (.cells #[.int .u64 (y.1 : Int), .int .u64 (y.2 : Int)] 26) := ⟨_, rfl⟩
            rw [← hW6] at hq2 hz9 B6 ⊢
            clear hW6 hb
            have KF : ∀ w', RowKit.Below W6.drew.heap.size W6.drew w' → w'.cell? ⟨rb, 10 + m, none⟩ = some (.bool true) ∧ (m : Int) < 5 ∧ IntKind.i64.wrap (m : Int) = (m : Int) := fun w' hg => by
              have hb' := (Gr.refl W6).drew.below.trans hg
              have hR6 := (hR1.below B6).below hb'
              have := hR6.flag m (by rw [hR6.lf]; omega)
              rw [hfv] at this
              exact ⟨this, by omega, hwm⟩
            refine seqS_start (RowKit.Below W6.drew.heap.size W6.drew) 19 [false, false, false, false, false, false, false, false, false, false, false, false, false, false, false, false, false, false, false] (by kernel_rfl) rfl rfl (RowKit.Below.refl _ _) ?_
            refine seqS_take 0 (v := ?_) rfl (by kernel_rfl) (fun _ _ _ h => h) (Or.inl ⟨by rfl, fun w' hb => ?_⟩) ?_
            rotate_left
            · have kf := KF w' hb
              go_simp
              with_reducible rfl
            simp only [Act.put, List.setIfInBounds_toArray, List.set_cons_zero, List.set_cons_succ]
            refine seqS_take 1 (v := ?_) rfl (by kernel_rfl) (fun _ _ _ h => h) (Or.inl ⟨by rfl, fun w' hb => ?_⟩) ?_
            rotate_left
            · have kf := KF w' hb
              go_simp
              with_reducible rfl
            simp only [Act.put, List.setIfInBounds_toArray, List.set_cons_zero, List.set_cons_succ]
            refine seqS_take 2 (v := ?_) rfl (by kernel_rfl) (fun _ _ _ h => h) (Or.inl ⟨by rfl, fun w' hb => ?_⟩) ?_
            rotate_left
            · have kf := KF w' hb
              go_simp
              with_reducible rfl
            simp only [Act.put, List.setIfInBounds_toArray, List.set_cons_zero, List.set_cons_succ]
            refine seqS_take 3 (v := ?_) rfl (by kernel_rfl) (fun _ _ _ h => h) (Or.inl ⟨by rfl, fun w' hb => ?_⟩) ?_
            rotate_left
            · have kf := KF w' hb
              go_simp
              with_reducible rfl
            simp only [Act.put, List.setIfInBounds_toArray, List.set_cons_zero, List.set_cons_succ]
            refine seqS_take 4 (v := ?_) rfl (by kernel_rfl) (fun _ _ _ h => h) (Or.inl ⟨by rfl, fun w' hb => ?_⟩) ?_
            rotate_left
            · have kf := KF w' hb
              go_simp
              with_reducible rfl
            simp only [Act.put, List.setIfInBounds_toArray, List.set_cons_zero, List.set_cons_succ]
            refine seqS_take 5 (v := ?_) rfl (by kernel_rfl) (fun _ _ _ h => h) (Or.inl ⟨by rfl, fun w' hb => ?_⟩) ?_
            rotate_left
            · have kf := KF w' hb
              go_simp
              with_reducible rfl
            simp only [Act.put, List.setIfInBounds_toArray, List.set_cons_zero, List.set_cons_succ]
            refine seqS_take 6 (v := ?_) rfl (by kernel_rfl) (fun _ _ _ h => h) (Or.inl ⟨by rfl, fun w' hb => ?_⟩) ?_
            rotate_left
            · have kf := KF w' hb
              go_simp
              with_reducible rfl
            simp only [Act.put, List.setIfInBounds_toArray, List.set_cons_zero, List.set_cons_succ]
            refine seqS_take 7 (v := ?_) rfl (by kernel_rfl) (fun _ _ _ h => h) (Or.inl ⟨by rfl, fun w' hb => ?_⟩) ?_
            rotate_left
            · have kf := KF w' hb
              go_simp
              with_reducible rfl
            simp only [Act.put, List.setIfInBounds_toArray, List.set_cons_zero, List.set_cons_succ]
            refine seqS_take 8 (v := ?_) rfl (by kernel_rfl) (fun _ _ _ h => h) (Or.inl ⟨by rfl, fun w' hb => ?_⟩) ?_
            rotate_left
            · have kf := KF w' hb
              go_simp
              with_reducible rfl
            simp only [Act.put, List.setIfInBounds_toArray, List.set_cons_zero, List.set_cons_succ]
            refine seqS_take 9 (v := ?_) rfl (by kernel_rfl) (fun _ _ _ h => h) (Or.inl ⟨by rfl, fun w' hb => ?_⟩) ?_
            rotate_left
            · have kf := KF w' hb
              go_simp
              with_reducible rfl
            simp only [Act.put, List.setIfInBounds_toArray, List.set_cons_zero, List.set_cons_succ]
            refine seqS_take 10 (v := ?_) rfl (by kernel_rfl) (fun _ _ _ h => h) (Or.inl ⟨by rfl, fun w' hb => ?_⟩) ?_
            rotate_left
            · have kf := KF w' hb
              go_simp
              with_reducible rfl
            simp only [Act.put, List.setIfInBounds_toArray, List.set_cons_zero, List.set_cons_succ]
            refine seqS_take 11 (v := ?_) rfl (by kernel_rfl) (fun _ _ _ h => h) (Or.inl ⟨by rfl, fun w' hb => ?_⟩) ?_
            rotate_left
            · have kf := KF w' hb
              go_simp
              with_reducible rfl
            simp only [Act.put, List.setIfInBounds_toArray, List.set_cons_zero, List.set_cons_succ]
            refine seqS_take 12 (v := ?_) rfl (by kernel_rfl) (fun _ _ _ h => h) (Or.inl ⟨by rfl, fun w' hb => ?_⟩) ?_
            rotate_left
            · have kf := KF w' hb
              go_simp
              with_reducible rfl
            simp only [Act.put, List.setIfInBounds_toArray, List.set_cons_zero, List.set_cons_succ]
            refine seqS_take 13 (v := ?_) rfl (by kernel_rfl) (fun _ _ _ h => h) (Or.inl ⟨by rfl, fun w' hb => ?_⟩) ?_
            rotate_left
            · have kf := KF w' hb
              go_simp
              with_reducible rfl
            simp only [Act.put, List.setIfInBounds_toArray, List.set_cons_zero, List.set_cons_succ]
            refine seqS_take 14 (v := ?_) rfl (by kernel_rfl) (fun _ _ _ h => h) (Or.inl ⟨by rfl, fun w' hb => ?_⟩) ?_
            rotate_left
            · have kf := KF w' hb
              go_simp
              with_reducible rfl
            simp only [Act.put, List.setIfInBounds_toArray, List.set_cons_zero, List.set_cons_succ]
            refine seqS_take 15 (v := ?_) rfl (by kernel_rfl) (fun _ _ _ h => h) (Or.inl ⟨by rfl, fun w' hb => ?_⟩) ?_
            rotate_left
            · have kf := KF w' hb
              go_simp
              with_reducible rfl
            simp only [Act.put, List.setIfInBounds_toArray, List.set_cons_zero, List.set_cons_succ]
            refine seqS_do 16 rfl (by kernel_rfl) (fun K hK => ?_)
            go_simp
            refine hK.out (RowKit.Below W6.drew.heap.size W6.drew) _ _ (fun _ h => h) ((RowKit.Below.refl _ _).alloc (Nat.le_refl _) _) ?_
            clear hK K
            simp only [List.set_cons_zero, List.set_cons_succ]
            refine seqS_do 17 rfl (by kernel_rfl) (fun K hK => ?_)
            refine wp_store_row 26 (.tmp 11) (.tmp 29) rfl W6.heap.size #[.int .u64 0, .int .u64 0] rfl rfl 26 #[.int .u64 0, .int .u64 0] (heap_alloc_new W6.drew _) (by rw [info26]; rfl) rfl (two_one _ _) ?_
            refine hK.out (RowKit.Below W6.drew.heap.size W6.drew) _ _ (fun _ h => h) (below_setRow ((RowKit.Below.refl _ _).alloc (Nat.le_refl _) _) (Nat.le_refl _) _) ?_
            clear hK K
            simp only [List.set_cons_zero, List.set_cons_succ]
            refine seqS_take 18 (v := ?_) rfl (by kernel_rfl) (fun _ _ _ h => h) (Or.inl ⟨by rfl, fun w' hb => ?_⟩) ?_
            rotate_left
            · have kf := KF w' hb
              go_simp
              with_reducible rfl
            simp only [Act.put, List.setIfInBounds_toArray, List.set_cons_zero, List.set_cons_succ]
            refine seqS_end (by kernel_rfl) (fun hEnd => ?_)
            clear KF hEnd
            obtain ⟨u, hu⟩ : ∃ u, u = ((W6.alloc (.cells #[.int .u64 0, .int .u64 0] 26)).drew).setRow W6.heap.size #[.int .u64 0, .int .u64 0] := ⟨_, rfl⟩
            rw [← hu]
            have hbu : RowKit.Below W6.heap.size W6 u := by rw [hu]; exact below_setRow (((Gr.refl W6).alloc _).drew.below) (Nat.le_refl _) _
            have hz11 : u.heap[W6.heap.size]? = some (.cells #[.int .u64 0, .int .u64 0] 26 (0, 0)) := by rw [hu]; exact setRow_heap _ _ _ _ _ _ (heap_alloc_new W6 _)
            clear hu
            have hR6 := (hR1.below B6).below hbu
            have hpl := hR6.place m (by rw [hR6.ls]; omega)
            rw [hyv] at hpl
            clear hR6
            have hm5' : (m : Int) < 5 := by omega
            have hbU : RowKit.Below W6.heap.size W6 (u.setRow W6.heap.size #[.int .u64 (y.1 : Int), .int .u64 (y.2 : Int)]) := below_setRow hbu (Nat.le_refl _) _
            have hz11' := setRow_heap u W6.heap.size _ #[.int .u64 (y.1 : Int), .int .u64 (y.2 : Int)] _ _ hz11
            go_wp2_with (refine wpList_store_row rfl 26 (.tmp 11) (.tmp 52) rfl W6.heap.size #[.int .u64 (y.1 : Int), .int .u64 (y.2 : Int)] rfl rfl 26 #[.int .u64 0, .int .u64 0] hz11 (by rw [info26]; rfl) rfl (two_one _ _) ?_)
            obtain ⟨U, hU⟩ : ∃ U, U = u.setRow W6.heap.size #[.int .u64 (y.1 : Int), .int .u64 (y.2 : Int)] := ⟨_, rfl⟩
            rw [← hU] at hbU hz11' ⊢
            clear hU hz11 hbu hpl
            have BU := B6.trans (hbU.mono B6.size)
            refine (P28.out _ (hM1.below BU)).mono ?_
            rintro e w7 ⟨rfl, hb7⟩
            have hq7 : RowKit.Below w7.heap.size w7 (w7.alloc (.cells #[.int .u64 (r.1 : Int), .int .u64 (r.2 : Int)] 26)) := (RowKit.Below.refl _ _).alloc (Nat.le_refl _) _
            have hz13 : (w7.alloc (.cells #[.int .u64 (r.1 : Int), .int .u64 (r.2 : Int)] 26)).heap[w7.heap.size]? = some (.cells #[.int .u64 (r.1 : Int), .int .u64 (r.2 : Int)] 26 (0, 0)) := heap_alloc_new _ _
            have hbA := belT hb7 hq7
            have BA := BU.trans (hbA.mono BU.size)
            clear hb7 hq7
            go_wp2_with fail
            refine (P23.out _ (hps.below BA)).mono ?_
            rintro e w8 ⟨rfl, hb8⟩
            have hq8 : RowKit.Below w8.heap.size w8 (w8.alloc (.cells #[.int .u64 (r.1 : Int), .int .u64 (r.2 : Int)] 26)) := (RowKit.Below.refl _ _).alloc (Nat.le_refl _) _
            have hz15 : (w8.alloc (.cells #[.int .u64 (r.1 : Int), .int .u64 (r.2 : Int)] 26)).heap[w8.heap.size]? = some (.cells #[.int .u64 (r.1 : Int), .int .u64 (r.2 : Int)] 26 (0, 0)) := heap_alloc_new _ _
            have hbB := belT hb8 hq8
            have BB := BA.trans (hbB.mono BA.size)
            have g13 : (w8.alloc (.cells #[.int .u64 (r.1 : Int), .int .u64 (r.2 : Int)] 26)).heap[w7.heap.size]? = _ := (hbB.block _ (Array.getElem?_eq_some_iff.1 hz13).1).trans hz13
            have g11 : (w8.alloc (.cells #[.int .u64 (r.1 : Int), .int .u64 (r.2 : Int)] 26)).heap[W6.heap.size]? = _ := ((belT hbA hbB).block _ (Array.getElem?_eq_some_iff.1 hz11').1).trans hz11'
            have g9 : (w8.alloc (.cells #[.int .u64 (r.1 : Int), .int .u64 (r.2 : Int)] 26)).heap[w2.heap.size]? = _ := ((belT hbU (belT hbA hbB)).block _ (Array.getElem?_eq_some_iff.1 hz9).1).trans hz9
            have g5 : (w8.alloc (.cells #[.int .u64 (r.1 : Int), .int .u64 (r.2 : Int)] 26)).heap[w.heap.size]? = _ := (BB.block _ (Array.getElem?_eq_some_iff.1 hz1).1).trans hz1
            have hM8 := hM1.below BB
            have hps8 := hps.below BB
            clear hb8 hq8 hz13 hz11' hz9 hbU hbA hbB hq2 B6 BU BA
            obtain ⟨V, hV⟩ : ∃ V, V = w8.alloc (.cells #[.int .u64 (r.1 : Int), .int .u64 (r.2 : Int)] 26) := ⟨_, rfl⟩
            have HVV := Lib.hid hV
            have k50 := cell_of_row _ _ 0 _ _ _ g5
            have k51 := cell_of_row _ _ 1 _ _ _ g5
            have k90 := cell_of_row _ _ 0 _ _ _ g9
            have k91 := cell_of_row _ _ 1 _ _ _ g9
            have k110 := cell_of_row _ _ 0 _ _ _ g11
            have k111 := cell_of_row _ _ 1 _ _ _ g11
            have k130 := cell_of_row _ _ 0 _ _ _ g13
            have k131 := cell_of_row _ _ 1 _ _ _ g13
            have k150 := cell_of_row _ _ 0 _ _ _ hz15
            have k151 := cell_of_row _ _ 1 _ _ _ hz15
            clear g5 g9 g11 g13 hz15 hV
            go_wp2_with fail
            refine (P18.out _ hM8).mono ?_
            rintro e w9 ⟨rfl, hb9⟩
            have BC := BB.trans (hb9.mono BB.size)
            have j50 := Below.cellSome hb9 k50
            have j51 := Below.cellSome hb9 k51
            have hps9 := hps8.below hb9
            clear hM8 hps8 k50 k51 k90 k91 k110 k111 k130 k131 k150 k151 hb9
            go_wp2_with fail
            refine (P27.out _ hps9).mono ?_
            rintro e w10 ⟨rfl, hb10⟩
            have BD := BC.trans (hb10.below.mono BC.size)
            clear j50 j51 hps9 hb10
            go_wp2_with fail
            go_roundw
            case rel => exact ⟨n + 1, by omega, by omega, by go_num, BD⟩
            case measure => simp [intOf]; omega
    · have d8 : decide (n < 8) = false := decide_eq_false hlt
      have hR := hR1.below hb
      have hM := hM1.below hb
      have BX := B1.trans (hb.mono B1.size)
      clear hz1 hps
      go_wp2_with fail
      refine (members31 mp mb rb D hD s f _ hM hR HVW.out).mono ?_
      rintro e w2 ⟨rfl, hb2⟩
      have hM2 := hM.below hb2
      have hR2 := hR.below hb2
      have B2 := belT BX hb2
      clear hM hR hb2 BX
      go_wp2_with fail
      refine (members31 mp mb rb D hD s f _ hM2 hR2 HVW.out).mono ?_
      rintro e w3 ⟨rfl, hb3⟩
      go_wp2_with fail
      go_ret
      exact ⟨rfl, belT B2 hb3⟩

end Go.Proofs.Ytbpajfjeakffkaa

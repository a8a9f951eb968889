/- QuorumMarks: its walk. -/
import Derived.Test.YtbpajfjeakffkaaRC
namespace Go.Proofs.Ytbpajfjeakffkaa
open Go.RowKit Go.Sort Go.Shelf
attribute [local go_sem] Oper.semAt_some

/-- what a telling does to both -/
def Both (D E : MapD) (n : Int) (p : Pl) (z : Bool) (x : Int) : Prop := ∀ s f, s.length = 5 → View D s f →
  (¬ (1 ≤ n ∧ n ≤ 5 ∧ f.getD (n - 1).toNat false = true) → z = false ∧ x = 2 ∧ View E s f) ∧
  ((1 ≤ n ∧ n ≤ 5 ∧ f.getD (n - 1).toNat false = true) → (uptoP p (s.getD (n - 1).toNat (0, 0)) = true → z = false ∧ x = 0 ∧ View E s f) ∧
    (uptoP p (s.getD (n - 1).toNat (0, 0)) = false → z = true ∧ x = 0 ∧ View E (s.set (n - 1).toNat p) f))
theorem tellB (mp mb : Nat) (D : MapD) (n : Int) (p : Pl) (w : World) (h : MS w mp mb D) :
    Calls Try.prog 15 #[.pointer (some ⟨mp, 0, none⟩), .int .i64 n, pv p] w fun e w' => ∃ (z : Bool) (x : Int) (E : MapD), e = .returned (.tuple #[.bool z, .int .i64 x]) ∧ Off mb w w' ∧ MS w' mp mb E ∧ E.length = D.length ∧ Both D E n p z x := by
  refine (tell15 mp mb D n p w h).mono ?_
  rintro e w' ⟨ho, ⟨hno, rfl, hm⟩ | ⟨j, hj, hjn, hcase⟩⟩
  · refine ⟨_, _, D, rfl, ho, hm, rfl, fun s f _ hv => ⟨fun _ => ⟨rfl, rfl, hv⟩, fun hc => ?_⟩⟩
    have := hv n
    rw [getM_none D n hno, if_pos hc] at this
    cases this
  · have hg := getM_some D n h.nd j hj hjn
    have key : ∀ s f, View D s f → (1 ≤ n ∧ n ≤ 5 ∧ f.getD (n - 1).toNat false = true) ∧ s.getD (n - 1).toNat (0, 0) = D[j].2 := fun s f hv => by
      have := hv n
      rw [hg] at this
      by_cases hc : 1 ≤ n ∧ n ≤ 5 ∧ f.getD (n - 1).toNat false = true
      · rw [if_pos hc] at this; exact ⟨hc, (Option.some.inj this).symm⟩
      · rw [if_neg hc] at this; cases this
    rcases hcase with ⟨hlt, rfl, hm⟩ | ⟨hlt, rfl, hm⟩
    · refine ⟨_, _, D, rfl, ho, hm, rfl, fun s f _ hv => ?_⟩
      obtain ⟨hc, hs⟩ := key s f hv
      refine ⟨fun h => absurd hc h, fun _ => ⟨fun _ => ⟨rfl, rfl, hv⟩, fun hu => ?_⟩⟩
      rw [hs] at hu
      unfold uptoP at hu
      rw [hlt] at hu; cases hu
    · refine ⟨_, _, _, rfl, ho, hm, List.length_set, fun s f hs5 hv => ?_⟩
      obtain ⟨hc, hs⟩ := key s f hv
      refine ⟨fun h => absurd hc h, fun _ => ⟨fun hu => ?_, fun _ => ⟨rfl, rfl, hv.set h.nd hs5 hj hjn hc.1 hc.2.1 p hc.2.2⟩⟩⟩
      rw [hs] at hu
      unfold uptoP at hu
      rw [hlt] at hu; cases hu
theorem tellR (rb : Nat) (s : List Pl) (f : List Bool) (n : Int) (p : Pl) (D E : MapD) (z : Bool) (x : Int) (hb : Both D E n p z x) (hv : View D s f) (w : World) (h : RM w rb s f) :
    Calls Try.prog 16 #[.pointer (some ⟨rb, 0, none⟩), .int .i64 n, pv p] w fun e w' => e = .returned (.tuple #[.bool z, .int .i64 x]) ∧ Off rb w w' ∧ ∃ s', RM w' rb s' f ∧ View E s' f := by
  refine (rtell16 rb s f n p w h).mono ?_
  obtain ⟨b1, b2⟩ := hb s f h.ls hv
  rintro e w' ⟨ho, ⟨hc, rfl, hr⟩ | ⟨hc, ⟨hu, rfl, hr⟩ | ⟨hu, rfl, hr⟩⟩⟩
  · obtain ⟨rfl, rfl, hv'⟩ := b1 hc
    exact ⟨rfl, ho, _, hr, hv'⟩
  · obtain ⟨rfl, rfl, hv'⟩ := (b2 hc).1 hu
    exact ⟨rfl, ho, _, hr, hv'⟩
  · obtain ⟨rfl, rfl, hv'⟩ := (b2 hc).2 hu
    exact ⟨rfl, ho, _, hr, hv'⟩
theorem fresh_keys (l : List Int) : (fresh l).length = l.length := fresh_len l

set_option maxRecDepth 10000 in
set_option maxHeartbeats 12800000 in
theorem marks3 (a0 : Option Addr) (c0 : Nat) (l : List Int) (a1 : Option Addr) (c1 : Nat) (T : List (Int × Pl)) (p : Pl) (w : World) (h : Is w a0 l) (ht : Ts w a1 T) (hl : l.length ≤ 9223372036854775807) (htl : T.length ≤ 9223372036854775807) :
    Calls Try.prog 3 #[.slice a0 l.length c0, .slice a1 T.length c1, pv p] w fun e w' => e = .returned (.bool true) ∧ RowKit.Below w.heap.size w w' := by
  have hB0 : RowKit.Below w.heap.size w (w.alloc (.cells #[.int .u64 (p.1 : Int), .int .u64 (p.2 : Int)] 26)) := (RowKit.Below.refl _ _).alloc (Nat.le_refl _) _
  have hz0 : (w.alloc (.cells #[.int .u64 (p.1 : Int), .int .u64 (p.2 : Int)] 26)).heap[w.heap.size]? = some (.cells #[.int .u64 (p.1 : Int), .int .u64 (p.2 : Int)] 26 (0, 0)) := heap_alloc_new _ _
  have hs0 : (w.alloc (.cells #[.int .u64 (p.1 : Int), .int .u64 (p.2 : Int)] 26)).heap.size = w.heap.size + 1 := by simp
  go_enter Try.func3, Try.ntmps3
  by_cases h1 : 60 < l.length
  · have d1 : decide (60 < (l.length : Int)) = true := decide_eq_true (by omega)
    go_wp2_with fail
    refine (known8 _).mono ?_
    rintro e w1 ⟨rfl, hb1⟩
    go_wp2_with fail
    go_ret
    exact ⟨rfl, belT hB0 hb1⟩
  have d1 : decide (60 < (l.length : Int)) = false := decide_eq_false (by omega)
  by_cases h2 : 150 < T.length
  · have d2 : decide (150 < (T.length : Int)) = true := decide_eq_true (by omega)
    go_wp2_with fail
    refine (known8 _).mono ?_
    rintro e w1 ⟨rfl, hb1⟩
    go_wp2_with fail
    go_ret
    exact ⟨rfl, belT hB0 hb1⟩
  have d2 : decide (150 < (T.length : Int)) = false := decide_eq_false (by omega)
  have hT : T.length ≤ 150 := by omega
  clear h1 h2 htl
  go_wp2_with fail
  obtain ⟨W, hW⟩ : ∃ W, W = w.alloc (.cells #[.int .u64 (p.1 : Int), .int .u64 (p.2 : Int)] 26) := ⟨_, rfl⟩
  rw [← hW] at hB0 hz0 hs0 ⊢
  clear hW
  refine (new9 a0 c0 l _ (h.below hB0) hl).mono ?_
  rintro e w1 ⟨hb1, ⟨hmay, rfl, hM⟩ | ⟨hno, rfl⟩⟩
  rotate_left
  · go_wp2_with fail
    refine (may10 a0 c0 l _ (h.below (belT hB0 hb1)) hl).mono ?_
    rintro e w2 ⟨hg2, ⟨hmay, _⟩ | ⟨_, rfl⟩⟩
    · exact absurd hmay hno
    go_wp2_with (first | (go_at_call 11; refine (num11 _ _).mono ?_; rintro e v6 ⟨rfl, rfl⟩) | fail)
    refine (known8 _).mono ?_
    rintro e w3 ⟨rfl, hb3⟩
    go_wp2_with fail
    go_ret
    exact ⟨rfl, belT (belT (belT hB0 hb1) hg2.below) hb3⟩
  have B1 := belT hB0 hb1
  have hz1 : w1.heap[w.heap.size]? = _ := (hb1.block _ (Array.getElem?_eq_some_iff.1 hz0).1).trans hz0
  obtain ⟨mp, hmp⟩ : ∃ m, W.heap.size + 1 = m := ⟨_, rfl⟩
  obtain ⟨mb, hmb⟩ : ∃ m, W.heap.size = m := ⟨_, rfl⟩
  rw [hmp, hmb] at hM
  rw [hmp]
  have ho1 : w.heap.size < mb ∧ w.heap.size < mp := ⟨by omega, by omega⟩
  clear hmp hmb hs0 hz0 hb1 hB0
  go_wp2_with fail
  refine (may10 a0 c0 l _ (h.below B1) hl).mono ?_
  rintro e w2 ⟨hg2, ⟨_, rfl⟩ | ⟨hno, _⟩⟩
  rotate_left
  · exact absurd hmay hno
  have B2 := belT B1 hg2.below
  have hz2 : w2.heap[w.heap.size]? = _ := (hg2.below.block _ (Array.getElem?_eq_some_iff.1 hz1).1).trans hz1
  have hM2 := hM.below hg2.below
  clear B1 hz1 hM hg2
  go_wp2_with fail
  refine (rnew12 a0 c0 l _ (h.below B2) hmay).mono ?_
  rintro e w3 ⟨rb, hrb, rfl, hR3, hb3⟩
  have B3 := belT B2 hb3
  have hz3 : w3.heap[w.heap.size]? = _ := (hb3.block _ (Array.getElem?_eq_some_iff.1 hz2).1).trans hz2
  have hM3 := hM2.below hb3
  have hv3 := view_fresh l hmay
  have hDl := fresh_len l
  have hl5 := hmay.len
  have ho3 : mp < rb ∧ mb < rb := ⟨by have := (Array.getElem?_eq_some_iff.1 hM2.cell).1; omega, by have := (Array.getElem?_eq_some_iff.1 hM2.map).1; omega⟩
  have r0 := cell_of_row _ _ 0 _ _ _ hz3
  have r1 := cell_of_row _ _ 1 _ _ _ hz3
  have P12 := Lib.hid (fun w h => rnew12 a0 c0 l w h hmay)
  obtain ⟨D0, hD0⟩ : ∃ D, fresh l = D := ⟨_, rfl⟩
  obtain ⟨F, hF⟩ : ∃ f, flagsOf l = f := ⟨_, rfl⟩
  obtain ⟨s0, hs0⟩ : ∃ s : List Pl, List.replicate 5 ((0, 0) : Pl) = s := ⟨_, rfl⟩
  rw [hD0] at hM3 hv3 hDl
  rw [hF] at hR3 hv3 P12
  rw [hs0] at hR3 hv3 P12
  clear hD0 hF hs0 hz2 hM2 B2 hb3 hrb
  go_wp2_with (first | (go_at_call 11; refine (num11 _ _).mono ?_; rintro e v6 ⟨rfl, rfl⟩) | fail)
  refine (looks13 mp mb rb D0 (by omega) s0 F p _ hM3 hR3 hv3).mono ?_
  rintro e w4 ⟨rfl, hb4⟩
  have B4 := belT B3 hb4
  have hz4 : w4.heap[w.heap.size]? = _ := (hb4.block _ (Array.getElem?_eq_some_iff.1 hz3).1).trans hz3
  have hM4 := hM3.below hb4
  have hR4 := hR3.below hb4
  clear hz3 hM3 hR3 B3 hb4 r0 r1
  go_wp2_with fail
  refine (copy14 mp mb D0 w4 hM4).mono ?_
  rintro e w5 ⟨mp2, mb2, rfl, hmb2, hmp2, hC5, hb5⟩
  have B5 := belT B4 hb5
  have hz5 : w5.heap[w.heap.size]? = _ := (hb5.block _ (Array.getElem?_eq_some_iff.1 hz4).1).trans hz4
  have hM5 := hM4.below hb5
  have hR5 := hR4.below hb5
  have ho5 : rb < mp2 ∧ rb < mb2 := ⟨by have := hR4.lt; omega, by have := hR4.lt; omega⟩
  clear hz4 hM4 hR4 B4 hb5 hmb2 hmp2
  go_wp2_with fail
  go_loopw [11] (fun i wr => ∃ (k : Nat) (D : MapD) (s : List Pl), k ≤ T.length ∧ i = .int .i64 k ∧ RowKit.Below w.heap.size w wr ∧ MS wr mp mb D ∧ MS wr mp2 mb2 D0 ∧ RM wr rb s F ∧ View D s F ∧ D.length = l.length ∧ wr.heap[w.heap.size]? = some (.cells #[.int .u64 (p.1 : Int), .int .u64 (p.2 : Int)] 26 (0, 0))) (fun i _ => T.length - (intOf i).toNat)
  case atStart => exact ⟨0, D0, s0, by omega, rfl, B5, hM5, hC5, hR5, hv3, hDl, hz5⟩
  case round =>
    clear hM5 hC5 hR5 hz5 B5
    obtain ⟨k, D, s, hk, rfl, hB, hM, hC, hR, hv, hDD, hz⟩ := hrel
    by_cases hlt : k < T.length
    · obtain ⟨b1, o1, rfl⟩ := ht.ex hlt
      obtain ⟨x, hx⟩ : ∃ x, T[k] = x := ⟨_, rfl⟩
      have HTC : Hid (∀ w', RowKit.Below w.heap.size w w' → (w'.cell? ⟨b1, o1 + k * 3, none⟩ = some (.int .i64 x.1) ∧ w'.cell? ⟨b1, o1 + k * 3 + 1, none⟩ = some (.int .u64 (x.2.1 : Int)) ∧ w'.cell? ⟨b1, o1 + k * 3 + 1 + 1, none⟩ = some (.int .u64 (x.2.2 : Int))) ∧ k < T.length) := fun w' hb => by
        have := (ht.below hb).cell b1 o1 rfl k hlt
        rw [hx] at this
        exact ⟨this, hlt⟩
      clear hx
      have PT := Lib.hid (fun w h => tellB mp mb D x.1 x.2 w h)
      have HBd : Hid (RowKit.Below w.heap.size w wr.drew) := hB.trans (RowKit.Below.mono (Gr.refl wr).drew.below hB.size)
      go_wp2_with fail
      have KF : ∀ w', Off mb wr.drew w' → (w'.cell? ⟨b1, o1 + k * 3, none⟩ = some (.int .i64 x.1) ∧ w'.cell? ⟨b1, o1 + k * 3 + 1, none⟩ = some (.int .u64 (x.2.1 : Int)) ∧ w'.cell? ⟨b1, o1 + k * 3 + 1 + 1, none⟩ = some (.int .u64 (x.2.2 : Int))) ∧ k < T.length := fun w' ho => HTC.out w' (HBd.out.trans (ho.1.mono (by omega)))
      refine seqS_start (Off mb wr.drew) 17 [false, false, false, false, false, false, false, false, false, false, false, false, false, false, false, false, false] (by kernel_rfl) rfl rfl (Off.refl _ _) ?_
      refine seqS_take 0 (v := ?_) rfl (by kernel_rfl) (fun _ _ _ h => h) (Or.inl ⟨by rfl, fun w' hb => ?_⟩) ?_
      rotate_left
      · have kf := KF w' hb
        go_simp
        with_reducible rfl
      simp only [Act.put, List.setIfInBounds_toArray, List.set_cons_zero, List.set_cons_succ]
      refine seqS_take 1 (v := ?_) rfl (by kernel_rfl) (fun _ _ _ h => h) (Or.inl ⟨by rfl, fun w' hb => ?_⟩) ?_
      rotate_left
      · have kf := KF w' hb
        go_simp
        with_reducible rfl
      simp only [Act.put, List.setIfInBounds_toArray, List.set_cons_zero, List.set_cons_succ]
      refine seqS_take 2 (v := ?_) rfl (by kernel_rfl) (fun _ _ _ h => h) (Or.inl ⟨by rfl, fun w' hb => ?_⟩) ?_
      rotate_left
      · have kf := KF w' hb
        go_simp
        with_reducible rfl
      simp only [Act.put, List.setIfInBounds_toArray, List.set_cons_zero, List.set_cons_succ]
      refine seqS_take 3 (v := ?_) rfl (by kernel_rfl) (fun _ _ _ h => h) (Or.inl ⟨by rfl, fun w' hb => ?_⟩) ?_
      rotate_left
      · have kf := KF w' hb
        go_simp
        with_reducible rfl
      simp only [Act.put, List.setIfInBounds_toArray, List.set_cons_zero, List.set_cons_succ]
      refine seqS_take 4 (v := ?_) rfl (by kernel_rfl) (fun _ _ _ h => h) (Or.inl ⟨by rfl, fun w' hb => ?_⟩) ?_
      rotate_left
      · have kf := KF w' hb
        go_simp
        with_reducible rfl
      simp only [Act.put, List.setIfInBounds_toArray, List.set_cons_zero, List.set_cons_succ]
      refine seqS_take 5 (v := ?_) rfl (by kernel_rfl) (fun _ _ _ h => h) (Or.inl ⟨by rfl, fun w' hb => ?_⟩) ?_
      rotate_left
      · have kf := KF w' hb
        go_simp
        with_reducible rfl
      simp only [Act.put, List.setIfInBounds_toArray, List.set_cons_zero, List.set_cons_succ]
      refine seqS_take 6 (v := ?_) rfl (by kernel_rfl) (fun _ _ _ h => h) (Or.inl ⟨by rfl, fun w' hb => ?_⟩) ?_
      rotate_left
      · have kf := KF w' hb
        go_simp
        with_reducible rfl
      simp only [Act.put, List.setIfInBounds_toArray, List.set_cons_zero, List.set_cons_succ]
      refine seqS_take 7 (v := ?_) rfl (by kernel_rfl) (fun _ _ _ h => h) (Or.inl ⟨by rfl, fun w' hb => ?_⟩) ?_
      rotate_left
      · have kf := KF w' hb
        go_simp
        with_reducible rfl
      simp only [Act.put, List.setIfInBounds_toArray, List.set_cons_zero, List.set_cons_succ]
      refine seqS_take 8 (v := ?_) rfl (by kernel_rfl) (fun _ _ _ h => h) (Or.inl ⟨by rfl, fun w' hb => ?_⟩) ?_
      rotate_left
      · have kf := KF w' hb
        go_simp
        with_reducible rfl
      simp only [Act.put, List.setIfInBounds_toArray, List.set_cons_zero, List.set_cons_succ]
      refine seqS_take 9 (v := ?_) rfl (by kernel_rfl) (fun _ _ _ h => h) (Or.inl ⟨by rfl, fun w' hb => ?_⟩) ?_
      rotate_left
      · have kf := KF w' hb
        go_simp
        with_reducible rfl
      simp only [Act.put, List.setIfInBounds_toArray, List.set_cons_zero, List.set_cons_succ]
      refine seqS_take 10 (v := ?_) rfl (by kernel_rfl) (fun _ _ _ h => h) (Or.inl ⟨by rfl, fun w' hb => ?_⟩) ?_
      rotate_left
      · have kf := KF w' hb
        go_simp
        with_reducible rfl
      simp only [Act.put, List.setIfInBounds_toArray, List.set_cons_zero, List.set_cons_succ]
      refine seqS_do 11 rfl (by kernel_rfl) (fun K hK => ?_)
      go_simp
      refine (PT.out _ hM.drew).mono ?_
      rintro e u1 ⟨z, y, E, rfl, ho, hME, hEl, hBo⟩
      refine hK.out (Off mb wr.drew) _ _ (fun _ h => h) ho ?_
      clear hK K
      simp only [List.set_cons_zero, List.set_cons_succ]
      refine seqS_take 12 (v := ?_) rfl (by kernel_rfl) (fun _ _ _ h => h) (Or.inl ⟨by rfl, fun w' hb => ?_⟩) ?_
      rotate_left
      · have kf := KF w' hb
        go_simp
        with_reducible rfl
      simp only [Act.put, List.setIfInBounds_toArray, List.set_cons_zero, List.set_cons_succ]
      refine seqS_take 13 (v := ?_) rfl (by kernel_rfl) (fun _ _ _ h => h) (Or.inl ⟨by rfl, fun w' hb => ?_⟩) ?_
      rotate_left
      · have kf := KF w' hb
        go_simp
        with_reducible rfl
      simp only [Act.put, List.setIfInBounds_toArray, List.set_cons_zero, List.set_cons_succ]
      refine seqS_take 14 (v := ?_) rfl (by kernel_rfl) (fun _ _ _ h => h) (Or.inl ⟨by rfl, fun w' hb => ?_⟩) ?_
      rotate_left
      · have kf := KF w' hb
        go_simp
        with_reducible rfl
      simp only [Act.put, List.setIfInBounds_toArray, List.set_cons_zero, List.set_cons_succ]
      refine seqS_take 15 (v := ?_) rfl (by kernel_rfl) (fun _ _ _ h => h) (Or.inl ⟨by rfl, fun w' hb => ?_⟩) ?_
      rotate_left
      · have kf := KF w' hb
        go_simp
        with_reducible rfl
      simp only [Act.put, List.setIfInBounds_toArray, List.set_cons_zero, List.set_cons_succ]
      refine seqS_take 16 (v := ?_) rfl (by kernel_rfl) (fun _ _ _ h => h) (Or.inl ⟨by rfl, fun w' hb => ?_⟩) ?_
      rotate_left
      · have kf := KF w' hb
        go_simp
        with_reducible rfl
      simp only [Act.put, List.setIfInBounds_toArray, List.set_cons_zero, List.set_cons_succ]
      refine seqS_end (by kernel_rfl) (fun hEnd => ?_)
      clear KF hEnd PT
      have hu : Off mb wr u1 := (Off.of_below (w' := wr.drew) (Gr.refl wr).drew.below (by have := (Array.getElem?_eq_some_iff.1 hM.map).1; omega)).trans ho
      have hB1 := hB.trans (hu.1.mono (by omega))
      have hC1 : MS u1 mp2 mb2 D0 := ⟨(hu.2 _ (Array.getElem?_eq_some_iff.1 hC.cell).1 (by omega)).trans hC.cell, (hu.2 _ (Array.getElem?_eq_some_iff.1 hC.map).1 (by omega)).trans hC.map, hC.nd, hC.ne⟩
      have hR1 := hR.kept (hu.2 _ hR.lt (by omega))
      have hz1 := (hu.2 _ (Array.getElem?_eq_some_iff.1 hz).1 (by omega)).trans hz
      have PR := Lib.hid (fun w h => tellR rb s F x.1 x.2 D E z y hBo hv w h)
      have HBd1 : Hid (RowKit.Below w.heap.size w u1.drew) := hB1.trans (RowKit.Below.mono (Gr.refl u1).drew.below hB1.size)
      have hmbu := (Array.getElem?_eq_some_iff.1 hME.map).1
      have hmpu := (Array.getElem?_eq_some_iff.1 hME.cell).1
      clear ho hM hC hR hz hu hB hBo hv HBd
      go_wp2_with fail
      have KF : ∀ w', Off rb u1.drew w' → (w'.cell? ⟨b1, o1 + k * 3, none⟩ = some (.int .i64 x.1) ∧ w'.cell? ⟨b1, o1 + k * 3 + 1, none⟩ = some (.int .u64 (x.2.1 : Int)) ∧ w'.cell? ⟨b1, o1 + k * 3 + 1 + 1, none⟩ = some (.int .u64 (x.2.2 : Int))) ∧ k < T.length := fun w' ho => HTC.out w' (HBd1.out.trans (ho.1.mono (by omega)))
      refine seqS_start (Off rb u1.drew) 17 [false, false, false, false, false, false, false, false, false, false, false, false, false, false, false, false, false] (by kernel_rfl) rfl rfl (Off.refl _ _) ?_
      refine seqS_take 0 (v := ?_) rfl (by kernel_rfl) (fun _ _ _ h => h) (Or.inl ⟨by rfl, fun w' hb => ?_⟩) ?_
      rotate_left
      · have kf := KF w' hb
        go_simp
        with_reducible rfl
      simp only [Act.put, List.setIfInBounds_toArray, List.set_cons_zero, List.set_cons_succ]
      refine seqS_take 1 (v := ?_) rfl (by kernel_rfl) (fun _ _ _ h => h) (Or.inl ⟨by rfl, fun w' hb => ?_⟩) ?_
      rotate_left
      · have kf := KF w' hb
        go_simp
        with_reducible rfl
      simp only [Act.put, List.setIfInBounds_toArray, List.set_cons_zero, List.set_cons_succ]
      refine seqS_take 2 (v := ?_) rfl (by kernel_rfl) (fun _ _ _ h => h) (Or.inl ⟨by rfl, fun w' hb => ?_⟩) ?_
      rotate_left
      · have kf := KF w' hb
        go_simp
        with_reducible rfl
      simp only [Act.put, List.setIfInBounds_toArray, List.set_cons_zero, List.set_cons_succ]
      refine seqS_take 3 (v := ?_) rfl (by kernel_rfl) (fun _ _ _ h => h) (Or.inl ⟨by rfl, fun w' hb => ?_⟩) ?_
      rotate_left
      · have kf := KF w' hb
        go_simp
        with_reducible rfl
      simp only [Act.put, List.setIfInBounds_toArray, List.set_cons_zero, List.set_cons_succ]
      refine seqS_take 4 (v := ?_) rfl (by kernel_rfl) (fun _ _ _ h => h) (Or.inl ⟨by rfl, fun w' hb => ?_⟩) ?_
      rotate_left
      · have kf := KF w' hb
        go_simp
        with_reducible rfl
      simp only [Act.put, List.setIfInBounds_toArray, List.set_cons_zero, List.set_cons_succ]
      refine seqS_take 5 (v := ?_) rfl (by kernel_rfl) (fun _ _ _ h => h) (Or.inl ⟨by rfl, fun w' hb => ?_⟩) ?_
      rotate_left
      · have kf := KF w' hb
        go_simp
        with_reducible rfl
      simp only [Act.put, List.setIfInBounds_toArray, List.set_cons_zero, List.set_cons_succ]
      refine seqS_take 6 (v := ?_) rfl (by kernel_rfl) (fun _ _ _ h => h) (Or.inl ⟨by rfl, fun w' hb => ?_⟩) ?_
      rotate_left
      · have kf := KF w' hb
        go_simp
        with_reducible rfl
      simp only [Act.put, List.setIfInBounds_toArray, List.set_cons_zero, List.set_cons_succ]
      refine seqS_take 7 (v := ?_) rfl (by kernel_rfl) (fun _ _ _ h => h) (Or.inl ⟨by rfl, fun w' hb => ?_⟩) ?_
      rotate_left
      · have kf := KF w' hb
        go_simp
        with_reducible rfl
      simp only [Act.put, List.setIfInBounds_toArray, List.set_cons_zero, List.set_cons_succ]
      refine seqS_take 8 (v := ?_) rfl (by kernel_rfl) (fun _ _ _ h => h) (Or.inl ⟨by rfl, fun w' hb => ?_⟩) ?_
      rotate_left
      · have kf := KF w' hb
        go_simp
        with_reducible rfl
      simp only [Act.put, List.setIfInBounds_toArray, List.set_cons_zero, List.set_cons_succ]
      refine seqS_take 9 (v := ?_) rfl (by kernel_rfl) (fun _ _ _ h => h) (Or.inl ⟨by rfl, fun w' hb => ?_⟩) ?_
      rotate_left
      · have kf := KF w' hb
        go_simp
        with_reducible rfl
      simp only [Act.put, List.setIfInBounds_toArray, List.set_cons_zero, List.set_cons_succ]
      refine seqS_take 10 (v := ?_) rfl (by kernel_rfl) (fun _ _ _ h => h) (Or.inl ⟨by rfl, fun w' hb => ?_⟩) ?_
      rotate_left
      · have kf := KF w' hb
        go_simp
        with_reducible rfl
      simp only [Act.put, List.setIfInBounds_toArray, List.set_cons_zero, List.set_cons_succ]
      refine seqS_do 11 rfl (by kernel_rfl) (fun K hK => ?_)
      go_simp
      refine (PR.out _ (hR1.kept (w' := u1.drew) rfl)).mono ?_
      rintro e u2 ⟨rfl, ho2, s', hR2, hV2⟩
      refine hK.out (Off rb u1.drew) _ _ (fun _ h => h) ho2 ?_
      clear hK K
      simp only [List.set_cons_zero, List.set_cons_succ]
      refine seqS_take 12 (v := ?_) rfl (by kernel_rfl) (fun _ _ _ h => h) (Or.inl ⟨by rfl, fun w' hb => ?_⟩) ?_
      rotate_left
      · have kf := KF w' hb
        go_simp
        with_reducible rfl
      simp only [Act.put, List.setIfInBounds_toArray, List.set_cons_zero, List.set_cons_succ]
      refine seqS_take 13 (v := ?_) rfl (by kernel_rfl) (fun _ _ _ h => h) (Or.inl ⟨by rfl, fun w' hb => ?_⟩) ?_
      rotate_left
      · have kf := KF w' hb
        go_simp
        with_reducible rfl
      simp only [Act.put, List.setIfInBounds_toArray, List.set_cons_zero, List.set_cons_succ]
      refine seqS_take 14 (v := ?_) rfl (by kernel_rfl) (fun _ _ _ h => h) (Or.inl ⟨by rfl, fun w' hb => ?_⟩) ?_
      rotate_left
      · have kf := KF w' hb
        go_simp
        with_reducible rfl
      simp only [Act.put, List.setIfInBounds_toArray, List.set_cons_zero, List.set_cons_succ]
      refine seqS_take 15 (v := ?_) rfl (by kernel_rfl) (fun _ _ _ h => h) (Or.inl ⟨by rfl, fun w' hb => ?_⟩) ?_
      rotate_left
      · have kf := KF w' hb
        go_simp
        with_reducible rfl
      simp only [Act.put, List.setIfInBounds_toArray, List.set_cons_zero, List.set_cons_succ]
      refine seqS_take 16 (v := ?_) rfl (by kernel_rfl) (fun _ _ _ h => h) (Or.inl ⟨by rfl, fun w' hb => ?_⟩) ?_
      rotate_left
      · have kf := KF w' hb
        go_simp
        with_reducible rfl
      simp only [Act.put, List.setIfInBounds_toArray, List.set_cons_zero, List.set_cons_succ]
      refine seqS_end (by kernel_rfl) (fun hEnd => ?_)
      clear KF hEnd PR HBd1
      have hu : Off rb u1 u2 := (Off.of_below (w' := u1.drew) (Gr.refl u1).drew.below (by have := hR1.lt; omega)).trans ho2
      have hB2 := hB1.trans (hu.1.mono (by omega))
      have hC2 : MS u2 mp2 mb2 D0 := ⟨(hu.2 _ (Array.getElem?_eq_some_iff.1 hC1.cell).1 (by omega)).trans hC1.cell, (hu.2 _ (Array.getElem?_eq_some_iff.1 hC1.map).1 (by omega)).trans hC1.map, hC1.nd, hC1.ne⟩
      have hM2 : MS u2 mp mb E := ⟨(hu.2 _ hmpu (by omega)).trans hME.cell, (hu.2 _ hmbu (by omega)).trans hME.map, hME.nd, hME.ne⟩
      have hz2 := (hu.2 _ (Array.getElem?_eq_some_iff.1 hz1).1 (by omega)).trans hz1
      have hTC := HTC.out u2 hB2
      clear ho2 hME hC1 hR1 hz1 hu hB1 hmbu hmpu
      go_wp2_with (first | (go_at_call 11; refine (num11 _ _).mono ?_; rintro e v6 ⟨rfl, rfl⟩) | fail)
      refine (looks13 mp mb rb E (by omega) s' F x.2 _ hM2 hR2 hV2).mono ?_
      rintro e u3 ⟨rfl, hb3⟩
      have B3 := hB2.trans (hb3.mono hB2.size)
      have hM3 := hM2.below hb3
      have hC3 := hC2.below hb3
      have hR3 := hR2.below hb3
      have hz3 := (hb3.block _ (Array.getElem?_eq_some_iff.1 hz2).1).trans hz2
      clear hM2 hC2 hR2 hz2 hTC HTC hB2 hb3
      go_wp2_with fail
      go_roundw
      case rel => exact ⟨k + 1, E, s', by omega, by go_num, B3, hM3, hC3, hR3, hV2, by omega, hz3⟩
      case measure => simp [intOf]; omega
    · go_wp2_with fail
      have BWd : RowKit.Below w.heap.size w wr.drew := hB.trans (RowKit.Below.mono (Gr.refl wr).drew.below hB.size)
      have hM2d : MS wr.drew mp2 mb2 D0 := hC.drew
      have hMd : MS wr.drew mp mb D := hM.drew
      have hRd : RM wr.drew rb s F := hR.kept rfl
      have P13a := Lib.hid (fun rb2 w h hr => looks13 mp2 mb2 rb2 D0 (by omega) s0 F p w h hr hv3)
      have P13b := Lib.hid (fun w h hr => looks13 mp mb rb D (by omega) s F p w h hr hv)
      have KF : ∀ w', RowKit.Below wr.drew.heap.size wr.drew w' → w'.cell? ⟨w.heap.size, 0, none⟩ = some (.int .u64 (p.1 : Int)) ∧ w'.cell? ⟨w.heap.size, 1, none⟩ = some (.int .u64 (p.2 : Int)) := fun w' hg => by
        have e1 : w'.heap[w.heap.size]? = _ := (hg.block _ (by exact (Array.getElem?_eq_some_iff.1 hz).1)).trans hz
        exact ⟨cell_of_row _ _ _ _ _ _ e1, cell_of_row _ _ _ _ _ _ e1⟩
      refine seqS_start (RowKit.Below wr.drew.heap.size wr.drew) 19 [false, false, false, false, false, false, false, false, false, false, false, false, false, false, false, false, false, false, false] (by kernel_rfl) rfl rfl (RowKit.Below.refl _ _) ?_
      refine seqS_take 0 (v := ?_) rfl (by kernel_rfl) (fun _ _ _ h => h) (Or.inl ⟨by rfl, fun w' hb => ?_⟩) ?_
      rotate_left
      · have kf := KF w' hb
        go_simp
        with_reducible rfl
      simp only [Act.put, List.setIfInBounds_toArray, List.set_cons_zero, List.set_cons_succ]
      refine seqS_take 1 (v := ?_) rfl (by kernel_rfl) (fun _ _ _ h => h) (Or.inl ⟨by rfl, fun w' hb => ?_⟩) ?_
      rotate_left
      · have kf := KF w' hb
        go_simp
        with_reducible rfl
      simp only [Act.put, List.setIfInBounds_toArray, List.set_cons_zero, List.set_cons_succ]
      refine seqS_take 2 (v := ?_) rfl (by kernel_rfl) (fun _ _ _ h => h) (Or.inl ⟨by rfl, fun w' hb => ?_⟩) ?_
      rotate_left
      · have kf := KF w' hb
        go_simp
        with_reducible rfl
      simp only [Act.put, List.setIfInBounds_toArray, List.set_cons_zero, List.set_cons_succ]
      refine seqS_take 3 (v := ?_) rfl (by kernel_rfl) (fun _ _ _ h => h) (Or.inl ⟨by rfl, fun w' hb => ?_⟩) ?_
      rotate_left
      · have kf := KF w' hb
        go_simp
        with_reducible rfl
      simp only [Act.put, List.setIfInBounds_toArray, List.set_cons_zero, List.set_cons_succ]
      refine seqS_take 4 (v := ?_) rfl (by kernel_rfl) (fun _ _ _ h => h) (Or.inl ⟨by rfl, fun w' hb => ?_⟩) ?_
      rotate_left
      · have kf := KF w' hb
        go_simp
        with_reducible rfl
      simp only [Act.put, List.setIfInBounds_toArray, List.set_cons_zero, List.set_cons_succ]
      refine seqS_take 6 (v := ?_) rfl (by kernel_rfl) (fun _ _ _ h => h) (Or.inl ⟨by rfl, fun w' hb => ?_⟩) ?_
      rotate_left
      · have kf := KF w' hb
        go_simp
        with_reducible rfl
      simp only [Act.put, List.setIfInBounds_toArray, List.set_cons_zero, List.set_cons_succ]
      refine seqS_do 5 rfl (by kernel_rfl) (fun K hK => ?_)
      go_simp
      refine (P12.out _ (h.below BWd)).mono ?_
      rintro e u1 ⟨rb2, _, rfl, hRM2, hq1⟩
      refine hK.out (RowKit.Below wr.drew.heap.size wr.drew) _ _ (fun _ h => h) hq1 ?_
      clear hK K
      simp only [List.set_cons_zero, List.set_cons_succ]
      refine seqS_do 7 rfl (by kernel_rfl) (fun K hK => ?_)
      go_simp
      refine (P13a.out rb2 _ (hM2d.below hq1) hRM2).mono ?_
      rintro e u2 ⟨rfl, hq2⟩
      replace hq2 := belT hq1 hq2
      refine hK.out (RowKit.Below wr.drew.heap.size wr.drew) _ _ (fun _ h => h) hq2 ?_
      clear hK K
      simp only [List.set_cons_zero, List.set_cons_succ]
      refine seqS_take 8 (v := ?_) rfl (by kernel_rfl) (fun _ _ _ h => h) (Or.inl ⟨by rfl, fun w' hb => ?_⟩) ?_
      rotate_left
      · have kf := KF w' hb
        go_simp
        with_reducible rfl
      simp only [Act.put, List.setIfInBounds_toArray, List.set_cons_zero, List.set_cons_succ]
      refine seqS_take 9 (v := ?_) rfl (by kernel_rfl) (fun _ _ _ h => h) (Or.inl ⟨by rfl, fun w' hb => ?_⟩) ?_
      rotate_left
      · have kf := KF w' hb
        go_simp
        with_reducible rfl
      simp only [Act.put, List.setIfInBounds_toArray, List.set_cons_zero, List.set_cons_succ]
      refine seqS_take 10 (v := ?_) rfl (by kernel_rfl) (fun _ _ _ h => h) (Or.inl ⟨by rfl, fun w' hb => ?_⟩) ?_
      rotate_left
      · have kf := KF w' hb
        go_simp
        with_reducible rfl
      simp only [Act.put, List.setIfInBounds_toArray, List.set_cons_zero, List.set_cons_succ]
      refine seqS_take 11 (v := ?_) rfl (by kernel_rfl) (fun _ _ _ h => h) (Or.inl ⟨by rfl, fun w' hb => ?_⟩) ?_
      rotate_left
      · have kf := KF w' hb
        go_simp
        with_reducible rfl
      simp only [Act.put, List.setIfInBounds_toArray, List.set_cons_zero, List.set_cons_succ]
      refine seqS_take 12 (v := ?_) rfl (by kernel_rfl) (fun _ _ _ h => h) (Or.inl ⟨by rfl, fun w' hb => ?_⟩) ?_
      rotate_left
      · have kf := KF w' hb
        go_simp
        with_reducible rfl
      simp only [Act.put, List.setIfInBounds_toArray, List.set_cons_zero, List.set_cons_succ]
      refine seqS_do 13 rfl (by kernel_rfl) (fun K hK => ?_)
      go_simp
      refine (P13b.out _ (hMd.below hq2) (hRd.below hq2)).mono ?_
      rintro e u3 ⟨rfl, hq3⟩
      replace hq3 := belT hq2 hq3
      refine hK.out (RowKit.Below wr.drew.heap.size wr.drew) _ _ (fun _ h => h) hq3 ?_
      clear hK K
      simp only [List.set_cons_zero, List.set_cons_succ]
      refine seqS_take 14 (v := ?_) rfl (by kernel_rfl) (fun _ _ _ h => h) (Or.inl ⟨by rfl, fun w' hb => ?_⟩) ?_
      rotate_left
      · have kf := KF w' hb
        go_simp
        with_reducible rfl
      simp only [Act.put, List.setIfInBounds_toArray, List.set_cons_zero, List.set_cons_succ]
      refine seqS_take 15 (v := ?_) rfl (by kernel_rfl) (fun _ _ _ h => h) (Or.inl ⟨by rfl, fun w' hb => ?_⟩) ?_
      rotate_left
      · have kf := KF w' hb
        go_simp
        with_reducible rfl
      simp only [Act.put, List.setIfInBounds_toArray, List.set_cons_zero, List.set_cons_succ]
      refine seqS_do 16 rfl (by kernel_rfl) (fun K hK => ?_)
      go_simp
      refine (known8 _).mono ?_
      rintro e u4 ⟨rfl, hq4⟩
      replace hq4 := belT hq3 hq4
      refine hK.out (RowKit.Below wr.drew.heap.size wr.drew) _ _ (fun _ h => h) hq4 ?_
      clear hK K
      simp only [List.set_cons_zero, List.set_cons_succ]
      refine seqS_take 17 (v := ?_) rfl (by kernel_rfl) (fun _ _ _ h => h) (Or.inl ⟨by rfl, fun w' hb => ?_⟩) ?_
      rotate_left
      · have kf := KF w' hb
        go_simp
        with_reducible rfl
      simp only [Act.put, List.setIfInBounds_toArray, List.set_cons_zero, List.set_cons_succ]
      refine seqS_take 18 (v := ?_) rfl (by kernel_rfl) (fun _ _ _ h => h) (Or.inl ⟨by rfl, fun w' hb => ?_⟩) ?_
      rotate_left
      · have kf := KF w' hb
        go_simp
        with_reducible rfl
      simp only [Act.put, List.setIfInBounds_toArray, List.set_cons_zero, List.set_cons_succ]
      refine seqS_end (by kernel_rfl) (fun hEnd => ?_)
      clear KF
      go_wp2_with fail
      go_ret
      exact ⟨rfl, BWd.trans (hq4.mono BWd.size)⟩

end Go.Proofs.Ytbpajfjeakffkaa

/- QuorumGrows: its walk. -/
import Derived.Test.YtbpajfjeakffkaaQS
import Derived.OwnWalk
namespace Go.Proofs.Ytbpajfjeakffkaa
open Go.RowKit Go.Sort Go.Shelf
attribute [local go_sem] Oper.semAt_some

/-- tellings in cells: who, and its place -/
structure Ts (w : World) (a : Option Addr) (l : List (Int × Pl)) : Prop where
  addr : l ≠ [] → ∃ b o, a = some ⟨b, o, none⟩
  cell : ∀ b o, a = some ⟨b, o, none⟩ → ∀ i (h : i < l.length), w.cell? ⟨b, o + i * 3, none⟩ = some (.int .i64 l[i].1) ∧ w.cell? ⟨b, o + i * 3 + 1, none⟩ = some (.int .u64 (l[i].2.1 : Int)) ∧ w.cell? ⟨b, o + i * 3 + 1 + 1, none⟩ = some (.int .u64 (l[i].2.2 : Int))
theorem Ts.below {w w' : World} {a : Option Addr} {l : List (Int × Pl)} (h : Ts w a l) (hb : RowKit.Below w.heap.size w w') : Ts w' a l :=
  ⟨h.addr, fun b o e i hi => ⟨Below.cellSome hb (h.cell b o e i hi).1, Below.cellSome hb (h.cell b o e i hi).2.1, Below.cellSome hb (h.cell b o e i hi).2.2⟩⟩
theorem Ts.ex {w : World} {a : Option Addr} {l : List (Int × Pl)} (h : Ts w a l) {k : Nat} (hk : k < l.length) : ∃ b o, a = some ⟨b, o, none⟩ :=
  h.addr (by intro e; rw [e] at hk; simp at hk)

theorem tellG (mp mb : Nat) (D : MapD) (n : Int) (p : Pl) (w : World) (h : MS w mp mb D) :
    Calls Try.prog 15 #[.pointer (some ⟨mp, 0, none⟩), .int .i64 n, pv p] w fun e w' => ∃ (z : Bool) (x : Int) (E : MapD), e = .returned (.tuple #[.bool z, .int .i64 x]) ∧ Off mb w w' ∧ MS w' mp mb E ∧ E.length = D.length ∧ ∀ q, haveN (told D) q ≤ haveN (told E) q := by
  refine (tell15 mp mb D n p w h).mono ?_
  rintro e w' ⟨ho, ⟨_, rfl, hm⟩ | ⟨j, hj, hjn, ⟨_, rfl, hm⟩ | ⟨hlt, rfl, hm⟩⟩⟩
  · exact ⟨_, _, D, rfl, ho, hm, rfl, fun _ => Nat.le_refl _⟩
  · exact ⟨_, _, D, rfl, ho, hm, rfl, fun _ => Nat.le_refl _⟩
  · refine ⟨_, _, _, rfl, ho, hm, List.length_set, fun q => ?_⟩
    have e : told (D.set j (n, p)) = (told D).set j p := by simp [told, List.map_set]
    rw [e]
    refine haveN_set _ j (by simpa [told] using hj) p q ?_
    have h2 := (less_iff _ _).1 hlt
    rw [upto_iff]
    simp only [told, List.getElem_map]
    omega
/-- seven places in one block -/
structure SR (w : World) (B : Nat) (s : List Pl) : Prop where
  blk : w.heap[B]? = some (.cells (pcs s).toArray 63 (0, 0))
theorem SR.cell {w : World} {B : Nat} {s : List Pl} (h : SR w B s) (i : Nat) (hi : i < s.length) : w.cell? ⟨B, i * 2, none⟩ = some (.int .u64 (s[i].1 : Int)) ∧ w.cell? ⟨B, i * 2 + 1, none⟩ = some (.int .u64 (s[i].2 : Int)) := by
  obtain ⟨p1, p2⟩ := pcs_get s i hi
  rw [cell_of_row _ _ _ _ _ _ h.blk, cell_of_row _ _ _ _ _ _ h.blk]
  exact ⟨by simpa using p1, by simpa using p2⟩
theorem SR.there {w : World} {B : Nat} {s : List Pl} (h : SR w B s) (i : Nat) (hi : i < s.length) : w.there B (i * 2) 2 := by
  intro j hj
  obtain ⟨c1, c2⟩ := h.cell i hi
  refine ⟨?_, frozen_of_row _ _ _ _ _ h.blk⟩
  obtain rfl | rfl : j = 0 ∨ j = 1 := by omega
  · rw [Nat.add_zero, c1]; rfl
  · rw [c2]; rfl
theorem SR.store {w : World} {B : Nat} {s : List Pl} (h : SR w B s) (i : Nat) (hi : i < s.length) (p : Pl) : SR (w.setCells B (i * 2) [.int .u64 (p.1 : Int), .int .u64 (p.2 : Int)]) B (s.set i p) := by
  refine ⟨?_⟩
  show ((w.setCell ⟨B, i * 2, none⟩ _).setCell ⟨B, i * 2 + 1, none⟩ _).heap[B]? = _
  rw [setCell_eq, setCell_eq, mapBlock_mapBlock]
  show (w.heap.modify B (onCells _))[B]? = _
  rw [Array.getElem?_modify, if_pos rfl, h.blk, pcs_set s i hi p]
  simp [onCells]
theorem below_two (w : World) (B o b : Nat) (u v : Value) (hb : b ≤ B) : RowKit.Below b w (w.setCells B o [u, v]) := by
  show RowKit.Below b w ((w.setCell ⟨B, o, none⟩ u).setCell ⟨B, o + 1, none⟩ v)
  rw [setCell_eq, setCell_eq, mapBlock_mapBlock]
  refine ⟨rfl, rfl, rfl, by simp [mapBlock], fun j hj => ?_⟩
  show (w.heap.modify B _)[j]? = _
  rw [Array.getElem?_modify, if_neg (by omega)]
theorem MS.two {w : World} {mp mb : Nat} {D : MapD} (h : MS w mp mb D) (B o : Nat) (u v : Value) (h1 : B ≠ mp) (h2 : B ≠ mb) : MS (w.setCells B o [u, v]) mp mb D := by
  have hk : ∀ j, B ≠ j → (w.setCells B o [u, v]).heap[j]? = w.heap[j]? := fun j hj => by
    show ((w.setCell ⟨B, o, none⟩ u).setCell ⟨B, o + 1, none⟩ v).heap[j]? = _
    rw [setCell_eq, setCell_eq, mapBlock_mapBlock]
    show (w.heap.modify B _)[j]? = _
    rw [Array.getElem?_modify, if_neg hj]
  exact ⟨(hk _ h1).trans h.cell, (hk _ h2).trans h.map, h.nd, h.ne⟩
theorem SR.kept {w w' : World} {B : Nat} {s : List Pl} (h : SR w B s) (hb : w'.heap[B]? = w.heap[B]?) : SR w' B s := ⟨hb.trans h.blk⟩
theorem SR.lt {w : World} {B : Nat} {s : List Pl} (h : SR w B s) : B < w.heap.size := (Array.getElem?_eq_some_iff.1 h.blk).1

set_option maxRecDepth 10000 in
set_option maxHeartbeats 12800000 in
theorem grows7 (a0 : Option Addr) (c0 : Nat) (l : List Int) (a1 : Option Addr) (c1 : Nat) (T : List (Int × Pl)) (w : World) (h : Is w a0 l) (ht : Ts w a1 T) (hl : l.length ≤ 9223372036854775807) (htl : T.length ≤ 9223372036854775807) :
    Calls Try.prog 7 #[.slice a0 l.length c0, .slice a1 T.length c1] w fun e w' => e = .returned (.bool true) ∧ RowKit.Below w.heap.size w w' := by
  go_enter Try.func7, Try.ntmps7
  by_cases h1 : 60 < l.length
  · have d1 : decide (60 < (l.length : Int)) = true := decide_eq_true (by omega)
    go_wp2_with fail
    refine (known8 _).mono ?_
    rintro e w1 ⟨rfl, hb1⟩
    go_wp2_with fail
    go_ret
    exact ⟨rfl, hb1⟩
  have d1 : decide (60 < (l.length : Int)) = false := decide_eq_false (by omega)
  by_cases h2 : 150 < T.length
  · have d2 : decide (150 < (T.length : Int)) = true := decide_eq_true (by omega)
    go_wp2_with fail
    refine (known8 _).mono ?_
    rintro e w1 ⟨rfl, hb1⟩
    go_wp2_with fail
    go_ret
    exact ⟨rfl, hb1⟩
  have d2 : decide (150 < (T.length : Int)) = false := decide_eq_false (by omega)
  have hT : T.length ≤ 150 := by omega
  clear h1 h2 htl
  go_wp2_with fail
  refine (may10 a0 c0 l _ h (by omega)).mono ?_
  rintro e w1 ⟨hg1, ⟨hmay, rfl⟩ | ⟨hno, rfl⟩⟩
  rotate_left
  · go_wp2_with fail
    refine (known8 _).mono ?_
    rintro e w2 ⟨rfl, hb1⟩
    go_wp2_with fail
    go_ret
    exact ⟨rfl, belT hg1.below hb1⟩
  have hI1 := h.below hg1.below
  have hl5 := hmay.len
  go_wp2_with fail
  refine (new9 a0 c0 l _ hI1 (by omega)).mono ?_
  rintro e w2 ⟨hb2, ⟨_, rfl, hM⟩ | ⟨hn, _⟩⟩
  rotate_left
  · exact absurd hmay hn
  go_wp2_with (first | (go_at_call 11; refine (num11 _ _).mono ?_; rintro e v6 ⟨rfl, rfl⟩) | fail)
  have hmb0 : w.heap.size ≤ w1.heap.size := hg1.below.size
  have hB2 : RowKit.Below w.heap.size w w2 := belT hg1.below hb2
  have hDl : (fresh l).length = l.length := fresh_len l
  have hInv := inv_fresh l
  have hSR : SR (w2.alloc (.cells (pcs (List.replicate 7 (0, 0))).toArray 63)) w2.heap.size (List.replicate 7 (0, 0)) := ⟨heap_alloc_new _ _⟩
  have hpr : (pcs (List.replicate 7 (0, 0))).toArray = #[.int .u64 0, .int .u64 0, .int .u64 0, .int .u64 0, .int .u64 0, .int .u64 0, .int .u64 0, .int .u64 0, .int .u64 0, .int .u64 0, .int .u64 0, .int .u64 0, .int .u64 0, .int .u64 0] := by kernel_rfl
  rw [hpr] at hSR
  clear hpr
  have hba : RowKit.Below w2.heap.size w2 (w2.alloc (.cells #[.int .u64 0, .int .u64 0, .int .u64 0, .int .u64 0, .int .u64 0, .int .u64 0, .int .u64 0, .int .u64 0, .int .u64 0, .int .u64 0, .int .u64 0, .int .u64 0, .int .u64 0, .int .u64 0] 63)) := (RowKit.Below.refl _ _).alloc (Nat.le_refl _) _
  obtain ⟨W, hW⟩ : ∃ W, W = (w2.alloc (.cells #[.int .u64 0, .int .u64 0, .int .u64 0, .int .u64 0, .int .u64 0, .int .u64 0, .int .u64 0, .int .u64 0, .int .u64 0, .int .u64 0, .int .u64 0, .int .u64 0, .int .u64 0, .int .u64 0] 63)) := ⟨_, rfl⟩
  rw [← hW] at hSR hba ⊢
  have hMW := hM.below hba
  have hBW := belT hB2 hba
  have hmbw : w1.heap.size < w2.heap.size := (Array.getElem?_eq_some_iff.1 hM.map).1
  have hmpw : w1.heap.size + 1 < w2.heap.size := (Array.getElem?_eq_some_iff.1 hM.cell).1
  clear hW hM hba hB2 hb2 hI1 hg1
  obtain ⟨LB, hLB⟩ : ∃ m, w2.heap.size = m := ⟨_, rfl⟩
  rw [hLB] at hSR hmbw hmpw ⊢
  obtain ⟨mp, hmp⟩ : ∃ m, w1.heap.size + 1 = m := ⟨_, rfl⟩
  rw [hmp] at hMW hmpw ⊢
  obtain ⟨mb, hmb⟩ : ∃ m, w1.heap.size = m := ⟨_, rfl⟩
  rw [hmb] at hMW hmb0 hmbw
  obtain ⟨D0, hD0⟩ : ∃ D, fresh l = D := ⟨_, rfl⟩
  rw [hD0] at hMW hDl hInv
  clear hLB hmp hmb hD0
  go_wp2_with fail
  go_loopw [8] (fun i wr => ∃ (k : Nat) (D : MapD) (s : List Pl), k ≤ T.length ∧ i = .int .i64 k ∧ RowKit.Below w.heap.size w wr ∧ MS wr mp mb D ∧ D.length = l.length ∧ SR wr LB s ∧ Inv D s) (fun i _ => T.length - (intOf i).toNat)
  case atStart => exact ⟨0, D0, _, by omega, rfl, hBW, hMW, hDl, hSR, hInv⟩
  case round =>
    clear hBW hMW hDl hSR hInv D0
    obtain ⟨k, D, s, hk, rfl, hBr, hM, hDl, hSR, hInv⟩ := hrel
    by_cases hlt : k < T.length
    · obtain ⟨b1, o1, rfl⟩ := ht.ex hlt
      obtain ⟨x, hx⟩ : ∃ x, T[k] = x := ⟨_, rfl⟩
      have KF : ∀ w', Off mb wr.drew w' → (w'.cell? ⟨b1, o1 + k * 3, none⟩ = some (.int .i64 x.1) ∧ w'.cell? ⟨b1, o1 + k * 3 + 1, none⟩ = some (.int .u64 (x.2.1 : Int)) ∧ w'.cell? ⟨b1, o1 + k * 3 + 1 + 1, none⟩ = some (.int .u64 (x.2.2 : Int))) ∧ k < T.length := fun w' ho => by
        have hb : RowKit.Below w.heap.size w w' := (hBr.trans (RowKit.Below.mono (Gr.refl wr).drew.below hBr.size)).trans (ho.1.mono hmb0)
        have := (ht.below hb).cell b1 o1 rfl k hlt
        rw [hx] at this
        exact ⟨this, hlt⟩
      clear hx
      have PT := Lib.hid (fun w h => tellG mp mb D x.1 x.2 w h)
      have HKF := Lib.hid KF
      clear KF
      go_wp2_with fail
      have KF := HKF.out
      refine seqS_start (Off mb wr.drew) 12 [false, false, false, false, false, false, false, false, false, false, false, false] (by kernel_rfl) rfl rfl (Off.refl _ _) ?_
      refine seqS_take 0 (v := ?_) rfl (by kernel_rfl) (fun _ _ _ h => h) (Or.inl ⟨by rfl, fun w' hb => ?_⟩) ?_
      rotate_left
      · have kf := KF w' hb
        go_simp
        with_reducible rfl
      simp only [Act.put, List.setIfInBounds_toArray, List.set_cons_zero, List.set_cons_succ]
      refine seqS_take 1 (v := ?_) rfl (by kernel_rfl) (fun _ _ _ h => h) (Or.inl ⟨by rfl, fun w' hb => ?_⟩) ?_
      rotate_left
      · have kf := KF w' hb
        go_simp
        with_reducible rfl
      simp only [Act.put, List.setIfInBounds_toArray, List.set_cons_zero, List.set_cons_succ]
      refine seqS_take 2 (v := ?_) rfl (by kernel_rfl) (fun _ _ _ h => h) (Or.inl ⟨by rfl, fun w' hb => ?_⟩) ?_
      rotate_left
      · have kf := KF w' hb
        go_simp
        with_reducible rfl
      simp only [Act.put, List.setIfInBounds_toArray, List.set_cons_zero, List.set_cons_succ]
      refine seqS_take 3 (v := ?_) rfl (by kernel_rfl) (fun _ _ _ h => h) (Or.inl ⟨by rfl, fun w' hb => ?_⟩) ?_
      rotate_left
      · have kf := KF w' hb
        go_simp
        with_reducible rfl
      simp only [Act.put, List.setIfInBounds_toArray, List.set_cons_zero, List.set_cons_succ]
      refine seqS_take 4 (v := ?_) rfl (by kernel_rfl) (fun _ _ _ h => h) (Or.inl ⟨by rfl, fun w' hb => ?_⟩) ?_
      rotate_left
      · have kf := KF w' hb
        go_simp
        with_reducible rfl
      simp only [Act.put, List.setIfInBounds_toArray, List.set_cons_zero, List.set_cons_succ]
      refine seqS_take 5 (v := ?_) rfl (by kernel_rfl) (fun _ _ _ h => h) (Or.inl ⟨by rfl, fun w' hb => ?_⟩) ?_
      rotate_left
      · have kf := KF w' hb
        go_simp
        with_reducible rfl
      simp only [Act.put, List.setIfInBounds_toArray, List.set_cons_zero, List.set_cons_succ]
      refine seqS_take 6 (v := ?_) rfl (by kernel_rfl) (fun _ _ _ h => h) (Or.inl ⟨by rfl, fun w' hb => ?_⟩) ?_
      rotate_left
      · have kf := KF w' hb
        go_simp
        with_reducible rfl
      simp only [Act.put, List.setIfInBounds_toArray, List.set_cons_zero, List.set_cons_succ]
      refine seqS_take 7 (v := ?_) rfl (by kernel_rfl) (fun _ _ _ h => h) (Or.inl ⟨by rfl, fun w' hb => ?_⟩) ?_
      rotate_left
      · have kf := KF w' hb
        go_simp
        with_reducible rfl
      simp only [Act.put, List.setIfInBounds_toArray, List.set_cons_zero, List.set_cons_succ]
      refine seqS_take 8 (v := ?_) rfl (by kernel_rfl) (fun _ _ _ h => h) (Or.inl ⟨by rfl, fun w' hb => ?_⟩) ?_
      rotate_left
      · have kf := KF w' hb
        go_simp
        with_reducible rfl
      simp only [Act.put, List.setIfInBounds_toArray, List.set_cons_zero, List.set_cons_succ]
      refine seqS_take 9 (v := ?_) rfl (by kernel_rfl) (fun _ _ _ h => h) (Or.inl ⟨by rfl, fun w' hb => ?_⟩) ?_
      rotate_left
      · have kf := KF w' hb
        go_simp
        with_reducible rfl
      simp only [Act.put, List.setIfInBounds_toArray, List.set_cons_zero, List.set_cons_succ]
      refine seqS_take 10 (v := ?_) rfl (by kernel_rfl) (fun _ _ _ h => h) (Or.inl ⟨by rfl, fun w' hb => ?_⟩) ?_
      rotate_left
      · have kf := KF w' hb
        go_simp
        with_reducible rfl
      simp only [Act.put, List.setIfInBounds_toArray, List.set_cons_zero, List.set_cons_succ]
      refine seqS_do 11 rfl (by kernel_rfl) (fun K hK => ?_)
      go_simp
      refine (PT.out _ hM.drew).mono ?_
      rintro e u1 ⟨z, y, E, rfl, ho, hME, hEl, hgr⟩
      refine hK.out (Off mb wr.drew) _ _ (fun _ h => h) ho ?_
      clear hK K
      simp only [List.set_cons_zero, List.set_cons_succ]
      refine seqS_end (by kernel_rfl) (fun hEnd => ?_)
      have hBu : RowKit.Below w.heap.size w u1 := (hBr.trans (RowKit.Below.mono (Gr.refl wr).drew.below hBr.size)).trans (ho.1.mono hmb0)
      have hSu : SR u1 LB s := hSR.kept (ho.2 LB (by exact hSR.lt) (by omega))
      have hMid := hInv.mid hEl
      clear KF HKF ho hM hSR hInv hBr PT hEnd
      go_wp2_with fail
      go_loopw [9] (fun i wr => ∃ (k : Nat) (s : List Pl), 1 ≤ k ∧ k ≤ l.length + 1 ∧ i = .int .i64 k ∧ RowKit.Below w.heap.size w wr ∧ MS wr mp mb E ∧ SR wr LB s ∧ Mid D E s k) (fun i _ => l.length + 1 - (intOf i).toNat)
      case atStart => exact ⟨1, s, by omega, by omega, rfl, hBu, hME, hSu, hMid⟩
      case round =>
        clear hBu hME hSu hMid s
        obtain ⟨k2, s, hk1, hkl, rfl, hBr, hM, hSR, hMid⟩ := hrel
        have d7 : decide ((k2 : Int) < 7) = true := decide_eq_true (by omega)
        by_cases hle : k2 ≤ l.length
        · have d6 : decide ((k2 : Int) ≤ (l.length : Int)) = true := decide_eq_true (by omega)
          have hs7 := hMid.1
          obtain ⟨p, hp, hq1, hq2, hq3⟩ := hMid.round hEl hgr hk1 (by omega)
          have hstep := hMid.step hk1 (by omega) (by omega) hp
          have P28 := Lib.hid (fun w h => leastM28 mp mb E (by omega) k2 w h)
          have PH := Lib.hid (fun w h => haveM18 mp mb E (by omega) k2 p w h)
          rw [hq3] at PH
          rw [hp] at P28
          rw [getD_at s k2 (by omega)] at hq1
          obtain ⟨y, hy⟩ : ∃ y, s[k2]'(by omega) = y := ⟨_, rfl⟩
          rw [hy] at hq1
          have PA := Lib.hid (fun w => less25 p y w)
          rw [hq1] at PA
          clear hp hq1 hq3 hMid
          go_wp2_with fail
          refine (P28.out _ hM).mono ?_
          rintro e w4 ⟨rfl, hb4⟩
          rw [show optV (some p) = .tuple #[.agg #[.int .u64 (p.1 : Int), .int .u64 (p.2 : Int)], .bool true] from rfl]
          have hM4 := hM.below hb4
          have hBr4 := hBr.trans (hb4.mono hBr.size)
          have hS4 : SR w4 LB s := hSR.kept (hb4.block _ hSR.lt)
          have hba : RowKit.Below w4.heap.size w4 (w4.alloc (.cells #[.int .u64 (p.1 : Int), .int .u64 (p.2 : Int)] 26)) := (RowKit.Below.refl _ _).alloc (Nat.le_refl _) _
          have hz5 : (w4.alloc (.cells #[.int .u64 (p.1 : Int), .int .u64 (p.2 : Int)] 26)).heap[w4.heap.size]? = some (.cells #[.int .u64 (p.1 : Int), .int .u64 (p.2 : Int)] 26 (0, 0)) := heap_alloc_new _ _
          clear hM hSR hBr hb4 P28
          go_wp2_with fail
          obtain ⟨w5, hw5⟩ : ∃ w5, w5 = w4.alloc (.cells #[.int .u64 (p.1 : Int), .int .u64 (p.2 : Int)] 26) := ⟨_, rfl⟩
          rw [← hw5] at hba hz5 ⊢
          have hM5 := hM4.below hba
          have hS5 : SR w5 LB s := hS4.kept (hba.block _ hS4.lt)
          have hBr5 := hBr4.trans (hba.mono hBr4.size)
          have hne : LB < w4.heap.size := hS4.lt
          clear hw5 hM4 hS4 hba hBr4
          by_cases hk21 : 1 < k2
          · obtain ⟨m, hm⟩ : ∃ m, k2 = m + 1 := ⟨k2 - 1, by omega⟩
            have hmi : (k2 : Int) - 1 = (m : Int) := by omega
            have hms : m < s.length := by omega
            have hk2m : k2 - 1 = m := by omega
            clear hm
            have hwm : IntKind.i64.wrap (m : Int) = (m : Int) := by unfold IntKind.wrap; simp [IntKind.signed, IntKind.bits]; omega
            have d8 : decide (1 < (k2 : Int)) = true := decide_eq_true (by omega)
            have hlm := hq2 hk21
            rw [hk2m, getD_at s m hms] at hlm
            clear hk2m
            obtain ⟨y2, hy2⟩ : ∃ y2, s[m]'hms = y2 := ⟨_, rfl⟩
            rw [hy2] at hlm
            have PB := Lib.hid (fun w => less25 y2 p w)
            rw [hlm] at PB
            clear hlm
            have KF : ∀ w', RowKit.Below w5.drew.heap.size w5.drew w' → (w'.cell? ⟨w4.heap.size, 0, none⟩ = some (.int .u64 (p.1 : Int)) ∧ w'.cell? ⟨w4.heap.size, 1, none⟩ = some (.int .u64 (p.2 : Int))) ∧ (w'.cell? ⟨LB, k2 * 2, none⟩ = some (.int .u64 (y.1 : Int)) ∧ w'.cell? ⟨LB, k2 * 2 + 1, none⟩ = some (.int .u64 (y.2 : Int))) ∧ (w'.cell? ⟨LB, m * 2, none⟩ = some (.int .u64 (y2.1 : Int)) ∧ w'.cell? ⟨LB, m * 2 + 1, none⟩ = some (.int .u64 (y2.2 : Int))) ∧ (k2 : Int) < 7 ∧ (m : Int) < 7 ∧ (k2 : Int) - 1 = (m : Int) ∧ IntKind.i64.wrap (m : Int) = (m : Int) := fun w' hb => by
              have hb2 : RowKit.Below w5.heap.size w5 w' := (Gr.refl w5).drew.below.trans hb
              have e1 : w'.heap[w4.heap.size]? = _ := (hb2.block _ (Array.getElem?_eq_some_iff.1 hz5).1).trans hz5
              have hS' := hS5.kept (hb2.block _ hS5.lt)
              have e2 := hS'.cell k2 (by omega)
              have e3 := hS'.cell m hms
              rw [hy] at e2
              rw [hy2] at e3
              exact ⟨⟨cell_of_row _ _ _ _ _ _ e1, cell_of_row _ _ _ _ _ _ e1⟩, e2, e3, by omega, by omega, hmi, hwm⟩
            refine seqS_start (RowKit.Below w5.drew.heap.size w5.drew) 28 [false, false, false, false, false, false, false, false, false, false, false, false, false, false, false, false, false, false, false, false, false, false, false, false, false, false, false, false] (by kernel_rfl) rfl rfl (RowKit.Below.refl _ _) ?_
            refine seqS_take 0 (v := ?_) rfl (by kernel_rfl) (fun _ _ _ h => h) (Or.inl ⟨by rfl, fun w' hb => ?_⟩) ?_
            rotate_left
            · have kf := KF w' hb
              go_simp
              with_reducible rfl
            simp only [Act.put, List.setIfInBounds_toArray, List.set_cons_zero, List.set_cons_succ]
            refine seqS_take 1 (v := ?_) rfl (by kernel_rfl) (fun _ _ _ h => h) (Or.inl ⟨by rfl, fun w' hb => ?_⟩) ?_
            rotate_left
            · have kf := KF w' hb
              go_simp
              with_reducible rfl
            simp only [Act.put, List.setIfInBounds_toArray, List.set_cons_zero, List.set_cons_succ]
            refine seqS_take 2 (v := ?_) rfl (by kernel_rfl) (fun _ _ _ h => h) (Or.inl ⟨by rfl, fun w' hb => ?_⟩) ?_
            rotate_left
            · have kf := KF w' hb
              go_simp
              with_reducible rfl
            simp only [Act.put, List.setIfInBounds_toArray, List.set_cons_zero, List.set_cons_succ]
            refine seqS_take 3 (v := ?_) rfl (by kernel_rfl) (fun _ _ _ h => h) (Or.inl ⟨by rfl, fun w' hb => ?_⟩) ?_
            rotate_left
            · have kf := KF w' hb
              go_simp
              with_reducible rfl
            simp only [Act.put, List.setIfInBounds_toArray, List.set_cons_zero, List.set_cons_succ]
            refine seqS_take 4 (v := ?_) rfl (by kernel_rfl) (fun _ _ _ h => h) (Or.inl ⟨by rfl, fun w' hb => ?_⟩) ?_
            rotate_left
            · have kf := KF w' hb
              go_simp
              with_reducible rfl
            simp only [Act.put, List.setIfInBounds_toArray, List.set_cons_zero, List.set_cons_succ]
            refine seqS_take 5 (v := ?_) rfl (by kernel_rfl) (fun _ _ _ h => h) (Or.inl ⟨by rfl, fun w' hb => ?_⟩) ?_
            rotate_left
            · have kf := KF w' hb
              go_simp
              with_reducible rfl
            simp only [Act.put, List.setIfInBounds_toArray, List.set_cons_zero, List.set_cons_succ]
            refine seqS_take 6 (v := ?_) rfl (by kernel_rfl) (fun _ _ _ h => h) (Or.inl ⟨by rfl, fun w' hb => ?_⟩) ?_
            rotate_left
            · have kf := KF w' hb
              go_simp
              with_reducible rfl
            simp only [Act.put, List.setIfInBounds_toArray, List.set_cons_zero, List.set_cons_succ]
            refine seqS_do 7 rfl (by kernel_rfl) (fun K hK => ?_)
            go_simp
            refine (PA.out _).mono ?_
            rintro e u1 ⟨rfl, hg1⟩
            replace hg1 := hg1.below
            refine hK.out (RowKit.Below w5.drew.heap.size w5.drew) _ _ (fun _ h => h) hg1 ?_
            clear hK K
            simp only [List.set_cons_zero, List.set_cons_succ]
            refine seqS_take 8 (v := ?_) rfl (by kernel_rfl) (fun _ _ _ h => h) (Or.inl ⟨by rfl, fun w' hb => ?_⟩) ?_
            rotate_left
            · have kf := KF w' hb
              go_simp
              with_reducible rfl
            simp only [Act.put, List.setIfInBounds_toArray, List.set_cons_zero, List.set_cons_succ]
            refine seqS_take 9 (v := ?_) rfl (by kernel_rfl) (fun _ _ _ h => h) (Or.inl ⟨by rfl, fun w' hb => ?_⟩) ?_
            rotate_left
            · have kf := KF w' hb
              go_simp
              with_reducible rfl
            simp only [Act.put, List.setIfInBounds_toArray, List.set_cons_zero, List.set_cons_succ]
            refine seqS_take 10 (v := ?_) rfl (by kernel_rfl) (fun _ _ _ h => h) (Or.inl ⟨by rfl, fun w' hb => ?_⟩) ?_
            rotate_left
            · have kf := KF w' hb
              go_simp
              with_reducible rfl
            simp only [Act.put, List.setIfInBounds_toArray, List.set_cons_zero, List.set_cons_succ]
            refine seqS_take 11 (v := ?_) rfl (by kernel_rfl) (fun _ _ _ h => h) (Or.inl ⟨by rfl, fun w' hb => ?_⟩) ?_
            rotate_left
            · have kf := KF w' hb
              go_simp
              with_reducible rfl
            simp only [Act.put, List.setIfInBounds_toArray, List.set_cons_zero, List.set_cons_succ]
            refine seqS_take 12 (v := ?_) rfl (by kernel_rfl) (fun _ _ _ h => h) (Or.inl ⟨by rfl, fun w' hb => ?_⟩) ?_
            rotate_left
            · have kf := KF w' hb
              go_simp
              with_reducible rfl
            simp only [Act.put, List.setIfInBounds_toArray, List.set_cons_zero, List.set_cons_succ]
            refine seqS_take 13 (v := ?_) rfl (by kernel_rfl) (fun _ _ _ h => h) (Or.inl ⟨by rfl, fun w' hb => ?_⟩) ?_
            rotate_left
            · have kf := KF w' hb
              go_simp
              with_reducible rfl
            simp only [Act.put, List.setIfInBounds_toArray, List.set_cons_zero, List.set_cons_succ]
            refine seqS_take 14 (v := ?_) rfl (by kernel_rfl) (fun _ _ _ h => h) (Or.inl ⟨by rfl, fun w' hb => ?_⟩) ?_
            rotate_left
            · have kf := KF w' hb
              go_simp
              with_reducible rfl
            simp only [Act.put, List.setIfInBounds_toArray, List.set_cons_zero, List.set_cons_succ]
            refine seqS_take 15 (v := ?_) rfl (by kernel_rfl) (fun _ _ _ h => h) (Or.inl ⟨by rfl, fun w' hb => ?_⟩) ?_
            rotate_left
            · have kf := KF w' hb
              go_simp
              with_reducible rfl
            simp only [Act.put, List.setIfInBounds_toArray, List.set_cons_zero, List.set_cons_succ]
            refine seqS_take 16 (v := ?_) rfl (by kernel_rfl) (fun _ _ _ h => h) (Or.inl ⟨by rfl, fun w' hb => ?_⟩) ?_
            rotate_left
            · have kf := KF w' hb
              go_simp
              with_reducible rfl
            simp only [Act.put, List.setIfInBounds_toArray, List.set_cons_zero, List.set_cons_succ]
            refine seqS_take 17 (v := ?_) rfl (by kernel_rfl) (fun _ _ _ h => h) (Or.inl ⟨by rfl, fun w' hb => ?_⟩) ?_
            rotate_left
            · have kf := KF w' hb
              go_simp
              with_reducible rfl
            simp only [Act.put, List.setIfInBounds_toArray, List.set_cons_zero, List.set_cons_succ]
            refine seqS_do 18 rfl (by kernel_rfl) (fun K hK => ?_)
            go_simp
            refine (PB.out _).mono ?_
            rintro e u2 ⟨rfl, hg2⟩
            replace hg1 := belT hg1 hg2.below
            refine hK.out (RowKit.Below w5.drew.heap.size w5.drew) _ _ (fun _ h => h) hg1 ?_
            clear hK K
            simp only [List.set_cons_zero, List.set_cons_succ]
            refine seqS_take 19 (v := ?_) rfl (by kernel_rfl) (fun _ _ _ h => h) (Or.inl ⟨by rfl, fun w' hb => ?_⟩) ?_
            rotate_left
            · have kf := KF w' hb
              go_simp
              with_reducible rfl
            simp only [Act.put, List.setIfInBounds_toArray, List.set_cons_zero, List.set_cons_succ]
            refine seqS_take 20 (v := ?_) rfl (by kernel_rfl) (fun _ _ _ h => h) (Or.inl ⟨by rfl, fun w' hb => ?_⟩) ?_
            rotate_left
            · have kf := KF w' hb
              go_simp
              with_reducible rfl
            simp only [Act.put, List.setIfInBounds_toArray, List.set_cons_zero, List.set_cons_succ]
            refine seqS_take 21 (v := ?_) rfl (by kernel_rfl) (fun _ _ _ h => h) (Or.inl ⟨by rfl, fun w' hb => ?_⟩) ?_
            rotate_left
            · have kf := KF w' hb
              go_simp
              with_reducible rfl
            simp only [Act.put, List.setIfInBounds_toArray, List.set_cons_zero, List.set_cons_succ]
            refine seqS_take 22 (v := ?_) rfl (by kernel_rfl) (fun _ _ _ h => h) (Or.inl ⟨by rfl, fun w' hb => ?_⟩) ?_
            rotate_left
            · have kf := KF w' hb
              go_simp
              with_reducible rfl
            simp only [Act.put, List.setIfInBounds_toArray, List.set_cons_zero, List.set_cons_succ]
            refine seqS_take 23 (v := ?_) rfl (by kernel_rfl) (fun _ _ _ h => h) (Or.inl ⟨by rfl, fun w' hb => ?_⟩) ?_
            rotate_left
            · have kf := KF w' hb
              go_simp
              with_reducible rfl
            simp only [Act.put, List.setIfInBounds_toArray, List.set_cons_zero, List.set_cons_succ]
            refine seqS_take 24 (v := ?_) rfl (by kernel_rfl) (fun _ _ _ h => h) (Or.inl ⟨by rfl, fun w' hb => ?_⟩) ?_
            rotate_left
            · have kf := KF w' hb
              go_simp
              with_reducible rfl
            simp only [Act.put, List.setIfInBounds_toArray, List.set_cons_zero, List.set_cons_succ]
            refine seqS_do 25 rfl (by kernel_rfl) (fun K hK => ?_)
            go_simp
            refine (PH.out _ (hM5.drew.below hg1)).mono ?_
            rintro e u3 ⟨rfl, hg3⟩
            replace hg1 := belT hg1 hg3
            refine hK.out (RowKit.Below w5.drew.heap.size w5.drew) _ _ (fun _ h => h) hg1 ?_
            clear hK K
            simp only [List.set_cons_zero, List.set_cons_succ]
            refine seqS_take 26 (v := ?_) rfl (by kernel_rfl) (fun _ _ _ h => h) (Or.inl ⟨by rfl, fun w' hb => ?_⟩) ?_
            rotate_left
            · have kf := KF w' hb
              go_simp
              with_reducible rfl
            simp only [Act.put, List.setIfInBounds_toArray, List.set_cons_zero, List.set_cons_succ]
            refine seqS_take 27 (v := ?_) rfl (by kernel_rfl) (fun _ _ _ h => h) (Or.inl ⟨by rfl, fun w' hb => ?_⟩) ?_
            rotate_left
            · have kf := KF w' hb
              go_simp
              with_reducible rfl
            simp only [Act.put, List.setIfInBounds_toArray, List.set_cons_zero, List.set_cons_succ]
            refine seqS_end (by kernel_rfl) (fun hEnd => ?_)
            clear KF PA PB PH hEnd
            have hb5 : RowKit.Below w5.heap.size w5 u3 := (Gr.refl w5).drew.below.trans hg1
            have hz6 : u3.heap[w4.heap.size]? = _ := (hb5.block _ (Array.getElem?_eq_some_iff.1 hz5).1).trans hz5
            have r0 := cell_of_row _ _ 0 _ _ _ hz6
            have r1 := cell_of_row _ _ 1 _ _ _ hz6
            have hS6 : SR u3 LB s := hS5.kept (hb5.block _ hS5.lt)
            have hB6 := hBr5.trans (hb5.mono hBr5.size)
            have hM6 := hM5.below hb5
            have hth := hS6.there k2 (by omega)
            have hS7 := hS6.store k2 (by omega) p
            have hB7 := hB6.trans (below_two u3 LB (k2 * 2) w.heap.size (.int .u64 (p.1 : Int)) (.int .u64 (p.2 : Int)) (by omega))
            have hM7 := hM6.two LB (k2 * 2) (.int .u64 (p.1 : Int)) (.int .u64 (p.2 : Int)) (by omega) (by omega)
            have h7' : (k2 : Int) < 7 := by omega
            clear hz5 hz6 hM6 hS6 hB6 hM5 hS5 hBr5 hb5
            go_wp2_with (refine wpList_store_mid rfl 26 (.tmp 102) (.tmp 101) rfl LB (k2 * 2) #[.int .u64 (p.1 : Int), .int .u64 (p.2 : Int)] rfl rfl hth (by rw [info26]; rfl) (two_one _ _) ?_)
            go_roundw
            case rel => exact ⟨k2 + 1, _, by omega, by omega, by go_num, hB7, hM7, hS7, hstep⟩
            case measure => simp [intOf]; omega
          · have d8 : decide (1 < (k2 : Int)) = false := decide_eq_false (by omega)
            have KF : ∀ w', RowKit.Below w5.drew.heap.size w5.drew w' → (w'.cell? ⟨w4.heap.size, 0, none⟩ = some (.int .u64 (p.1 : Int)) ∧ w'.cell? ⟨w4.heap.size, 1, none⟩ = some (.int .u64 (p.2 : Int))) ∧ (w'.cell? ⟨LB, k2 * 2, none⟩ = some (.int .u64 (y.1 : Int)) ∧ w'.cell? ⟨LB, k2 * 2 + 1, none⟩ = some (.int .u64 (y.2 : Int))) ∧ (k2 : Int) < 7 := fun w' hb => by
              have hb2 : RowKit.Below w5.heap.size w5 w' := (Gr.refl w5).drew.below.trans hb
              have e1 : w'.heap[w4.heap.size]? = _ := (hb2.block _ (Array.getElem?_eq_some_iff.1 hz5).1).trans hz5
              have e2 := (hS5.kept (hb2.block _ hS5.lt)).cell k2 (by omega)
              rw [hy] at e2
              exact ⟨⟨cell_of_row _ _ _ _ _ _ e1, cell_of_row _ _ _ _ _ _ e1⟩, e2, by omega⟩
            refine seqS_start (RowKit.Below w5.drew.heap.size w5.drew) 28 [false, false, false, false, false, false, false, false, false, false, false, false, false, false, false, false, false, false, false, false, false, false, false, false, false, false, false, false] (by kernel_rfl) rfl rfl (RowKit.Below.refl _ _) ?_
            refine seqS_take 0 (v := ?_) rfl (by kernel_rfl) (fun _ _ _ h => h) (Or.inl ⟨by rfl, fun w' hb => ?_⟩) ?_
            rotate_left
            · have kf := KF w' hb
              go_simp
              with_reducible rfl
            simp only [Act.put, List.setIfInBounds_toArray, List.set_cons_zero, List.set_cons_succ]
            refine seqS_take 1 (v := ?_) rfl (by kernel_rfl) (fun _ _ _ h => h) (Or.inl ⟨by rfl, fun w' hb => ?_⟩) ?_
            rotate_left
            · have kf := KF w' hb
              go_simp
              with_reducible rfl
            simp only [Act.put, List.setIfInBounds_toArray, List.set_cons_zero, List.set_cons_succ]
            refine seqS_take 2 (v := ?_) rfl (by kernel_rfl) (fun _ _ _ h => h) (Or.inl ⟨by rfl, fun w' hb => ?_⟩) ?_
            rotate_left
            · have kf := KF w' hb
              go_simp
              with_reducible rfl
            simp only [Act.put, List.setIfInBounds_toArray, List.set_cons_zero, List.set_cons_succ]
            refine seqS_take 3 (v := ?_) rfl (by kernel_rfl) (fun _ _ _ h => h) (Or.inl ⟨by rfl, fun w' hb => ?_⟩) ?_
            rotate_left
            · have kf := KF w' hb
              go_simp
              with_reducible rfl
            simp only [Act.put, List.setIfInBounds_toArray, List.set_cons_zero, List.set_cons_succ]
            refine seqS_take 4 (v := ?_) rfl (by kernel_rfl) (fun _ _ _ h => h) (Or.inl ⟨by rfl, fun w' hb => ?_⟩) ?_
            rotate_left
            · have kf := KF w' hb
              go_simp
              with_reducible rfl
            simp only [Act.put, List.setIfInBounds_toArray, List.set_cons_zero, List.set_cons_succ]
            refine seqS_take 5 (v := ?_) rfl (by kernel_rfl) (fun _ _ _ h => h) (Or.inl ⟨by rfl, fun w' hb => ?_⟩) ?_
            rotate_left
            · have kf := KF w' hb
              go_simp
              with_reducible rfl
            simp only [Act.put, List.setIfInBounds_toArray, List.set_cons_zero, List.set_cons_succ]
            refine seqS_take 6 (v := ?_) rfl (by kernel_rfl) (fun _ _ _ h => h) (Or.inl ⟨by rfl, fun w' hb => ?_⟩) ?_
            rotate_left
            · have kf := KF w' hb
              go_simp
              with_reducible rfl
            simp only [Act.put, List.setIfInBounds_toArray, List.set_cons_zero, List.set_cons_succ]
            refine seqS_do 7 rfl (by kernel_rfl) (fun K hK => ?_)
            go_simp
            refine (PA.out _).mono ?_
            rintro e u1 ⟨rfl, hg1⟩
            replace hg1 := hg1.below
            refine hK.out (RowKit.Below w5.drew.heap.size w5.drew) _ _ (fun _ h => h) hg1 ?_
            clear hK K
            simp only [List.set_cons_zero, List.set_cons_succ]
            refine seqS_take 8 (v := ?_) rfl (by kernel_rfl) (fun _ _ _ h => h) (Or.inl ⟨by rfl, fun w' hb => ?_⟩) ?_
            rotate_left
            · have kf := KF w' hb
              go_simp
              with_reducible rfl
            simp only [Act.put, List.setIfInBounds_toArray, List.set_cons_zero, List.set_cons_succ]
            refine seqS_take 9 (v := ?_) rfl (by kernel_rfl) (fun _ _ _ h => h) (Or.inl ⟨by rfl, fun w' hb => ?_⟩) ?_
            rotate_left
            · have kf := KF w' hb
              go_simp
              with_reducible rfl
            simp only [Act.put, List.setIfInBounds_toArray, List.set_cons_zero, List.set_cons_succ]
            refine seqS_take 10 (v := ?_) rfl (by kernel_rfl) (fun _ _ _ h => h) (Or.inl ⟨by rfl, fun w' hb => ?_⟩) ?_
            rotate_left
            · have kf := KF w' hb
              go_simp
              with_reducible rfl
            simp only [Act.put, List.setIfInBounds_toArray, List.set_cons_zero, List.set_cons_succ]
            refine seqS_take 11 (v := ?_) rfl (by kernel_rfl) (fun _ _ _ h => h) (Or.inl ⟨by rfl, fun w' hb => ?_⟩) ?_
            rotate_left
            · have kf := KF w' hb
              go_simp
              with_reducible rfl
            simp only [Act.put, List.setIfInBounds_toArray, List.set_cons_zero, List.set_cons_succ]
            refine seqS_take 12 (v := ?_) rfl (by kernel_rfl) (fun _ _ _ h => h) (Or.inl ⟨by rfl, fun w' hb => ?_⟩) ?_
            rotate_left
            · have kf := KF w' hb
              go_simp
              with_reducible rfl
            simp only [Act.put, List.setIfInBounds_toArray, List.set_cons_zero, List.set_cons_succ]
            refine seqS_take 13 (v := undef) rfl (by kernel_rfl) (fun _ _ _ h => h) (Or.inr ⟨by rfl, rfl⟩) ?_
            simp only [Act.put, List.setIfInBounds_toArray, List.set_cons_zero, List.set_cons_succ]
            refine seqS_take 14 (v := undef) rfl (by kernel_rfl) (fun _ _ _ h => h) (Or.inr ⟨by rfl, rfl⟩) ?_
            simp only [Act.put, List.setIfInBounds_toArray, List.set_cons_zero, List.set_cons_succ]
            refine seqS_take 15 (v := undef) rfl (by kernel_rfl) (fun _ _ _ h => h) (Or.inr ⟨by rfl, rfl⟩) ?_
            simp only [Act.put, List.setIfInBounds_toArray, List.set_cons_zero, List.set_cons_succ]
            refine seqS_take 16 (v := undef) rfl (by kernel_rfl) (fun _ _ _ h => h) (Or.inr ⟨by rfl, rfl⟩) ?_
            simp only [Act.put, List.setIfInBounds_toArray, List.set_cons_zero, List.set_cons_succ]
            refine seqS_take 17 (v := undef) rfl (by kernel_rfl) (fun _ _ _ h => h) (Or.inr ⟨by rfl, rfl⟩) ?_
            simp only [Act.put, List.setIfInBounds_toArray, List.set_cons_zero, List.set_cons_succ]
            refine seqS_take 18 (v := undef) rfl (by kernel_rfl) (fun _ _ _ h => h) (Or.inr ⟨by rfl, rfl⟩) ?_
            simp only [Act.put, List.setIfInBounds_toArray, List.set_cons_zero, List.set_cons_succ]
            refine seqS_take 19 (v := ?_) rfl (by kernel_rfl) (fun _ _ _ h => h) (Or.inl ⟨by rfl, fun w' hb => ?_⟩) ?_
            rotate_left
            · have kf := KF w' hb
              go_simp
              with_reducible rfl
            simp only [Act.put, List.setIfInBounds_toArray, List.set_cons_zero, List.set_cons_succ]
            refine seqS_take 20 (v := ?_) rfl (by kernel_rfl) (fun _ _ _ h => h) (Or.inl ⟨by rfl, fun w' hb => ?_⟩) ?_
            rotate_left
            · have kf := KF w' hb
              go_simp
              with_reducible rfl
            simp only [Act.put, List.setIfInBounds_toArray, List.set_cons_zero, List.set_cons_succ]
            refine seqS_take 21 (v := ?_) rfl (by kernel_rfl) (fun _ _ _ h => h) (Or.inl ⟨by rfl, fun w' hb => ?_⟩) ?_
            rotate_left
            · have kf := KF w' hb
              go_simp
              with_reducible rfl
            simp only [Act.put, List.setIfInBounds_toArray, List.set_cons_zero, List.set_cons_succ]
            refine seqS_take 22 (v := ?_) rfl (by kernel_rfl) (fun _ _ _ h => h) (Or.inl ⟨by rfl, fun w' hb => ?_⟩) ?_
            rotate_left
            · have kf := KF w' hb
              go_simp
              with_reducible rfl
            simp only [Act.put, List.setIfInBounds_toArray, List.set_cons_zero, List.set_cons_succ]
            refine seqS_take 23 (v := ?_) rfl (by kernel_rfl) (fun _ _ _ h => h) (Or.inl ⟨by rfl, fun w' hb => ?_⟩) ?_
            rotate_left
            · have kf := KF w' hb
              go_simp
              with_reducible rfl
            simp only [Act.put, List.setIfInBounds_toArray, List.set_cons_zero, List.set_cons_succ]
            refine seqS_take 24 (v := ?_) rfl (by kernel_rfl) (fun _ _ _ h => h) (Or.inl ⟨by rfl, fun w' hb => ?_⟩) ?_
            rotate_left
            · have kf := KF w' hb
              go_simp
              with_reducible rfl
            simp only [Act.put, List.setIfInBounds_toArray, List.set_cons_zero, List.set_cons_succ]
            refine seqS_do 25 rfl (by kernel_rfl) (fun K hK => ?_)
            go_simp
            refine (PH.out _ (hM5.drew.below hg1)).mono ?_
            rintro e u3 ⟨rfl, hg3⟩
            replace hg1 := belT hg1 hg3
            refine hK.out (RowKit.Below w5.drew.heap.size w5.drew) _ _ (fun _ h => h) hg1 ?_
            clear hK K
            simp only [List.set_cons_zero, List.set_cons_succ]
            refine seqS_take 26 (v := ?_) rfl (by kernel_rfl) (fun _ _ _ h => h) (Or.inl ⟨by rfl, fun w' hb => ?_⟩) ?_
            rotate_left
            · have kf := KF w' hb
              go_simp
              with_reducible rfl
            simp only [Act.put, List.setIfInBounds_toArray, List.set_cons_zero, List.set_cons_succ]
            refine seqS_take 27 (v := ?_) rfl (by kernel_rfl) (fun _ _ _ h => h) (Or.inl ⟨by rfl, fun w' hb => ?_⟩) ?_
            rotate_left
            · have kf := KF w' hb
              go_simp
              with_reducible rfl
            simp only [Act.put, List.setIfInBounds_toArray, List.set_cons_zero, List.set_cons_succ]
            refine seqS_end (by kernel_rfl) (fun hEnd => ?_)
            clear KF PA PH hEnd
            have hb5 : RowKit.Below w5.heap.size w5 u3 := (Gr.refl w5).drew.below.trans hg1
            have hz6 : u3.heap[w4.heap.size]? = _ := (hb5.block _ (Array.getElem?_eq_some_iff.1 hz5).1).trans hz5
            have r0 := cell_of_row _ _ 0 _ _ _ hz6
            have r1 := cell_of_row _ _ 1 _ _ _ hz6
            have hS6 : SR u3 LB s := hS5.kept (hb5.block _ hS5.lt)
            have hB6 := hBr5.trans (hb5.mono hBr5.size)
            have hM6 := hM5.below hb5
            have hth := hS6.there k2 (by omega)
            have hS7 := hS6.store k2 (by omega) p
            have hB7 := hB6.trans (below_two u3 LB (k2 * 2) w.heap.size (.int .u64 (p.1 : Int)) (.int .u64 (p.2 : Int)) (by omega))
            have hM7 := hM6.two LB (k2 * 2) (.int .u64 (p.1 : Int)) (.int .u64 (p.2 : Int)) (by omega) (by omega)
            have h7' : (k2 : Int) < 7 := by omega
            clear hz5 hz6 hM6 hS6 hB6 hM5 hS5 hBr5 hb5
            go_wp2_with (refine wpList_store_mid rfl 26 (.tmp 102) (.tmp 101) rfl LB (k2 * 2) #[.int .u64 (p.1 : Int), .int .u64 (p.2 : Int)] rfl rfl hth (by rw [info26]; rfl) (two_one _ _) ?_)
            go_roundw
            case rel => exact ⟨k2 + 1, _, by omega, by omega, by go_num, hB7, hM7, hS7, hstep⟩
            case measure => simp [intOf]; omega
        · have d6 : decide ((k2 : Int) ≤ (l.length : Int)) = false := decide_eq_false (by omega)
          have hInv := hMid.inv (by omega)
          go_wp2_with fail
          go_roundw
          case rel => exact ⟨k + 1, E, s, by omega, by go_num, hBr, hM, by omega, hSR, hInv⟩
          case measure => simp [intOf]; omega
    · go_wp2_with fail
      refine (known8 _).mono ?_
      rintro e w9 ⟨rfl, hb9⟩
      go_wp2_with fail
      go_ret
      exact ⟨rfl, hBr.trans (hb9.mono hBr.size)⟩

end Go.Proofs.Ytbpajfjeakffkaa

/- QuorumMeet: its walk. -/
import Derived.Test.YtbpajfjeakffkaaQO
import Derived.OwnWalk
namespace Go.Proofs.Ytbpajfjeakffkaa
open Go.RowKit Go.Sort Go.Shelf

/-- flags in cells -/
structure Fs (w : World) (a : Option Addr) (l : List Bool) : Prop where
  addr : l ≠ [] → ∃ b o, a = some ⟨b, o, none⟩
  cell : ∀ b o, a = some ⟨b, o, none⟩ → ∀ i (h : i < l.length), w.cell? ⟨b, o + i, none⟩ = some (.bool l[i])
theorem Fs.below {w w' : World} {a : Option Addr} {l : List Bool} (h : Fs w a l) (hb : RowKit.Below w.heap.size w w') : Fs w' a l :=
  ⟨h.addr, fun b o e i hi => Below.cellSome hb (h.cell b o e i hi)⟩
theorem Fs.ex {w : World} {a : Option Addr} {l : List Bool} (h : Fs w a l) {k : Nat} (hk : k < l.length) : ∃ b o, a = some ⟨b, o, none⟩ :=
  h.addr (by intro e; rw [e] at hk; simp at hk)
theorem ps_one (w : World) (x : Pl) : Ps (w.alloc (.cells #[.int .u64 x.1, .int .u64 x.2] 26)) (some ⟨w.heap.size, 0, none⟩) [x] := by
  have hz : (w.alloc (.cells #[.int .u64 x.1, .int .u64 x.2] 26)).heap[w.heap.size]? = some (.cells #[.int .u64 x.1, .int .u64 x.2] 26 (0, 0)) := heap_alloc_new _ _
  refine ⟨fun _ => ⟨_, _, rfl⟩, fun b o e k hk => ?_⟩
  cases e
  have hk1 : k < 1 := hk
  obtain rfl : k = 0 := by omega
  exact ⟨cell_of_row _ _ 0 _ _ _ hz, cell_of_row _ _ 1 _ _ _ hz⟩
theorem b64 (l m : Nat) (h : l ≤ m) : l ≤ m := h

set_option maxRecDepth 10000 in
set_option maxHeartbeats 12800000 in
theorem meet6 (a0 : Option Addr) (c0 : Nat) (l : List Pl) (kk : Int) (p : Pl) (a3 : Option Addr) (c3 : Nat) (f : List Bool) (w : World) (h : Ps w a0 l) (hf : Fs w a3 f) (hk1 : -9223372036854775808 ≤ kk) (hk2 : kk ≤ 9223372036854775807) (hl : l.length ≤ 9223372036854775807) (hfl : f.length ≤ 9223372036854775807) :
    Calls Try.prog 6 #[.slice a0 l.length c0, .int .i64 kk, pv p, .slice a3 f.length c3] w fun e w' => e = .returned (.bool true) ∧ RowKit.Below w.heap.size w w' := by
  go_enter Try.func6, Try.ntmps6
  go_wp2_with fail
  have hB0 : RowKit.Below w.heap.size w (w.alloc (.cells #[.int .u64 p.1, .int .u64 p.2] 26)) := (RowKit.Below.refl _ _).alloc (Nat.le_refl _) _
  have hz0 : (w.alloc (.cells #[.int .u64 p.1, .int .u64 p.2] 26)).heap[w.heap.size]? = some (.cells #[.int .u64 p.1, .int .u64 p.2] 26 (0, 0)) := heap_alloc_new _ _
  refine (known8 _).mono ?_
  rintro e w1 ⟨rfl, hb1⟩
  have hs1 : w.heap.size < w1.heap.size := by have := hb1.size; simp at this; omega
  have hz1 : w1.heap[w.heap.size]? = some (.cells #[.int .u64 p.1, .int .u64 p.2] 26 (0, 0)) := (hb1.block _ (by simp)).trans hz0
  have B1 : RowKit.Below w.heap.size w w1 := hB0.trans (hb1.mono (by simp))
  clear hB0 hz0 hb1
  by_cases hbad : 60 < l.length ∨ kk < 1 ∨ (l.length : Int) < kk
  · by_cases h1 : 60 < l.length
    · have d1 : decide (60 < (l.length : Int)) = true := decide_eq_true (by omega)
      clear hbad
      go_wp2_with fail
      go_ret
      exact ⟨rfl, B1⟩
    · have d1 : decide (60 < (l.length : Int)) = false := decide_eq_false (by omega)
      by_cases h2 : kk < 1
      · have d2 : decide (kk < 1) = true := decide_eq_true h2
        clear hbad
        go_wp2_with fail
        go_ret
        exact ⟨rfl, B1⟩
      · have d2 : decide (kk < 1) = false := decide_eq_false h2
        have d3 : decide ((l.length : Int) < kk) = true := decide_eq_true (by omega)
        clear hbad
        go_wp2_with fail
        go_ret
        exact ⟨rfl, B1⟩
  have hl60 : l.length ≤ 60 := by omega
  have hkk : 1 ≤ kk ∧ kk ≤ l.length := by omega
  have d1 : decide (60 < (l.length : Int)) = false := decide_eq_false (by omega)
  have d2 : decide (kk < 1) = false := decide_eq_false (by omega)
  have d3 : decide ((l.length : Int) < kk) = false := decide_eq_false (by omega)
  clear hbad hk1 hk2 hl
  go_wp2_with fail
  go_loopw [9, 10] (fun v i wr => ∃ (k : Nat) (u : Value), k ≤ l.length ∧ i = .int .i64 k ∧ u = v ∧ OwnP wr w1.heap.size u (pk l f k) ∧ RowKit.Below w1.heap.size w1 wr) (fun _ i _ => l.length - (intOf i).toNat)
  case atStart => exact ⟨0, _, by omega, rfl, rfl, OwnP.nil _ _, RowKit.Below.refl _ _⟩
  case round =>
    obtain ⟨k, v, hk, rfl, rfl, hown, hbr⟩ := hrel
    have hbw : RowKit.Below w.heap.size w wr := B1.trans (hbr.mono B1.size)
    by_cases hlt : k < l.length
    · by_cases hkf : k < f.length
      · obtain ⟨b3, o3, rfl⟩ := hf.ex hkf
        have cf := (hf.below hbw).cell b3 o3 rfl k hkf
        have hgd : f.getD k false = f[k] := by simp [hkf]
        obtain ⟨z, hz⟩ : ∃ z, f[k] = z := ⟨_, rfl⟩
        rw [hz] at cf hgd
        clear hz
        cases z
        · have hpn := Lib.hid (pk_no l f k hgd)
          clear hgd
          go_wp2_with fail
          go_roundw
          case rel => exact ⟨k + 1, _, by omega, by go_num, rfl, by rw [hpn.out]; exact hown, hbr⟩
          case measure => simp [intOf]; omega
        · have hpy := Lib.hid (pk_yes l f k hlt hgd)
          clear hgd
          obtain ⟨b1, o1, rfl⟩ := h.ex hlt
          obtain ⟨c1, c2⟩ := (h.below hbw).cell b1 o1 rfl k hlt
          obtain ⟨x, hx⟩ : ∃ x, l[k] = x := ⟨_, rfl⟩
          rw [hx] at c1 c2 hpy
          clear hx
          have hpl := pk_len l f k hk
          have hbs := hbr.size
          go_wp2_with (at_builtin; go_loud (refine wpList_append_p rfl _ _ rfl w1.heap.size v (pk l f k) rfl (OwnP.below hown ((RowKit.Below.refl _ _).alloc (Nat.le_refl _) _)) (some ⟨wr.heap.size, 0, none⟩) [x] 1 1 rfl rfl (ps_one wr x) (fun e => by cases e) (by simp; omega) (by simp; omega) ?_); intro v2 w2 hown2 hg2)
          go_roundw
          case rel =>
            refine ⟨k + 1, _, by omega, by go_num, rfl, by rw [hpy.out]; exact hown2, ?_⟩
            exact belowP_grown (hbr.trans ((RowKit.Below.refl _ _).alloc hbr.size _)) (by simp; omega) (OwnP.below hown ((RowKit.Below.refl _ _).alloc (Nat.le_refl _) _)) hg2
          case measure => simp [intOf]; omega
      · have hpn := Lib.hid (pk_no l f k (by simp [hkf]))
        go_wp2_with fail
        go_roundw
        case rel => exact ⟨k + 1, _, by omega, by go_num, rfl, by rw [hpn.out]; exact hown, hbr⟩
        case measure => simp [intOf]; omega
    · obtain rfl : k = l.length := by omega
      obtain ⟨ag, cg, rfl, hps, hcc, _, _⟩ := hown.form
      have hsub : (pk l f l.length).Sublist l := by have := pk_sub l f l.length (Nat.le_refl _); rwa [List.take_of_length_le (Nat.le_refl _)] at this
      obtain ⟨sub, hsb⟩ : ∃ sub, pk l f l.length = sub := ⟨_, rfl⟩
      rw [hsb] at hps hcc hsub ⊢
      clear hown hsb hf hlt
      have hn60 := hsub.length_le
      go_wp2_with fail
      refine (choose20 ag cg sub _ hps (by omega)).mono ?_
      rintro e w2 ⟨rfl, hg2⟩
      have B2 := hbw.trans (hg2.below.mono hbw.size)
      have hps2 := hps.below hg2.below
      have hbr0 := hbr
      have hg20 := hg2
      clear hps hcc
      replace hbr := trivial
      replace hg2 := trivial
      clear hbr hg2
      by_cases hfew : (sub.length : Int) < l.length - kk + 1
      · have d4 : decide ((sub.length : Int) < (l.length : Int) - kk + 1) = true := decide_eq_true hfew
        by_cases h0 : sub.length = 0
        · have d5 : decide (0 < (sub.length : Int)) = false := decide_eq_false (by omega)
          rw [bst_nil sub h0]
          go_wp2_with fail
          go_ret
          exact ⟨rfl, B2⟩
        · have d5 : decide (0 < (sub.length : Int)) = true := decide_eq_true (by omega)
          go_wp2_with fail
          go_ret
          exact ⟨rfl, B2⟩
      · have d4 : decide ((sub.length : Int) < (l.length : Int) - kk + 1) = false := decide_eq_false hfew
        obtain ⟨i, hbi, hi, hxi⟩ := bst_at sub (by omega)
        have d5 : decide ((i : Int) < 0) = false := decide_eq_false (by omega)
        have d6 : decide ((sub.length : Int) ≤ (i : Int)) = false := decide_eq_false (by omega)
        obtain ⟨q, hq⟩ := rleast_there hkk.1 hkk.2
        have hlaw := Lib.hid (fun p => meet_law (p := p) hq hsub (by omega) hxi)
        obtain ⟨gs, os, rfl⟩ := hps2.ex hi
        obtain ⟨x, hx⟩ : ∃ x, sub[i] = x := ⟨_, rfl⟩
        have hcx := hps2.cell gs os rfl i hi
        rw [hx] at hlaw hcx
        rw [hbi]
        have PL := Lib.hid (fun w h => least22 kk a0 c0 l (by omega) w h)
        rw [hq] at PL
        clear hq hbi hxi hx
        have PS := Lib.hid (h.below B2)
        go_wp2_with fail
        refine (PL.out _ PS.out).mono ?_
        rintro e w3 ⟨rfl, hb3⟩
        rw [show optV (some q) = .tuple #[pv q, .bool true] from rfl]
        have B3 := B2.trans (hb3.mono B2.size)
        have hcx3 := And.intro (Below.cellSome hb3 hcx.1) (Below.cellSome hb3 hcx.2)
        go_wp2_with fail
        have B4 : RowKit.Below w.heap.size w (w3.alloc (.cells #[.int .u64 (q.1 : Int), .int .u64 (q.2 : Int)] 26)) := B3.trans ((RowKit.Below.refl _ _).alloc B3.size _)
        have hz4 : (w3.alloc (.cells #[.int .u64 (q.1 : Int), .int .u64 (q.2 : Int)] 26)).heap[w3.heap.size]? = some (.cells #[.int .u64 (q.1 : Int), .int .u64 (q.2 : Int)] 26 (0, 0)) := heap_alloc_new _ _
        have hz4p : (w3.alloc (.cells #[.int .u64 (q.1 : Int), .int .u64 (q.2 : Int)] 26)).heap[w.heap.size]? = some (.cells #[.int .u64 p.1, .int .u64 p.2] 26 (0, 0)) := by
          have e2 : w2.heap[w.heap.size]? = _ := ((hbr0.trans (hg20.below.mono hbr0.size)).block _ hs1).trans hz1
          have e3 : w3.heap[w.heap.size]? = _ := (hb3.block _ (Array.getElem?_eq_some_iff.1 e2).1).trans e2
          exact (heap_alloc_old _ _ (Array.getElem?_eq_some_iff.1 e3).1).trans e3
        have hcx4 : ∀ w', RowKit.Below (w3.alloc (.cells #[.int .u64 (q.1 : Int), .int .u64 (q.2 : Int)] 26)).heap.size (w3.alloc (.cells #[.int .u64 (q.1 : Int), .int .u64 (q.2 : Int)] 26)) w' → w'.cell? ⟨gs, os + i * 2, none⟩ = some (.int .u64 (x.1 : Int)) ∧ w'.cell? ⟨gs, os + i * 2 + 1, none⟩ = some (.int .u64 (x.2 : Int)) := fun w' hb => by
          have ha : RowKit.Below w3.heap.size w3 (w3.alloc (.cells #[.int .u64 (q.1 : Int), .int .u64 (q.2 : Int)] 26)) := (RowKit.Below.refl _ _).alloc (Nat.le_refl _) _
          exact ⟨Below.cellSome (belT ha hb) hcx3.1, Below.cellSome (belT ha hb) hcx3.2⟩
        obtain ⟨w4, hw4⟩ : ∃ w4, w4 = (w3.alloc (.cells #[.int .u64 (q.1 : Int), .int .u64 (q.2 : Int)] 26)) := ⟨_, rfl⟩
        rw [← hw4] at B4 hz4 hz4p hcx4 ⊢
        clear hw4 hcx3 B3 hb3 PL
        have KF0 : ∀ w', RowKit.Below w4.heap.size w4 w' → (w'.cell? ⟨w3.heap.size, 0, none⟩ = some (.int .u64 (q.1 : Int)) ∧ w'.cell? ⟨w3.heap.size, 1, none⟩ = some (.int .u64 (q.2 : Int))) ∧ (w'.cell? ⟨w.heap.size, 0, none⟩ = some (.int .u64 (p.1 : Int)) ∧ w'.cell? ⟨w.heap.size, 1, none⟩ = some (.int .u64 (p.2 : Int))) ∧ (w'.cell? ⟨gs, os + i * 2, none⟩ = some (.int .u64 (x.1 : Int)) ∧ w'.cell? ⟨gs, os + i * 2 + 1, none⟩ = some (.int .u64 (x.2 : Int))) ∧ i < sub.length := fun w' hb => by
          have e1 : w'.heap[w3.heap.size]? = _ := (hb.block _ (Array.getElem?_eq_some_iff.1 hz4).1).trans hz4
          have e2 : w'.heap[w.heap.size]? = _ := (hb.block _ (Array.getElem?_eq_some_iff.1 hz4p).1).trans hz4p
          exact ⟨⟨cell_of_row _ _ _ _ _ _ e1, cell_of_row _ _ _ _ _ _ e1⟩, ⟨cell_of_row _ _ _ _ _ _ e2, cell_of_row _ _ _ _ _ _ e2⟩, hcx4 w' hb, hi⟩
        have HKF := Lib.hid KF0
        clear KF0 hz4 hz4p hcx4
        have P17 := Lib.hid (fun w => less25 x q w)
        rw [(hlaw.out p).1] at P17
        have KF : ∀ w', Gr w4.drew w' → (w'.cell? ⟨w3.heap.size, 0, none⟩ = some (.int .u64 (q.1 : Int)) ∧ w'.cell? ⟨w3.heap.size, 1, none⟩ = some (.int .u64 (q.2 : Int))) ∧ (w'.cell? ⟨w.heap.size, 0, none⟩ = some (.int .u64 (p.1 : Int)) ∧ w'.cell? ⟨w.heap.size, 1, none⟩ = some (.int .u64 (p.2 : Int))) ∧ (w'.cell? ⟨gs, os + i * 2, none⟩ = some (.int .u64 (x.1 : Int)) ∧ w'.cell? ⟨gs, os + i * 2 + 1, none⟩ = some (.int .u64 (x.2 : Int))) ∧ i < sub.length := fun w' hg => HKF.out w' ((Gr.refl w4).drew.trans hg).below
        refine seqS_start (Gr w4.drew) 10 [false, false, false, false, false, false, false, false, false, false] (by kernel_rfl) rfl rfl (Gr.refl _) ?_
        refine seqS_take 0 (v := ?_) rfl (by kernel_rfl) (fun _ _ _ h => h) (Or.inl ⟨by rfl, fun w' hb => ?_⟩) ?_
        rotate_left
        · have kf := KF w' hb
          go_simp
          with_reducible rfl
        simp only [Act.put, List.setIfInBounds_toArray, List.set_cons_zero, List.set_cons_succ]
        refine seqS_take 1 (v := ?_) rfl (by kernel_rfl) (fun _ _ _ h => h) (Or.inl ⟨by rfl, fun w' hb => ?_⟩) ?_
        rotate_left
        · have kf := KF w' hb
          go_simp
          with_reducible rfl
        simp only [Act.put, List.setIfInBounds_toArray, List.set_cons_zero, List.set_cons_succ]
        refine seqS_take 2 (v := ?_) rfl (by kernel_rfl) (fun _ _ _ h => h) (Or.inl ⟨by rfl, fun w' hb => ?_⟩) ?_
        rotate_left
        · have kf := KF w' hb
          go_simp
          with_reducible rfl
        simp only [Act.put, List.setIfInBounds_toArray, List.set_cons_zero, List.set_cons_succ]
        refine seqS_take 3 (v := ?_) rfl (by kernel_rfl) (fun _ _ _ h => h) (Or.inl ⟨by rfl, fun w' hb => ?_⟩) ?_
        rotate_left
        · have kf := KF w' hb
          go_simp
          with_reducible rfl
        simp only [Act.put, List.setIfInBounds_toArray, List.set_cons_zero, List.set_cons_succ]
        refine seqS_take 4 (v := ?_) rfl (by kernel_rfl) (fun _ _ _ h => h) (Or.inl ⟨by rfl, fun w' hb => ?_⟩) ?_
        rotate_left
        · have kf := KF w' hb
          go_simp
          with_reducible rfl
        simp only [Act.put, List.setIfInBounds_toArray, List.set_cons_zero, List.set_cons_succ]
        refine seqS_take 5 (v := ?_) rfl (by kernel_rfl) (fun _ _ _ h => h) (Or.inl ⟨by rfl, fun w' hb => ?_⟩) ?_
        rotate_left
        · have kf := KF w' hb
          go_simp
          with_reducible rfl
        simp only [Act.put, List.setIfInBounds_toArray, List.set_cons_zero, List.set_cons_succ]
        refine seqS_take 6 (v := ?_) rfl (by kernel_rfl) (fun _ _ _ h => h) (Or.inl ⟨by rfl, fun w' hb => ?_⟩) ?_
        rotate_left
        · have kf := KF w' hb
          go_simp
          with_reducible rfl
        simp only [Act.put, List.setIfInBounds_toArray, List.set_cons_zero, List.set_cons_succ]
        refine seqS_take 7 (v := ?_) rfl (by kernel_rfl) (fun _ _ _ h => h) (Or.inl ⟨by rfl, fun w' hb => ?_⟩) ?_
        rotate_left
        · have kf := KF w' hb
          go_simp
          with_reducible rfl
        simp only [Act.put, List.setIfInBounds_toArray, List.set_cons_zero, List.set_cons_succ]
        refine seqS_do 8 rfl (by kernel_rfl) (fun K hK => ?_)
        go_simp
        refine (P17.out _).mono ?_
        rintro e u1 ⟨rfl, hg1⟩
        refine hK.out (Gr w4.drew) _ _ (fun _ h => h) hg1 ?_
        clear hK K
        simp only [List.set_cons_zero, List.set_cons_succ]
        refine seqS_take 9 (v := ?_) rfl (by kernel_rfl) (fun _ _ _ h => h) (Or.inl ⟨by rfl, fun w' hb => ?_⟩) ?_
        rotate_left
        · have kf := KF w' hb
          go_simp
          with_reducible rfl
        simp only [Act.put, List.setIfInBounds_toArray, List.set_cons_zero, List.set_cons_succ]
        refine seqS_end (by kernel_rfl) (fun hEnd => ?_)
        have KG := HKF.out
        have G5 : Gr w4 u1 := (Gr.refl w4).drew.trans hg1
        have B5 : RowKit.Below w.heap.size w u1 := B4.trans (G5.below.mono B4.size)
        clear KF hg1 B4 P17
        have PH := Lib.hid (fun w h => have27 a0 c0 l p w h (by omega))
        clear hEnd
        by_cases hhv : (haveN l p : Int) < kk
        · have d7 : decide ((haveN l p : Int) < kk) = true := decide_eq_true hhv
          go_wp2_with fail
          have KF : ∀ w', Gr u1.drew w' → (w'.cell? ⟨w3.heap.size, 0, none⟩ = some (.int .u64 (q.1 : Int)) ∧ w'.cell? ⟨w3.heap.size, 1, none⟩ = some (.int .u64 (q.2 : Int))) ∧ (w'.cell? ⟨w.heap.size, 0, none⟩ = some (.int .u64 (p.1 : Int)) ∧ w'.cell? ⟨w.heap.size, 1, none⟩ = some (.int .u64 (p.2 : Int))) ∧ (w'.cell? ⟨gs, os + i * 2, none⟩ = some (.int .u64 (x.1 : Int)) ∧ w'.cell? ⟨gs, os + i * 2 + 1, none⟩ = some (.int .u64 (x.2 : Int))) ∧ i < sub.length := fun w' hg => KG w' (G5.trans ((Gr.refl u1).drew.trans hg)).below
          refine seqS_start (Gr u1.drew) 21 [false, false, false, false, false, false, false, false, false, false, false, false, false, false, false, false, false, false, false, false, false] (by kernel_rfl) rfl rfl (Gr.refl _) ?_
          refine seqS_take 0 (v := ?_) rfl (by kernel_rfl) (fun _ _ _ h => h) (Or.inl ⟨by rfl, fun w' hb => ?_⟩) ?_
          rotate_left
          · have kf := KF w' hb
            go_simp
            with_reducible rfl
          simp only [Act.put, List.setIfInBounds_toArray, List.set_cons_zero, List.set_cons_succ]
          refine seqS_take 1 (v := ?_) rfl (by kernel_rfl) (fun _ _ _ h => h) (Or.inl ⟨by rfl, fun w' hb => ?_⟩) ?_
          rotate_left
          · have kf := KF w' hb
            go_simp
            with_reducible rfl
          simp only [Act.put, List.setIfInBounds_toArray, List.set_cons_zero, List.set_cons_succ]
          refine seqS_take 3 (v := ?_) rfl (by kernel_rfl) (fun _ _ _ h => h) (Or.inl ⟨by rfl, fun w' hb => ?_⟩) ?_
          rotate_left
          · have kf := KF w' hb
            go_simp
            with_reducible rfl
          simp only [Act.put, List.setIfInBounds_toArray, List.set_cons_zero, List.set_cons_succ]
          refine seqS_do 2 rfl (by kernel_rfl) (fun K hK => ?_)
          go_simp
          refine (PH.out _ (h.below (B5.trans (RowKit.Below.mono (Gr.refl u1).drew.below B5.size)))).mono ?_
          rintro e u2 ⟨rfl, hg2⟩
          refine hK.out (Gr u1.drew) _ _ (fun _ h => h) hg2 ?_
          clear hK K
          simp only [List.set_cons_zero, List.set_cons_succ]
          refine seqS_take 4 (v := ?_) rfl (by kernel_rfl) (fun _ _ _ h => h) (Or.inl ⟨by rfl, fun w' hb => ?_⟩) ?_
          rotate_left
          · have kf := KF w' hb
            go_simp
            with_reducible rfl
          simp only [Act.put, List.setIfInBounds_toArray, List.set_cons_zero, List.set_cons_succ]
          refine seqS_take 5 (v := ?_) rfl (by kernel_rfl) (fun _ _ _ h => h) (Or.inl ⟨by rfl, fun w' hb => ?_⟩) ?_
          rotate_left
          · have kf := KF w' hb
            go_simp
            with_reducible rfl
          simp only [Act.put, List.setIfInBounds_toArray, List.set_cons_zero, List.set_cons_succ]
          refine seqS_take 6 (v := undef) rfl (by kernel_rfl) (fun _ _ _ h => h) (Or.inr ⟨by rfl, rfl⟩) ?_
          simp only [Act.put, List.setIfInBounds_toArray, List.set_cons_zero, List.set_cons_succ]
          refine seqS_take 7 (v := undef) rfl (by kernel_rfl) (fun _ _ _ h => h) (Or.inr ⟨by rfl, rfl⟩) ?_
          simp only [Act.put, List.setIfInBounds_toArray, List.set_cons_zero, List.set_cons_succ]
          refine seqS_take 8 (v := undef) rfl (by kernel_rfl) (fun _ _ _ h => h) (Or.inr ⟨by rfl, rfl⟩) ?_
          simp only [Act.put, List.setIfInBounds_toArray, List.set_cons_zero, List.set_cons_succ]
          refine seqS_take 9 (v := undef) rfl (by kernel_rfl) (fun _ _ _ h => h) (Or.inr ⟨by rfl, rfl⟩) ?_
          simp only [Act.put, List.setIfInBounds_toArray, List.set_cons_zero, List.set_cons_succ]
          refine seqS_take 10 (v := undef) rfl (by kernel_rfl) (fun _ _ _ h => h) (Or.inr ⟨by rfl, rfl⟩) ?_
          simp only [Act.put, List.setIfInBounds_toArray, List.set_cons_zero, List.set_cons_succ]
          refine seqS_take 11 (v := undef) rfl (by kernel_rfl) (fun _ _ _ h => h) (Or.inr ⟨by rfl, rfl⟩) ?_
          simp only [Act.put, List.setIfInBounds_toArray, List.set_cons_zero, List.set_cons_succ]
          refine seqS_take 12 (v := undef) rfl (by kernel_rfl) (fun _ _ _ h => h) (Or.inr ⟨by rfl, rfl⟩) ?_
          simp only [Act.put, List.setIfInBounds_toArray, List.set_cons_zero, List.set_cons_succ]
          refine seqS_take 13 (v := undef) rfl (by kernel_rfl) (fun _ _ _ h => h) (Or.inr ⟨by rfl, rfl⟩) ?_
          simp only [Act.put, List.setIfInBounds_toArray, List.set_cons_zero, List.set_cons_succ]
          refine seqS_take 14 (v := undef) rfl (by kernel_rfl) (fun _ _ _ h => h) (Or.inr ⟨by rfl, rfl⟩) ?_
          simp only [Act.put, List.setIfInBounds_toArray, List.set_cons_zero, List.set_cons_succ]
          refine seqS_take 15 (v := undef) rfl (by kernel_rfl) (fun _ _ _ h => h) (Or.inr ⟨by rfl, rfl⟩) ?_
          simp only [Act.put, List.setIfInBounds_toArray, List.set_cons_zero, List.set_cons_succ]
          refine seqS_take 16 (v := undef) rfl (by kernel_rfl) (fun _ _ _ h => h) (Or.inr ⟨by rfl, rfl⟩) ?_
          simp only [Act.put, List.setIfInBounds_toArray, List.set_cons_zero, List.set_cons_succ]
          refine seqS_take 17 (v := undef) rfl (by kernel_rfl) (fun _ _ _ h => h) (Or.inr ⟨by rfl, rfl⟩) ?_
          simp only [Act.put, List.setIfInBounds_toArray, List.set_cons_zero, List.set_cons_succ]
          refine seqS_take 18 (v := undef) rfl (by kernel_rfl) (fun _ _ _ h => h) (Or.inr ⟨by rfl, rfl⟩) ?_
          simp only [Act.put, List.setIfInBounds_toArray, List.set_cons_zero, List.set_cons_succ]
          refine seqS_take 19 (v := ?_) rfl (by kernel_rfl) (fun _ _ _ h => h) (Or.inl ⟨by rfl, fun w' hb => ?_⟩) ?_
          rotate_left
          · have kf := KF w' hb
            go_simp
            with_reducible rfl
          simp only [Act.put, List.setIfInBounds_toArray, List.set_cons_zero, List.set_cons_succ]
          refine seqS_take 20 (v := ?_) rfl (by kernel_rfl) (fun _ _ _ h => h) (Or.inl ⟨by rfl, fun w' hb => ?_⟩) ?_
          rotate_left
          · have kf := KF w' hb
            go_simp
            with_reducible rfl
          simp only [Act.put, List.setIfInBounds_toArray, List.set_cons_zero, List.set_cons_succ]
          refine seqS_end (by kernel_rfl) (fun hEnd => ?_)
          go_wp2_with fail
          go_ret
          exact ⟨rfl, B5.trans (RowKit.Below.mono ((Gr.refl u1).drew.trans hg2).below B5.size)⟩
        · have d7 : decide ((haveN l p : Int) < kk) = false := decide_eq_false hhv
          obtain ⟨e1, e2⟩ := (hlaw.out p).2 (by omega)
          have P1 := Lib.hid (fun w => less25 q p w)
          have P2 := Lib.hid (fun w => less25 x p w)
          rw [e1] at P1
          rw [e2] at P2
          clear e1 e2
          go_wp2_with fail
          have KF : ∀ w', Gr u1.drew w' → (w'.cell? ⟨w3.heap.size, 0, none⟩ = some (.int .u64 (q.1 : Int)) ∧ w'.cell? ⟨w3.heap.size, 1, none⟩ = some (.int .u64 (q.2 : Int))) ∧ (w'.cell? ⟨w.heap.size, 0, none⟩ = some (.int .u64 (p.1 : Int)) ∧ w'.cell? ⟨w.heap.size, 1, none⟩ = some (.int .u64 (p.2 : Int))) ∧ (w'.cell? ⟨gs, os + i * 2, none⟩ = some (.int .u64 (x.1 : Int)) ∧ w'.cell? ⟨gs, os + i * 2 + 1, none⟩ = some (.int .u64 (x.2 : Int))) ∧ i < sub.length := fun w' hg => KG w' (G5.trans ((Gr.refl u1).drew.trans hg)).below
          refine seqS_start (Gr u1.drew) 21 [false, false, false, false, false, false, false, false, false, false, false, false, false, false, false, false, false, false, false, false, false] (by kernel_rfl) rfl rfl (Gr.refl _) ?_
          refine seqS_take 0 (v := ?_) rfl (by kernel_rfl) (fun _ _ _ h => h) (Or.inl ⟨by rfl, fun w' hb => ?_⟩) ?_
          rotate_left
          · have kf := KF w' hb
            go_simp
            with_reducible rfl
          simp only [Act.put, List.setIfInBounds_toArray, List.set_cons_zero, List.set_cons_succ]
          refine seqS_take 1 (v := ?_) rfl (by kernel_rfl) (fun _ _ _ h => h) (Or.inl ⟨by rfl, fun w' hb => ?_⟩) ?_
          rotate_left
          · have kf := KF w' hb
            go_simp
            with_reducible rfl
          simp only [Act.put, List.setIfInBounds_toArray, List.set_cons_zero, List.set_cons_succ]
          refine seqS_take 3 (v := ?_) rfl (by kernel_rfl) (fun _ _ _ h => h) (Or.inl ⟨by rfl, fun w' hb => ?_⟩) ?_
          rotate_left
          · have kf := KF w' hb
            go_simp
            with_reducible rfl
          simp only [Act.put, List.setIfInBounds_toArray, List.set_cons_zero, List.set_cons_succ]
          refine seqS_do 2 rfl (by kernel_rfl) (fun K hK => ?_)
          go_simp
          refine (PH.out _ (h.below (B5.trans (RowKit.Below.mono (Gr.refl u1).drew.below B5.size)))).mono ?_
          rintro e u2 ⟨rfl, hg2⟩
          refine hK.out (Gr u1.drew) _ _ (fun _ h => h) hg2 ?_
          clear hK K
          simp only [List.set_cons_zero, List.set_cons_succ]
          refine seqS_take 4 (v := ?_) rfl (by kernel_rfl) (fun _ _ _ h => h) (Or.inl ⟨by rfl, fun w' hb => ?_⟩) ?_
          rotate_left
          · have kf := KF w' hb
            go_simp
            with_reducible rfl
          simp only [Act.put, List.setIfInBounds_toArray, List.set_cons_zero, List.set_cons_succ]
          refine seqS_take 5 (v := ?_) rfl (by kernel_rfl) (fun _ _ _ h => h) (Or.inl ⟨by rfl, fun w' hb => ?_⟩) ?_
          rotate_left
          · have kf := KF w' hb
            go_simp
            with_reducible rfl
          simp only [Act.put, List.setIfInBounds_toArray, List.set_cons_zero, List.set_cons_succ]
          refine seqS_take 6 (v := ?_) rfl (by kernel_rfl) (fun _ _ _ h => h) (Or.inl ⟨by rfl, fun w' hb => ?_⟩) ?_
          rotate_left
          · have kf := KF w' hb
            go_simp
            with_reducible rfl
          simp only [Act.put, List.setIfInBounds_toArray, List.set_cons_zero, List.set_cons_succ]
          refine seqS_take 7 (v := ?_) rfl (by kernel_rfl) (fun _ _ _ h => h) (Or.inl ⟨by rfl, fun w' hb => ?_⟩) ?_
          rotate_left
          · have kf := KF w' hb
            go_simp
            with_reducible rfl
          simp only [Act.put, List.setIfInBounds_toArray, List.set_cons_zero, List.set_cons_succ]
          refine seqS_do 8 rfl (by kernel_rfl) (fun K hK => ?_)
          go_simp
          refine (P1.out _).mono ?_
          rintro e u3 ⟨rfl, hg3⟩
          refine hK.out (Gr u1.drew) _ _ (fun _ h => h) (hg2.trans hg3) ?_
          clear hK K
          simp only [List.set_cons_zero, List.set_cons_succ]
          refine seqS_take 9 (v := ?_) rfl (by kernel_rfl) (fun _ _ _ h => h) (Or.inl ⟨by rfl, fun w' hb => ?_⟩) ?_
          rotate_left
          · have kf := KF w' hb
            go_simp
            with_reducible rfl
          simp only [Act.put, List.setIfInBounds_toArray, List.set_cons_zero, List.set_cons_succ]
          refine seqS_take 10 (v := ?_) rfl (by kernel_rfl) (fun _ _ _ h => h) (Or.inl ⟨by rfl, fun w' hb => ?_⟩) ?_
          rotate_left
          · have kf := KF w' hb
            go_simp
            with_reducible rfl
          simp only [Act.put, List.setIfInBounds_toArray, List.set_cons_zero, List.set_cons_succ]
          refine seqS_take 11 (v := ?_) rfl (by kernel_rfl) (fun _ _ _ h => h) (Or.inl ⟨by rfl, fun w' hb => ?_⟩) ?_
          rotate_left
          · have kf := KF w' hb
            go_simp
            with_reducible rfl
          simp only [Act.put, List.setIfInBounds_toArray, List.set_cons_zero, List.set_cons_succ]
          refine seqS_take 12 (v := ?_) rfl (by kernel_rfl) (fun _ _ _ h => h) (Or.inl ⟨by rfl, fun w' hb => ?_⟩) ?_
          rotate_left
          · have kf := KF w' hb
            go_simp
            with_reducible rfl
          simp only [Act.put, List.setIfInBounds_toArray, List.set_cons_zero, List.set_cons_succ]
          refine seqS_take 13 (v := ?_) rfl (by kernel_rfl) (fun _ _ _ h => h) (Or.inl ⟨by rfl, fun w' hb => ?_⟩) ?_
          rotate_left
          · have kf := KF w' hb
            go_simp
            with_reducible rfl
          simp only [Act.put, List.setIfInBounds_toArray, List.set_cons_zero, List.set_cons_succ]
          refine seqS_take 14 (v := ?_) rfl (by kernel_rfl) (fun _ _ _ h => h) (Or.inl ⟨by rfl, fun w' hb => ?_⟩) ?_
          rotate_left
          · have kf := KF w' hb
            go_simp
            with_reducible rfl
          simp only [Act.put, List.setIfInBounds_toArray, List.set_cons_zero, List.set_cons_succ]
          refine seqS_take 15 (v := ?_) rfl (by kernel_rfl) (fun _ _ _ h => h) (Or.inl ⟨by rfl, fun w' hb => ?_⟩) ?_
          rotate_left
          · have kf := KF w' hb
            go_simp
            with_reducible rfl
          simp only [Act.put, List.setIfInBounds_toArray, List.set_cons_zero, List.set_cons_succ]
          refine seqS_do 16 rfl (by kernel_rfl) (fun K hK => ?_)
          go_simp
          refine (P2.out _).mono ?_
          rintro e u4 ⟨rfl, hg4⟩
          refine hK.out (Gr u1.drew) _ _ (fun _ h => h) ((hg2.trans hg3).trans hg4) ?_
          clear hK K
          simp only [List.set_cons_zero, List.set_cons_succ]
          refine seqS_take 17 (v := ?_) rfl (by kernel_rfl) (fun _ _ _ h => h) (Or.inl ⟨by rfl, fun w' hb => ?_⟩) ?_
          rotate_left
          · have kf := KF w' hb
            go_simp
            with_reducible rfl
          simp only [Act.put, List.setIfInBounds_toArray, List.set_cons_zero, List.set_cons_succ]
          refine seqS_take 18 (v := ?_) rfl (by kernel_rfl) (fun _ _ _ h => h) (Or.inl ⟨by rfl, fun w' hb => ?_⟩) ?_
          rotate_left
          · have kf := KF w' hb
            go_simp
            with_reducible rfl
          simp only [Act.put, List.setIfInBounds_toArray, List.set_cons_zero, List.set_cons_succ]
          refine seqS_take 19 (v := ?_) rfl (by kernel_rfl) (fun _ _ _ h => h) (Or.inl ⟨by rfl, fun w' hb => ?_⟩) ?_
          rotate_left
          · have kf := KF w' hb
            go_simp
            with_reducible rfl
          simp only [Act.put, List.setIfInBounds_toArray, List.set_cons_zero, List.set_cons_succ]
          refine seqS_take 20 (v := ?_) rfl (by kernel_rfl) (fun _ _ _ h => h) (Or.inl ⟨by rfl, fun w' hb => ?_⟩) ?_
          rotate_left
          · have kf := KF w' hb
            go_simp
            with_reducible rfl
          simp only [Act.put, List.setIfInBounds_toArray, List.set_cons_zero, List.set_cons_succ]
          refine seqS_end (by kernel_rfl) (fun hEnd => ?_)
          go_wp2_with fail
          go_ret
          exact ⟨rfl, B5.trans (RowKit.Below.mono ((Gr.refl u1).drew.trans ((hg2.trans hg3).trans hg4)).below B5.size)⟩

end Go.Proofs.Ytbpajfjeakffkaa

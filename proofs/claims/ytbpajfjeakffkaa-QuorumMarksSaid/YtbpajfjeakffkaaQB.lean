/- Slices of places: the reference's Upto, Have, Choose, Least. -/
import Derived.Test.YtbpajfjeakffkaaQA
namespace Go.Proofs.Ytbpajfjeakffkaa
open Go.RowKit Go.Sort

theorem belT {w a b : World} (h : Below w.heap.size w a) (k : Below a.heap.size a b) : Below w.heap.size w b := h.trans (k.mono h.size)
theorem Below.cellSome {w w' : World} (h : Below w.heap.size w w') {p : Addr} {v : Value} (hp : w.cell? p = some v) : w'.cell? p = some v :=
  (h.cell (block_lt_of_cell hp)).trans hp
structure Ps (w : World) (a : Option Addr) (l : List Pl) : Prop where
  addr : l ≠ [] → ∃ b o, a = some ⟨b, o, none⟩
  cell : ∀ b o, a = some ⟨b, o, none⟩ → ∀ i (h : i < l.length), w.cell? ⟨b, o + i * 2, none⟩ = some (.int .u64 (l[i].1 : Int)) ∧ w.cell? ⟨b, o + i * 2 + 1, none⟩ = some (.int .u64 (l[i].2 : Int))
theorem Ps.below {w w' : World} {a : Option Addr} {l : List Pl} (h : Ps w a l) (hb : Below w.heap.size w w') : Ps w' a l :=
  ⟨h.addr, fun b o e i hi => ⟨Below.cellSome hb (h.cell b o e i hi).1, Below.cellSome hb (h.cell b o e i hi).2⟩⟩
theorem Ps.ex {w : World} {a : Option Addr} {l : List Pl} (h : Ps w a l) {k : Nat} (hk : k < l.length) : ∃ b o, a = some ⟨b, o, none⟩ :=
  h.addr (by intro e; rw [e] at hk; simp at hk)
theorem Ps.nil (w : World) : Ps w none [] := ⟨fun h => absurd rfl h, fun b o e => by cases e⟩
theorem take_snoc {α : Type} (l : List α) (k : Nat) (h : k < l.length) : l.take (k + 1) = l.take k ++ [l[k]] := by
  rw [List.take_succ_eq_append_getElem h]
def uptoP (p q : Pl) : Bool := !lessP q p
theorem upto_form (p q : Pl) : uptoP p q = (decide (p.1 < q.1) || (decide (p.1 = q.1) && decide (p.2 ≤ q.2))) := by
  unfold uptoP lessP
  by_cases h1 : p.1 < q.1
  · have : ¬ q.1 < p.1 := by omega
    have h2 : ¬ q.1 = p.1 := by omega
    simp [h1, this, h2]
  · by_cases h2 : p.1 = q.1
    · simp [h2]
      by_cases h3 : p.2 ≤ q.2
      · have : ¬ q.2 < p.2 := by omega
        simp [h3]
      · have : q.2 < p.2 := by omega
        simp [h3, this]
    · have : q.1 < p.1 := by omega
      simp [h1, h2, this]
theorem upto26 (p q : Pl) (w : World) : Calls Try.prog 26 #[pv p, pv q] w fun e w' => e = .returned (.bool (uptoP p q)) ∧ Gr w w' := by
  rw [upto_form]
  by_cases h1 : p.1 < q.1
  · have e : (decide (p.1 < q.1) || (decide (p.1 = q.1) && decide (p.2 ≤ q.2))) = true := by simp [h1]
    rw [e]
    clear e
    go_enter Try.func26, Try.ntmps26
    go_wp2
    go_ret
    exact ⟨rfl, ((Gr.refl _).alloc _).alloc _⟩
  · by_cases h2 : p.1 = q.1
    · have e : (decide (p.1 < q.1) || (decide (p.1 = q.1) && decide (p.2 ≤ q.2))) = decide (p.2 ≤ q.2) := by simp [h2]
      have he : ((p.1 : Int) == (q.1 : Int)) = true := by simp [h2]
      rw [e]
      have H2 := Lib.hid h2
      clear e h2
      by_cases h3 : p.2 ≤ q.2
      · rw [decide_eq_true h3]
        go_enter Try.func26, Try.ntmps26
        go_wp2
        go_ret
        exact ⟨rfl, ((Gr.refl _).alloc _).alloc _⟩
      · rw [decide_eq_false h3]
        go_enter Try.func26, Try.ntmps26
        go_wp2
        go_ret
        exact ⟨rfl, ((Gr.refl _).alloc _).alloc _⟩
    · have e : (decide (p.1 < q.1) || (decide (p.1 = q.1) && decide (p.2 ≤ q.2))) = false := by simp [h1, h2]
      have he : ((p.1 : Int) == (q.1 : Int)) = false := by simp; omega
      rw [e]
      clear e
      go_enter Try.func26, Try.ntmps26
      go_wp2
      go_ret
      exact ⟨rfl, ((Gr.refl _).alloc _).alloc _⟩
def haveN (l : List Pl) (p : Pl) : Nat := (l.filter (uptoP p)).length
theorem haveN_snoc (l : List Pl) (p x : Pl) : haveN (l ++ [x]) p = haveN l p + if uptoP p x then 1 else 0 := by
  unfold haveN
  rw [List.filter_append, List.length_append]
  by_cases h : uptoP p x <;> simp [h]
theorem haveN_le (l : List Pl) (p : Pl) : haveN l p ≤ l.length := List.length_filter_le _ _

set_option maxHeartbeats 1600000 in
theorem have27 (a : Option Addr) (c : Nat) (l : List Pl) (p : Pl) (w : World) (h : Ps w a l) (hl : l.length ≤ 9223372036854775807) :
    Calls Try.prog 27 #[.slice a l.length c, pv p] w fun e w' => e = .returned (.int .i64 (haveN l p : Int)) ∧ Gr w w' := by
  go_enter Try.func27, Try.ntmps27
  go_wp2_with fail
  have hB : (w.alloc (.cells #[.int .u64 p.1, .int .u64 p.2] 26)).heap[w.heap.size]? = some (.cells #[.int .u64 p.1, .int .u64 p.2] 26 (0, 0)) := heap_alloc_new _ _
  have hP := h.below ((Gr.refl w).alloc (.cells #[.int .u64 p.1, .int .u64 p.2] 26)).below
  have hG : Gr w (w.alloc (.cells #[.int .u64 p.1, .int .u64 p.2] 26)) := (Gr.refl _).alloc _
  obtain ⟨W, hW⟩ : ∃ W, w.alloc (.cells #[.int .u64 p.1, .int .u64 p.2] 26) = W := ⟨_, rfl⟩
  rw [hW] at hB hP hG ⊢
  clear hW h
  have hsz : w.heap.size < W.heap.size := (Array.getElem?_eq_some_iff.1 hB).1
  go_loopw [5, 6] (fun n i wr => ∃ k : Nat, k ≤ l.length ∧ i = .int .i64 k ∧ n = .int .i64 (haveN (l.take k) p : Int) ∧ Gr W wr) (fun _ i _ => l.length - (intOf i).toNat)
  case atStart => exact ⟨0, by omega, rfl, rfl, Gr.refl _⟩
  case round =>
    obtain ⟨k, hk, rfl, rfl, hg⟩ := hrel
    have hn := haveN_le (l.take k) p
    have hn2 : (l.take k).length ≤ k := List.length_take_le _ _
    by_cases hlt : k < l.length
    · have hsn := Lib.hid (take_snoc l k hlt)
      obtain ⟨b1, o1, rfl⟩ := hP.ex hlt
      obtain ⟨c1, c2⟩ := (hP.below hg.below).cell b1 o1 rfl k hlt
      obtain ⟨x, hx⟩ : ∃ x, l[k] = x := ⟨_, rfl⟩
      rw [hx] at c1 c2 hsn
      clear hx
      have hbx : wr.heap[w.heap.size]? = _ := (hg.below.block _ hsz).trans hB
      obtain ⟨m, hm⟩ : ∃ m, haveN (l.take k) p = m := ⟨_, rfl⟩
      rw [hm] at hn ⊢
      have HS : Hid (haveN (l.take (k + 1)) p = m + if uptoP p x then 1 else 0) := by show _ = _; rw [hsn.out, haveN_snoc, hm]
      clear hm
      have P := Lib.hid (fun w => upto26 p x w)
      go_wp2_with fail
      have KF : ∀ w', Gr wr.drew w' → (w'.cell? ⟨b1, o1 + k * 2, none⟩ = some (.int .u64 (x.1 : Int)) ∧ w'.cell? ⟨b1, o1 + k * 2 + 1, none⟩ = some (.int .u64 (x.2 : Int))) ∧ w'.cell? ⟨w.heap.size, 0, none⟩ = some (.int .u64 (p.1 : Int)) ∧ w'.cell? ⟨w.heap.size, 1, none⟩ = some (.int .u64 (p.2 : Int)) := fun w' h => by
        have hb := h.below
        have e1 : w'.heap[w.heap.size]? = _ := (hb.block _ (by show _ < wr.heap.size; exact (Array.getElem?_eq_some_iff.1 hbx).1)).trans hbx
        exact ⟨⟨Below.cellSome hb c1, Below.cellSome hb c2⟩, cell_of_row _ _ _ _ _ _ e1, cell_of_row _ _ _ _ _ _ e1⟩
      refine seqS_start (Gr wr.drew) 6 [false, false, false, false, false, false] (by kernel_rfl) rfl rfl (Gr.refl _) ?_
      refine seqS_take 0 (v := ?_) rfl (by kernel_rfl) (fun _ _ _ h => h) (Or.inl ⟨by rfl, fun w' hb => ?_⟩) ?_
      rotate_left
      · have kf := KF w' hb
        go_simp
        with_reducible rfl
      simp only [Act.put, List.setIfInBounds_toArray, List.set_cons_zero, List.set_cons_succ]
      refine seqS_take 1 (v := ?_) rfl (by kernel_rfl) (fun _ _ _ h => h) (Or.inl ⟨by rfl, fun w' hb => ?_⟩) ?_
      rotate_left
      · have kf := KF w' hb
        go_simp
        with_reducible rfl
      simp only [Act.put, List.setIfInBounds_toArray, List.set_cons_zero, List.set_cons_succ]
      refine seqS_take 2 (v := ?_) rfl (by kernel_rfl) (fun _ _ _ h => h) (Or.inl ⟨by rfl, fun w' hb => ?_⟩) ?_
      rotate_left
      · have kf := KF w' hb
        go_simp
        with_reducible rfl
      simp only [Act.put, List.setIfInBounds_toArray, List.set_cons_zero, List.set_cons_succ]
      refine seqS_take 3 (v := ?_) rfl (by kernel_rfl) (fun _ _ _ h => h) (Or.inl ⟨by rfl, fun w' hb => ?_⟩) ?_
      rotate_left
      · have kf := KF w' hb
        go_simp
        with_reducible rfl
      simp only [Act.put, List.setIfInBounds_toArray, List.set_cons_zero, List.set_cons_succ]
      refine seqS_take 4 (v := ?_) rfl (by kernel_rfl) (fun _ _ _ h => h) (Or.inl ⟨by rfl, fun w' hb => ?_⟩) ?_
      rotate_left
      · have kf := KF w' hb
        go_simp
        with_reducible rfl
      simp only [Act.put, List.setIfInBounds_toArray, List.set_cons_zero, List.set_cons_succ]
      refine seqS_do 5 rfl (by kernel_rfl) (fun K hK => ?_)
      go_simp
      refine (P.out _).mono ?_
      rintro e w1 ⟨rfl, hg1⟩
      refine hK.out (Gr wr.drew) _ _ (fun _ h => h) hg1 ?_
      clear hK K
      simp only [List.set_cons_zero, List.set_cons_succ]
      refine seqS_end (by kernel_rfl) (fun hEnd => ?_)
      cases hu : uptoP p x
      · rw [hu] at HS
        clear hu
        go_wp2_with fail
        go_roundw
        case rel => exact ⟨k + 1, by omega, by go_num, by rw [HS.out]; simp, hg.trans (((Gr.refl _).drew).trans hg1)⟩
        case measure => simp [intOf]; omega
      · rw [hu] at HS
        clear hu
        go_wp2_with fail
        go_roundw
        case rel => exact ⟨k + 1, by omega, by go_num, by rw [HS.out]; simp, hg.trans (((Gr.refl _).drew).trans hg1)⟩
        case measure => simp [intOf]; omega
    · go_wp2_with fail
      go_ret
      exact ⟨by rw [List.take_of_length_le (by omega)]; rfl, hG.trans hg⟩

def greatB (l : List Pl) (x : Pl) : Bool := l.all fun q => uptoP q x
theorem all_snoc (l : List Pl) (f : Pl → Bool) (x : Pl) : (l ++ [x]).all f = (l.all f && f x) := by simp
def rchoose (l : List Pl) : Int := match l.findIdx? (greatB l) with | some i => (i : Int) | none => -1
theorem rchoose_some (l : List Pl) (i : Nat) (h : i < l.length) (h1 : greatB l l[i] = true) (h2 : ∀ j (hj : j < i), greatB l (l[j]'(by omega)) = false) : rchoose l = (i : Int) := by
  unfold rchoose
  have : l.findIdx? (greatB l) = some i := List.findIdx?_eq_some_iff_getElem.2 ⟨h, h1, fun j hj => by rw [h2 j hj]; simp⟩
  rw [this]
theorem rchoose_none (l : List Pl) (h2 : ∀ j (hj : j < l.length), greatB l l[j] = false) : rchoose l = -1 := by
  unfold rchoose
  have : l.findIdx? (greatB l) = none := List.findIdx?_eq_none_iff.2 fun x hx => by
    obtain ⟨j, hj, rfl⟩ := List.getElem_of_mem hx
    exact h2 j hj
  rw [this]

set_option maxHeartbeats 3200000 in
theorem rchoose24 (a : Option Addr) (c : Nat) (l : List Pl) (w : World) (h : Ps w a l) (hl : l.length ≤ 9223372036854775807) :
    Calls Try.prog 24 #[.slice a l.length c] w fun e w' => e = .returned (.int .i64 (rchoose l)) ∧ Gr w w' := by
  go_enter Try.func24, Try.ntmps24
  go_wp2_with fail
  go_loopw [3] (fun i wr => ∃ k : Nat, k ≤ l.length ∧ i = .int .i64 k ∧ Hid (∀ j (hj : j < k), ∀ h : j < l.length, greatB l l[j] = false) ∧ Gr w wr) (fun i _ => l.length - (intOf i).toNat)
  case atStart => exact ⟨0, by omega, rfl, fun j hj => by omega, Gr.refl _⟩
  case round =>
    obtain ⟨i, hi, rfl, HF, hg⟩ := hrel
    by_cases hlt : i < l.length
    · obtain ⟨b1, o1, rfl⟩ := h.ex hlt
      have hXI := (h.below hg.below).cell b1 o1 rfl i hlt
      obtain ⟨x, hx⟩ : ∃ x, l[i] = x := ⟨_, rfl⟩
      rw [hx] at hXI
      have HX := Lib.hid hx
      clear hx
      go_wp2_with fail
      obtain ⟨wo, rfl⟩ : ∃ wo, wo = wr := ⟨_, rfl⟩
      go_loopw [4, 5] (fun g i2 wr => ∃ k : Nat, k ≤ l.length ∧ i2 = .int .i64 k ∧ (∃ z, g = .bool z ∧ Hid (z = (l.take k).all fun q => uptoP q x)) ∧ Gr wo wr) (fun _ i2 _ => l.length - (intOf i2).toNat)
      case atStart => exact ⟨0, by omega, rfl, ⟨true, rfl, by simp [Hid]⟩, Gr.refl _⟩
      case round =>
        obtain ⟨k, hk, rfl, ⟨z, rfl, hz⟩, hg2⟩ := hrel
        by_cases hlt2 : k < l.length
        · have hsn := Lib.hid (take_snoc l k hlt2)
          obtain ⟨c1, c2⟩ := (h.below (hg.trans hg2).below).cell b1 o1 rfl k hlt2
          obtain ⟨y, hy⟩ : ∃ y, l[k] = y := ⟨_, rfl⟩
          rw [hy] at c1 c2 hsn
          clear hy
          have HS : Hid (((l.take (k + 1)).all fun q => uptoP q x) = (z && uptoP y x)) := by show _ = _; rw [hsn.out, all_snoc, hz.out]
          have P := Lib.hid (fun w => upto26 y x w)
          have KF0 : ∀ w', Gr wr.drew w' → (w'.cell? ⟨b1, o1 + k * 2, none⟩ = some (.int .u64 (y.1 : Int)) ∧ w'.cell? ⟨b1, o1 + k * 2 + 1, none⟩ = some (.int .u64 (y.2 : Int))) ∧ (w'.cell? ⟨b1, o1 + i * 2, none⟩ = some (.int .u64 (x.1 : Int)) ∧ w'.cell? ⟨b1, o1 + i * 2 + 1, none⟩ = some (.int .u64 (x.2 : Int))) := fun w' h => by
            have hb := h.below
            have hb2 := (hg2.trans ((Gr.refl _).drew.trans h)).below
            exact ⟨⟨Below.cellSome hb c1, Below.cellSome hb c2⟩, Below.cellSome hb2 hXI.1, Below.cellSome hb2 hXI.2⟩
          have HKF := Lib.hid KF0
          clear KF0
          cases z
          · go_wp2_with fail
            have KF := HKF.out
            refine seqS_start (Gr wr.drew) 13 [false, false, false, false, false, false, false, false, false, false, false, false, false] (by kernel_rfl) rfl rfl (Gr.refl _) ?_
            refine seqS_take 0 (v := ?_) rfl (by kernel_rfl) (fun _ _ _ h => h) (Or.inl ⟨by rfl, fun w' hb => ?_⟩) ?_
            rotate_left
            · have kf := KF w' hb
              go_simp
              with_reducible rfl
            simp only [Act.put, List.setIfInBounds_toArray, List.set_cons_zero, List.set_cons_succ]
            refine seqS_take 1 (v := ?_) rfl (by kernel_rfl) (fun _ _ _ h => h) (Or.inl ⟨by rfl, fun w' hb => ?_⟩) ?_
            rotate_left
            · have kf := KF w' hb
              go_simp
              with_reducible rfl
            simp only [Act.put, List.setIfInBounds_toArray, List.set_cons_zero, List.set_cons_succ]
            refine seqS_take 2 (v := undef) rfl (by kernel_rfl) (fun _ _ _ h => h) (Or.inr ⟨by rfl, rfl⟩) ?_
            simp only [Act.put, List.setIfInBounds_toArray, List.set_cons_zero, List.set_cons_succ]
            refine seqS_take 3 (v := undef) rfl (by kernel_rfl) (fun _ _ _ h => h) (Or.inr ⟨by rfl, rfl⟩) ?_
            simp only [Act.put, List.setIfInBounds_toArray, List.set_cons_zero, List.set_cons_succ]
            refine seqS_take 4 (v := undef) rfl (by kernel_rfl) (fun _ _ _ h => h) (Or.inr ⟨by rfl, rfl⟩) ?_
            simp only [Act.put, List.setIfInBounds_toArray, List.set_cons_zero, List.set_cons_succ]
            refine seqS_take 5 (v := undef) rfl (by kernel_rfl) (fun _ _ _ h => h) (Or.inr ⟨by rfl, rfl⟩) ?_
            simp only [Act.put, List.setIfInBounds_toArray, List.set_cons_zero, List.set_cons_succ]
            refine seqS_take 6 (v := undef) rfl (by kernel_rfl) (fun _ _ _ h => h) (Or.inr ⟨by rfl, rfl⟩) ?_
            simp only [Act.put, List.setIfInBounds_toArray, List.set_cons_zero, List.set_cons_succ]
            refine seqS_take 7 (v := undef) rfl (by kernel_rfl) (fun _ _ _ h => h) (Or.inr ⟨by rfl, rfl⟩) ?_
            simp only [Act.put, List.setIfInBounds_toArray, List.set_cons_zero, List.set_cons_succ]
            refine seqS_take 8 (v := undef) rfl (by kernel_rfl) (fun _ _ _ h => h) (Or.inr ⟨by rfl, rfl⟩) ?_
            simp only [Act.put, List.setIfInBounds_toArray, List.set_cons_zero, List.set_cons_succ]
            refine seqS_take 9 (v := undef) rfl (by kernel_rfl) (fun _ _ _ h => h) (Or.inr ⟨by rfl, rfl⟩) ?_
            simp only [Act.put, List.setIfInBounds_toArray, List.set_cons_zero, List.set_cons_succ]
            refine seqS_take 10 (v := undef) rfl (by kernel_rfl) (fun _ _ _ h => h) (Or.inr ⟨by rfl, rfl⟩) ?_
            simp only [Act.put, List.setIfInBounds_toArray, List.set_cons_zero, List.set_cons_succ]
            refine seqS_take 11 (v := ?_) rfl (by kernel_rfl) (fun _ _ _ h => h) (Or.inl ⟨by rfl, fun w' hb => ?_⟩) ?_
            rotate_left
            · have kf := KF w' hb
              go_simp
              with_reducible rfl
            simp only [Act.put, List.setIfInBounds_toArray, List.set_cons_zero, List.set_cons_succ]
            refine seqS_take 12 (v := ?_) rfl (by kernel_rfl) (fun _ _ _ h => h) (Or.inl ⟨by rfl, fun w' hb => ?_⟩) ?_
            rotate_left
            · have kf := KF w' hb
              go_simp
              with_reducible rfl
            simp only [Act.put, List.setIfInBounds_toArray, List.set_cons_zero, List.set_cons_succ]
            refine seqS_end (by kernel_rfl) (fun hEnd => ?_)

            go_wp2_with fail
            go_roundw
            case rel => exact ⟨k + 1, by omega, by go_num, ⟨false, rfl, by rw [Hid, HS.out]; rfl⟩, hg2.trans (Gr.refl _).drew⟩
            case measure => simp [intOf]; omega
          · go_wp2_with fail
            have KF := HKF.out
            refine seqS_start (Gr wr.drew) 13 [false, false, false, false, false, false, false, false, false, false, false, false, false] (by kernel_rfl) rfl rfl (Gr.refl _) ?_
            refine seqS_take 0 (v := ?_) rfl (by kernel_rfl) (fun _ _ _ h => h) (Or.inl ⟨by rfl, fun w' hb => ?_⟩) ?_
            rotate_left
            · have kf := KF w' hb
              go_simp
              with_reducible rfl
            simp only [Act.put, List.setIfInBounds_toArray, List.set_cons_zero, List.set_cons_succ]
            refine seqS_take 1 (v := ?_) rfl (by kernel_rfl) (fun _ _ _ h => h) (Or.inl ⟨by rfl, fun w' hb => ?_⟩) ?_
            rotate_left
            · have kf := KF w' hb
              go_simp
              with_reducible rfl
            simp only [Act.put, List.setIfInBounds_toArray, List.set_cons_zero, List.set_cons_succ]
            refine seqS_take 2 (v := ?_) rfl (by kernel_rfl) (fun _ _ _ h => h) (Or.inl ⟨by rfl, fun w' hb => ?_⟩) ?_
            rotate_left
            · have kf := KF w' hb
              go_simp
              with_reducible rfl
            simp only [Act.put, List.setIfInBounds_toArray, List.set_cons_zero, List.set_cons_succ]
            refine seqS_take 3 (v := ?_) rfl (by kernel_rfl) (fun _ _ _ h => h) (Or.inl ⟨by rfl, fun w' hb => ?_⟩) ?_
            rotate_left
            · have kf := KF w' hb
              go_simp
              with_reducible rfl
            simp only [Act.put, List.setIfInBounds_toArray, List.set_cons_zero, List.set_cons_succ]
            refine seqS_take 4 (v := ?_) rfl (by kernel_rfl) (fun _ _ _ h => h) (Or.inl ⟨by rfl, fun w' hb => ?_⟩) ?_
            rotate_left
            · have kf := KF w' hb
              go_simp
              with_reducible rfl
            simp only [Act.put, List.setIfInBounds_toArray, List.set_cons_zero, List.set_cons_succ]
            refine seqS_take 5 (v := ?_) rfl (by kernel_rfl) (fun _ _ _ h => h) (Or.inl ⟨by rfl, fun w' hb => ?_⟩) ?_
            rotate_left
            · have kf := KF w' hb
              go_simp
              with_reducible rfl
            simp only [Act.put, List.setIfInBounds_toArray, List.set_cons_zero, List.set_cons_succ]
            refine seqS_take 6 (v := ?_) rfl (by kernel_rfl) (fun _ _ _ h => h) (Or.inl ⟨by rfl, fun w' hb => ?_⟩) ?_
            rotate_left
            · have kf := KF w' hb
              go_simp
              with_reducible rfl
            simp only [Act.put, List.setIfInBounds_toArray, List.set_cons_zero, List.set_cons_succ]
            refine seqS_take 7 (v := ?_) rfl (by kernel_rfl) (fun _ _ _ h => h) (Or.inl ⟨by rfl, fun w' hb => ?_⟩) ?_
            rotate_left
            · have kf := KF w' hb
              go_simp
              with_reducible rfl
            simp only [Act.put, List.setIfInBounds_toArray, List.set_cons_zero, List.set_cons_succ]
            refine seqS_take 8 (v := ?_) rfl (by kernel_rfl) (fun _ _ _ h => h) (Or.inl ⟨by rfl, fun w' hb => ?_⟩) ?_
            rotate_left
            · have kf := KF w' hb
              go_simp
              with_reducible rfl
            simp only [Act.put, List.setIfInBounds_toArray, List.set_cons_zero, List.set_cons_succ]
            refine seqS_take 9 (v := ?_) rfl (by kernel_rfl) (fun _ _ _ h => h) (Or.inl ⟨by rfl, fun w' hb => ?_⟩) ?_
            rotate_left
            · have kf := KF w' hb
              go_simp
              with_reducible rfl
            simp only [Act.put, List.setIfInBounds_toArray, List.set_cons_zero, List.set_cons_succ]
            refine seqS_do 10 rfl (by kernel_rfl) (fun K hK => ?_)
            go_simp
            refine (P.out _).mono ?_
            rintro e w1 ⟨rfl, hg1⟩
            refine hK.out (Gr wr.drew) _ _ (fun _ h => h) hg1 ?_
            clear hK K
            simp only [List.set_cons_zero, List.set_cons_succ]
            refine seqS_take 11 (v := ?_) rfl (by kernel_rfl) (fun _ _ _ h => h) (Or.inl ⟨by rfl, fun w' hb => ?_⟩) ?_
            rotate_left
            · have kf := KF w' hb
              go_simp
              with_reducible rfl
            simp only [Act.put, List.setIfInBounds_toArray, List.set_cons_zero, List.set_cons_succ]
            refine seqS_take 12 (v := ?_) rfl (by kernel_rfl) (fun _ _ _ h => h) (Or.inl ⟨by rfl, fun w' hb => ?_⟩) ?_
            rotate_left
            · have kf := KF w' hb
              go_simp
              with_reducible rfl
            simp only [Act.put, List.setIfInBounds_toArray, List.set_cons_zero, List.set_cons_succ]
            refine seqS_end (by kernel_rfl) (fun hEnd => ?_)

            go_wp2_with fail
            go_roundw
            case rel => exact ⟨k + 1, by omega, by go_num, ⟨_, rfl, by rw [Hid, HS.out]; rfl⟩, hg2.trans ((Gr.refl _).drew.trans hg1)⟩
            case measure => simp [intOf]; omega
        · have HZ : Hid (z = greatB l x) := by rw [Hid, hz.out, List.take_of_length_le (by omega)]; rfl
          clear hz
          cases z
          · go_wp2_with fail
            go_roundw
            case rel =>
              refine ⟨i + 1, by omega, by go_num, fun j hj hjl => ?_, hg.trans hg2⟩
              by_cases hji : j = i
              · subst hji; rw [HX.out]; exact HZ.out.symm
              · exact HF.out j (by omega) hjl
            case measure => simp [intOf]; omega
          · go_wp2_with fail
            go_ret
            exact ⟨by rw [rchoose_some l i hlt (by rw [HX.out]; exact HZ.out.symm) (fun j hj => HF.out j hj (by omega))]; rfl, hg.trans hg2⟩
    · go_wp2_with fail
      go_ret
      exact ⟨by rw [rchoose_none l (fun j hj => HF.out j (by omega) hj)]; rfl, hg⟩

def bestAt (l : List Pl) : Nat → Int
  | 0 => -1
  | k + 1 => if bestAt l k < 0 ∨ lessP (l.getD (bestAt l k).toNat (0, 0)) (l.getD k (0, 0)) = true then (k : Int) else bestAt l k
def bst (l : List Pl) (k : Nat) : Int := bestAt l k
theorem bestAt_bd (l : List Pl) (k : Nat) : -1 ≤ bestAt l k ∧ bestAt l k < (k : Int) := by
  induction k with
  | zero => unfold bestAt; omega
  | succ k ih =>
    unfold bestAt
    split <;> omega
theorem getD_at (l : List Pl) (k : Nat) (h : k < l.length) : l.getD k (0, 0) = l[k] := by simp [h]

set_option maxHeartbeats 3200000 in
theorem choose20 (a : Option Addr) (c : Nat) (l : List Pl) (w : World) (h : Ps w a l) (hl : l.length ≤ 9223372036854775807) :
    Calls Try.prog 20 #[.slice a l.length c] w fun e w' => e = .returned (.int .i64 (bst l l.length)) ∧ Gr w w' := by
  go_enter Try.func20, Try.ntmps20
  go_wp2_with fail
  go_loopw [3, 8] (fun v3 i wr => ∃ k : Nat, k ≤ l.length ∧ i = .int .i64 k ∧ v3 = .int .i64 (bst l k) ∧ Gr w wr) (fun _ i _ => l.length - (intOf i).toNat)
  case atStart => exact ⟨0, by omega, rfl, rfl, Gr.refl _⟩
  case round =>
    obtain ⟨k, hk, rfl, rfl, hg⟩ := hrel
    by_cases hlt : k < l.length
    · obtain ⟨b1, o1, rfl⟩ := h.ex hlt
      have hAll := h.below hg.below
      obtain ⟨c1, c2⟩ := hAll.cell b1 o1 rfl k hlt
      have HB : Hid (bst l (k + 1) = if bst l k < 0 ∨ lessP (l.getD (bst l k).toNat (0, 0)) (l.getD k (0, 0)) = true then (k : Int) else bst l k) := rfl
      have hbd : -1 ≤ bst l k ∧ bst l k < (k : Int) := bestAt_bd l k
      rw [getD_at l k hlt] at HB
      obtain ⟨x, hx⟩ : ∃ x, l[k] = x := ⟨_, rfl⟩
      rw [hx] at c1 c2 HB
      clear hx
      have hGA : Gr wr (wr.alloc (.cells #[.int .u64 (x.1 : Int), .int .u64 (x.2 : Int)] 26)) := (Gr.refl _).alloc _
      have hbx : (wr.alloc (.cells #[.int .u64 (x.1 : Int), .int .u64 (x.2 : Int)] 26)).heap[wr.heap.size]? = some (.cells #[.int .u64 (x.1 : Int), .int .u64 (x.2 : Int)] 26 (0, 0)) := heap_alloc_new _ _
      have HBX := Lib.hid hbx
      clear hbx
      by_cases hneg : bst l k < 0
      · have hz : decide (bst l k < 0) = true := decide_eq_true hneg
        rw [if_pos (.inl hneg)] at HB
        obtain ⟨bb, hbb⟩ : ∃ bb, bst l k = bb := ⟨_, rfl⟩
        rw [hbb] at hz hbd hneg ⊢
        clear hbb
        go_wp2_with fail
        have KF : ∀ w', Gr (wr.alloc (.cells #[.int .u64 (x.1 : Int), .int .u64 (x.2 : Int)] 26)).drew w' → True := fun _ _ => trivial
        refine seqS_start (Gr (wr.alloc (.cells #[.int .u64 (x.1 : Int), .int .u64 (x.2 : Int)] 26)).drew) 10 [false, false, false, false, false, false, false, false, false, false] (by kernel_rfl) rfl rfl (Gr.refl _) ?_
        refine seqS_take 0 (v := ?_) rfl (by kernel_rfl) (fun _ _ _ h => h) (Or.inl ⟨by rfl, fun w' hb => ?_⟩) ?_
        rotate_left
        · have kf := KF w' hb
          go_simp
          with_reducible rfl
        simp only [Act.put, List.setIfInBounds_toArray, List.set_cons_zero, List.set_cons_succ]
        refine seqS_take 1 (v := ?_) rfl (by kernel_rfl) (fun _ _ _ h => h) (Or.inl ⟨by rfl, fun w' hb => ?_⟩) ?_
        rotate_left
        · have kf := KF w' hb
          go_simp
          with_reducible rfl
        simp only [Act.put, List.setIfInBounds_toArray, List.set_cons_zero, List.set_cons_succ]
        refine seqS_take 2 (v := ?_) rfl (by kernel_rfl) (fun _ _ _ h => h) (Or.inl ⟨by rfl, fun w' hb => ?_⟩) ?_
        rotate_left
        · have kf := KF w' hb
          go_simp
          with_reducible rfl
        simp only [Act.put, List.setIfInBounds_toArray, List.set_cons_zero, List.set_cons_succ]
        refine seqS_take 3 (v := undef) rfl (by kernel_rfl) (fun _ _ _ h => h) (Or.inr ⟨by rfl, rfl⟩) ?_
        simp only [Act.put, List.setIfInBounds_toArray, List.set_cons_zero, List.set_cons_succ]
        refine seqS_take 4 (v := undef) rfl (by kernel_rfl) (fun _ _ _ h => h) (Or.inr ⟨by rfl, rfl⟩) ?_
        simp only [Act.put, List.setIfInBounds_toArray, List.set_cons_zero, List.set_cons_succ]
        refine seqS_take 5 (v := undef) rfl (by kernel_rfl) (fun _ _ _ h => h) (Or.inr ⟨by rfl, rfl⟩) ?_
        simp only [Act.put, List.setIfInBounds_toArray, List.set_cons_zero, List.set_cons_succ]
        refine seqS_take 6 (v := undef) rfl (by kernel_rfl) (fun _ _ _ h => h) (Or.inr ⟨by rfl, rfl⟩) ?_
        simp only [Act.put, List.setIfInBounds_toArray, List.set_cons_zero, List.set_cons_succ]
        refine seqS_take 7 (v := undef) rfl (by kernel_rfl) (fun _ _ _ h => h) (Or.inr ⟨by rfl, rfl⟩) ?_
        simp only [Act.put, List.setIfInBounds_toArray, List.set_cons_zero, List.set_cons_succ]
        refine seqS_take 8 (v := undef) rfl (by kernel_rfl) (fun _ _ _ h => h) (Or.inr ⟨by rfl, rfl⟩) ?_
        simp only [Act.put, List.setIfInBounds_toArray, List.set_cons_zero, List.set_cons_succ]
        refine seqS_take 9 (v := ?_) rfl (by kernel_rfl) (fun _ _ _ h => h) (Or.inl ⟨by rfl, fun w' hb => ?_⟩) ?_
        rotate_left
        · have kf := KF w' hb
          go_simp
          with_reducible rfl
        simp only [Act.put, List.setIfInBounds_toArray, List.set_cons_zero, List.set_cons_succ]
        refine seqS_end (by kernel_rfl) (fun hEnd => ?_)
        go_wp2_with fail
        go_roundw
        case rel => exact ⟨k + 1, by omega, by go_num, by rw [HB.out], hg.trans (hGA.trans (Gr.refl _).drew)⟩
        case measure => simp [intOf]; omega
      · obtain ⟨m, hm⟩ : ∃ m : Nat, bst l k = (m : Int) := ⟨(bst l k).toNat, by omega⟩
        have hml : m < l.length := by omega
        rw [hm] at HB ⊢
        rw [Int.toNat_natCast, getD_at l m hml] at HB
        clear hneg hbd hm
        have hz : decide ((m : Int) < 0) = false := decide_eq_false (by omega)
        obtain ⟨d1, d2⟩ := hAll.cell b1 o1 rfl m hml
        obtain ⟨y, hy⟩ : ∃ y, l[m] = y := ⟨_, rfl⟩
        rw [hy] at d1 d2 HB
        clear hy
        have P := Lib.hid (fun w => less25 y x w)
        have KF0 : ∀ w', Gr (wr.alloc (.cells #[.int .u64 (x.1 : Int), .int .u64 (x.2 : Int)] 26)).drew w' → (w'.cell? ⟨b1, o1 + m * 2, none⟩ = some (.int .u64 (y.1 : Int)) ∧ w'.cell? ⟨b1, o1 + m * 2 + 1, none⟩ = some (.int .u64 (y.2 : Int))) ∧ (w'.cell? ⟨wr.heap.size, 0, none⟩ = some (.int .u64 (x.1 : Int)) ∧ w'.cell? ⟨wr.heap.size, 1, none⟩ = some (.int .u64 (x.2 : Int))) := fun w' h => by
          have hb := (hGA.trans ((Gr.refl _).drew.trans h)).below
          have e1 : w'.heap[wr.heap.size]? = _ := (h.below.block _ (by show _ < (wr.alloc (.cells #[.int .u64 (x.1 : Int), .int .u64 (x.2 : Int)] 26)).heap.size; simp)).trans HBX.out
          exact ⟨⟨Below.cellSome hb d1, Below.cellSome hb d2⟩, cell_of_row _ _ _ _ _ _ e1, cell_of_row _ _ _ _ _ _ e1⟩
        have HKF := Lib.hid KF0
        clear KF0
        go_wp2_with fail
        have KF := HKF.out
        refine seqS_start (Gr (wr.alloc (.cells #[.int .u64 (x.1 : Int), .int .u64 (x.2 : Int)] 26)).drew) 10 [false, false, false, false, false, false, false, false, false, false] (by kernel_rfl) rfl rfl (Gr.refl _) ?_
        refine seqS_take 0 (v := ?_) rfl (by kernel_rfl) (fun _ _ _ h => h) (Or.inl ⟨by rfl, fun w' hb => ?_⟩) ?_
        rotate_left
        · have kf := KF w' hb
          go_simp
          with_reducible rfl
        simp only [Act.put, List.setIfInBounds_toArray, List.set_cons_zero, List.set_cons_succ]
        refine seqS_take 1 (v := ?_) rfl (by kernel_rfl) (fun _ _ _ h => h) (Or.inl ⟨by rfl, fun w' hb => ?_⟩) ?_
        rotate_left
        · have kf := KF w' hb
          go_simp
          with_reducible rfl
        simp only [Act.put, List.setIfInBounds_toArray, List.set_cons_zero, List.set_cons_succ]
        refine seqS_take 2 (v := ?_) rfl (by kernel_rfl) (fun _ _ _ h => h) (Or.inl ⟨by rfl, fun w' hb => ?_⟩) ?_
        rotate_left
        · have kf := KF w' hb
          go_simp
          with_reducible rfl
        simp only [Act.put, List.setIfInBounds_toArray, List.set_cons_zero, List.set_cons_succ]
        refine seqS_take 3 (v := ?_) rfl (by kernel_rfl) (fun _ _ _ h => h) (Or.inl ⟨by rfl, fun w' hb => ?_⟩) ?_
        rotate_left
        · have kf := KF w' hb
          go_simp
          with_reducible rfl
        simp only [Act.put, List.setIfInBounds_toArray, List.set_cons_zero, List.set_cons_succ]
        refine seqS_take 4 (v := ?_) rfl (by kernel_rfl) (fun _ _ _ h => h) (Or.inl ⟨by rfl, fun w' hb => ?_⟩) ?_
        rotate_left
        · have kf := KF w' hb
          go_simp
          with_reducible rfl
        simp only [Act.put, List.setIfInBounds_toArray, List.set_cons_zero, List.set_cons_succ]
        refine seqS_take 5 (v := ?_) rfl (by kernel_rfl) (fun _ _ _ h => h) (Or.inl ⟨by rfl, fun w' hb => ?_⟩) ?_
        rotate_left
        · have kf := KF w' hb
          go_simp
          with_reducible rfl
        simp only [Act.put, List.setIfInBounds_toArray, List.set_cons_zero, List.set_cons_succ]
        refine seqS_take 6 (v := ?_) rfl (by kernel_rfl) (fun _ _ _ h => h) (Or.inl ⟨by rfl, fun w' hb => ?_⟩) ?_
        rotate_left
        · have kf := KF w' hb
          go_simp
          with_reducible rfl
        simp only [Act.put, List.setIfInBounds_toArray, List.set_cons_zero, List.set_cons_succ]
        refine seqS_take 7 (v := ?_) rfl (by kernel_rfl) (fun _ _ _ h => h) (Or.inl ⟨by rfl, fun w' hb => ?_⟩) ?_
        rotate_left
        · have kf := KF w' hb
          go_simp
          with_reducible rfl
        simp only [Act.put, List.setIfInBounds_toArray, List.set_cons_zero, List.set_cons_succ]
        refine seqS_do 8 rfl (by kernel_rfl) (fun K hK => ?_)
        go_simp
        refine (P.out _).mono ?_
        rintro e w1 ⟨rfl, hg1⟩
        refine hK.out (Gr (wr.alloc (.cells #[.int .u64 (x.1 : Int), .int .u64 (x.2 : Int)] 26)).drew) _ _ (fun _ h => h) hg1 ?_
        clear hK K
        simp only [List.set_cons_zero, List.set_cons_succ]
        refine seqS_take 9 (v := ?_) rfl (by kernel_rfl) (fun _ _ _ h => h) (Or.inl ⟨by rfl, fun w' hb => ?_⟩) ?_
        rotate_left
        · have kf := KF w' hb
          go_simp
          with_reducible rfl
        simp only [Act.put, List.setIfInBounds_toArray, List.set_cons_zero, List.set_cons_succ]
        refine seqS_end (by kernel_rfl) (fun hEnd => ?_)
        cases hu : lessP y x
        · rw [hu, if_neg (by simp)] at HB
          clear hu
          go_wp2_with fail
          go_roundw
          case rel => exact ⟨k + 1, by omega, by go_num, by rw [HB.out], hg.trans (hGA.trans ((Gr.refl _).drew.trans hg1))⟩
          case measure => simp [intOf]; omega
        · rw [hu, if_pos (.inr rfl)] at HB
          clear hu
          go_wp2_with fail
          go_roundw
          case rel => exact ⟨k + 1, by omega, by go_num, by rw [HB.out], hg.trans (hGA.trans ((Gr.refl _).drew.trans hg1))⟩
          case measure => simp [intOf]; omega
    · obtain rfl : k = l.length := by omega
      go_wp2_with fail
      go_ret
      exact ⟨rfl, hg⟩

end Go.Proofs.Ytbpajfjeakffkaa

/- Of, Copy, members. -/
import Derived.Test.YtbpajfjeakffkaaRA
import Derived.Laws.Externs
namespace Go.Proofs.Ytbpajfjeakffkaa
open Go.RowKit Go.Sort Go.Shelf Go.MapKept
attribute [local go_sem] Oper.semAt_some

set_option maxRecDepth 10000 in
set_option maxHeartbeats 1600000 in
theorem of30 (mp mb : Nat) (D : MapD) (n : Int) (w : World) (h : MS w mp mb D) :
    Calls Try.prog 30 #[.pointer (some ⟨mp, 0, none⟩), .int .i64 n] w fun e w' => e = .returned (optV (getM D n)) ∧ RowKit.Below w.heap.size w w' := by
  have hB0 : RowKit.Below w.heap.size w (w.alloc (.cells #[.int .u64 0, .int .u64 0] 26)) := below_alloc' w
  have hz0 : (w.alloc (.cells #[.int .u64 0, .int .u64 0] 26)).heap[w.heap.size]? = some (.cells #[.int .u64 0, .int .u64 0] 26 (0, 0)) := heap_alloc_new _ _
  obtain ⟨W, hW⟩ : ∃ W, w.alloc (.cells #[.int .u64 0, .int .u64 0] 26) = W := ⟨_, rfl⟩
  rw [hW] at hB0 hz0
  have HW := Lib.hid hW
  have hsz : w.heap.size < W.heap.size := (Array.getElem?_eq_some_iff.1 hz0).1
  have hM : MS W mp mb D := h.below hB0
  have PT := Lib.hid (there32 mp mb D W hM)
  have hmc : W.cell? ⟨mp, 0, none⟩ = some (.map (some mb)) := cell_of_row _ _ 0 _ _ _ hM.cell
  rcases find_case D n with ⟨hf, hno⟩ | ⟨j, hj, hf, hn⟩
  · have hl := run_lookup_no (P := Try.prog) Try.underlying50 Try.underlying3 hM.map (key := .int .i64 n) rfl hf (zero26 W)
    have HR := Lib.hid (getM_none D n hno)
    have HZ := Lib.hid hz0
    have HB := Lib.hid hB0
    clear hW h hM hf hno hz0 hB0
    go_enter Try.func30, Try.ntmps30
    go_wp2_with fail
    rw [HW.out]
    refine PT.out.mono ?_
    rintro e w1 ⟨rfl, rfl⟩
    have hz2 : (W.alloc (.cells #[.int .u64 0, .int .u64 0] 26)).heap[w.heap.size]? = some (.cells #[.int .u64 0, .int .u64 0] 26 (0, 0)) := (heap_alloc_old _ _ hsz).trans HZ.out
    have hlow : RowKit.Below w.heap.size w (W.alloc (.cells #[.int .u64 0, .int .u64 0] 26)) := belT HB.out (below_alloc' W)
    have hc0 := cell_of_row (W.alloc (.cells #[.int .u64 0, .int .u64 0] 26)) W.heap.size 0 _ _ _ (heap_alloc_new W (.cells #[.int .u64 0, .int .u64 0] 26))
    have hc1 := cell_of_row (W.alloc (.cells #[.int .u64 0, .int .u64 0] 26)) W.heap.size 1 _ _ _ (heap_alloc_new W (.cells #[.int .u64 0, .int .u64 0] 26))
    go_wp2_with (refine wpList_store_row rfl 26 (.tmp 4) (.tmp 21) rfl w.heap.size #[.int .u64 0, .int .u64 0] rfl rfl 26 #[.int .u64 0, .int .u64 0] hz2 (by rw [info26]; rfl) rfl (two_one _ _) ?_)
    refine bodyPost_ret (v := .tuple #[.agg #[.int .u64 0, .int .u64 0], .bool false]) (by exact res45 _ rfl _ _ w.heap.size _ _ rfl rfl (load_set _ _ _ _ _ hz2)) (by rfl) ⟨by rw [HR.out]; rfl, ?_⟩
    exact below_setRow hlow (Nat.le_refl _) _
  · have hl := run_lookup_ok (P := Try.prog) Try.underlying50 Try.underlying3 hM.map (key := .int .i64 n) rfl hf
    have HR := Lib.hid (getM_some D n h.nd j hj hn)
    obtain ⟨y, hy⟩ : ∃ y, D[j].2 = y := ⟨_, rfl⟩
    rw [hy] at hl HR
    have HZ := Lib.hid hz0
    have HB := Lib.hid hB0
    clear hW h hM hf hn hy hz0 hB0
    go_enter Try.func30, Try.ntmps30
    go_wp2_with fail
    rw [HW.out]
    refine PT.out.mono ?_
    rintro e w1 ⟨rfl, rfl⟩
    have hz2 : (W.alloc (.cells #[.int .u64 (y.1 : Int), .int .u64 (y.2 : Int)] 26)).heap[w.heap.size]? = some (.cells #[.int .u64 0, .int .u64 0] 26 (0, 0)) := (heap_alloc_old _ _ hsz).trans HZ.out
    have hlow : RowKit.Below w.heap.size w (W.alloc (.cells #[.int .u64 (y.1 : Int), .int .u64 (y.2 : Int)] 26)) := belT HB.out ((RowKit.Below.refl _ _).alloc (Nat.le_refl _) _)
    have hc0 := cell_of_row (W.alloc (.cells #[.int .u64 (y.1 : Int), .int .u64 (y.2 : Int)] 26)) W.heap.size 0 _ _ _ (heap_alloc_new W _)
    have hc1 := cell_of_row (W.alloc (.cells #[.int .u64 (y.1 : Int), .int .u64 (y.2 : Int)] 26)) W.heap.size 1 _ _ _ (heap_alloc_new W _)
    go_wp2_with (refine wpList_store_row rfl 26 (.tmp 4) (.tmp 21) rfl w.heap.size #[.int .u64 (y.1 : Int), .int .u64 (y.2 : Int)] rfl rfl 26 #[.int .u64 0, .int .u64 0] hz2 (by rw [info26]; rfl) rfl (two_one _ _) ?_)
    refine bodyPost_ret (v := .tuple #[.agg #[.int .u64 (y.1 : Int), .int .u64 (y.2 : Int)], .bool true]) (by exact res45 _ rfl _ _ w.heap.size _ _ rfl rfl (load_set _ _ _ _ _ hz2)) (by rfl) ⟨by rw [HR.out]; rfl, ?_⟩
    exact below_setRow hlow (Nat.le_refl _) _


theorem run_assertMap (m : Option Nat) (w : World) : (Instr.typeAssert (.iface 50 (.map m)) 20 50 false).run Try.prog w = .ok (.map m) w := by
  simp [Instr.typeAssert, run_underlying Try.underlying50, go_sem, Result.andThen]
theorem run_clone {r : Nat} {es : Array MapEntry} {clock : Nat} (w : World) (t : TypeId) (hb : w.heap[r]? = some (.map es clock)) :
    (Extern.MapsClone.clone #[.iface t (.map (some r))]).run Try.prog w = .ok (.iface t (.map (some w.heap.size))) (w.alloc (.map es clock)) := by
  have e : Extern.MapsClone.clone #[.iface t (.map (some r))] = (getObj r >>= fun o => match o with
      | .map entries clock => (newObj (.map entries clock) >>= fun n => pure (.iface t (.map (some n))))
      | _ => stuck "maps.clone: a map expected") := rfl
  rw [e]
  simp [MapKept.run_getObj_map hb, Result.andThen, go_sem]
theorem eq_nil50 (mb : Nat) (w : World) : (binOp .eql 50 (.map (some mb)) (.map none)).run Try.prog w = .ok (.bool false) w := by kernel_rfl
set_option maxRecDepth 10000 in
theorem clone33 (mb : Nat) (D : MapD) (w : World) (h : w.heap[mb]? = some (.map (esOf D) D.length)) :
    Calls Try.prog 33 #[.map (some mb)] w fun e w' => e = .returned (.map (some w.heap.size)) ∧ w' = w.alloc (.map (esOf D) D.length) := by
  have he := eq_nil50 mb
  go_enter Try.func33, Try.ntmps33
  go_wp2_with fail
  rw [run_callFunc_extern Try.func42 (by kernel_rfl) (by kernel_rfl) (by kernel_rfl) (e := Extern.MapsClone.clone) (by kernel_rfl), run_clone w 50 h]
  simp only [Result.andThen]
  rw [Oper.upon_value]
  go_wp2_with fail
  rw [run_assertMap]
  simp only [Result.andThen]
  rw [Oper.upon_value]
  go_wp2_with fail
  go_ret
  exact ⟨rfl, rfl⟩
set_option maxRecDepth 10000 in
theorem copy14 (mp mb : Nat) (D : MapD) (w : World) (h : MS w mp mb D) :
    Calls Try.prog 14 #[.pointer (some ⟨mp, 0, none⟩)] w fun e w' => ∃ mp2 mb2, e = .returned (.pointer (some ⟨mp2, 0, none⟩)) ∧ w.heap.size ≤ mb2 ∧ w.heap.size ≤ mp2 ∧ MS w' mp2 mb2 D ∧ RowKit.Below w.heap.size w w' := by
  have hmc : w.cell? ⟨mp, 0, none⟩ = some (.map (some mb)) := cell_of_row _ _ 0 _ _ _ h.cell
  have PT := Lib.hid (there32 mp mb D w h)
  have PC := Lib.hid (clone33 mb D w h.map)
  have HND := Lib.hid h.nd
  clear h
  go_enter Try.func14, Try.ntmps14
  go_wp2_with fail
  refine PT.out.mono ?_
  rintro e w1 ⟨rfl, rfl⟩
  go_wp2_with fail
  refine PC.out.mono ?_
  rintro e w2 ⟨rfl, rfl⟩
  go_wp2_with fail
  go_ret
  refine ⟨w.heap.size + 1, w.heap.size, by simp, Nat.le_refl _, by omega, ⟨?_, ?_, HND.out, by omega⟩, ?_⟩
  · have := heap_alloc_new (w.alloc (.map (esOf D) D.length)) (.cells #[.map (some w.heap.size)] 52)
    simpa using this
  · exact (heap_alloc_old _ _ (by simp)).trans (heap_alloc_new _ _)
  · exact ((RowKit.Below.refl _ _).alloc (Nat.le_refl _) _).alloc (by simp) _

theorem srt_len (L : List Int) : (srt L).length = L.length := List.length_mergeSort _
set_option maxRecDepth 10000 in
set_option maxHeartbeats 3200000 in
theorem members31 (mp mb rb : Nat) (D : MapD) (hD : D.length ≤ 1000000000) (s : List Pl) (f : List Bool) (w : World) (h : MS w mp mb D) (hr : RM w rb s f) (hv : View D s f) :
    Calls Try.prog 31 #[.pointer (some ⟨mp, 0, none⟩), .pointer (some ⟨rb, 0, none⟩)] w fun e w' => e = .returned (.bool true) ∧ RowKit.Below w.heap.size w w' := by
  have P17 := Lib.hid (members17 mp mb D hD w h)
  have HP := Lib.hid (hv.perm h.nd)
  clear h hv
  go_enter Try.func31, Try.ntmps31
  go_wp2_with fail
  refine P17.out.mono ?_
  rintro e w1 ⟨a, c, L, rfl, hp, hrow, hb1⟩
  have hsrt : srt L = (en s f 5).map (·.1) := srt_of (hp.trans (HP.out.map _)) (en_sorted s f 5).1
  have hr1 := hr.below hb1
  have hLD : L.length ≤ 1000000000 := by have := hp.length_eq; simp at this; omega
  clear P17 HP hr hp
  go_wp2_with fail
  refine (rmembers41 rb s f w1 hr1).mono ?_
  rintro e w2 ⟨v, rfl, hown, hb2⟩
  rw [← hsrt] at hown
  obtain ⟨a2, c2, rfl, hI2, _, hcase⟩ := hown.form
  have hlen := srt_len L
  rw [hlen]
  have hB2 := belT hb1 hb2
  have HL := Lib.hid hlen
  have hI1 := hrow.1.below hb2
  clear hr1 hown hsrt
  by_cases h0 : L.length = 0
  · have e0 : (L.length : Int) = 0 := by omega
    obtain rfl : L = [] := List.eq_nil_of_length_eq_zero h0
    clear hI1 hI2 hcase hrow
    go_wp2_with fail
    go_loopw [7] (fun i wr => i = .int .i64 0 ∧ wr = w2) (fun _ _ => 0)
    case atStart => exact ⟨rfl, rfl⟩
    case round =>
      obtain ⟨rfl, rfl⟩ := hrel
      go_wp2_with fail
      go_ret
      exact ⟨rfl, hB2⟩
  · have hne : srt L ≠ [] := fun e => by rw [e] at hlen; simp at hlen; omega
    obtain ⟨g, cur, rfl, hgb, hg⟩ : ∃ g cur, a = some ⟨g, 0, none⟩ ∧ w.heap.size ≤ g ∧ w1.heap[g]? = some (.cells cur 3 (0, 0)) := by
      rcases hrow.2 with h | ⟨g, cur, h1, h2, h3⟩
      · exact absurd h hne
      · exact ⟨g, cur, h1, h2, h3⟩
    obtain ⟨g2, cur2, rfl, hgb2, hgs2, hg2⟩ : ∃ g cur, a2 = some ⟨g, 0, none⟩ ∧ w1.heap.size ≤ g ∧ g < w2.heap.size ∧ w2.heap[g]? = some (.cells cur 3 (0, 0)) := by
      rcases hcase with ⟨_, h⟩ | ⟨g, cur, h1, h2, h3, h4⟩
      · exact absurd h hne
      · exact ⟨g, cur, h1, h2, h3, h4⟩
    have hgl : g < w1.heap.size := (Array.getElem?_eq_some_iff.1 hg).1
    have hg0 : w2.heap[g]? = some (.cells cur 3 (0, 0)) := (hb2.block _ hgl).trans hg
    have hC1 : Hid (∀ j (hj : j < (srt L).length), w2.cell? ⟨g, j, none⟩ = some (.int .i64 (srt L)[j])) := fun j hj => by have := hI1.cell g 0 rfl j hj; rwa [Nat.zero_add] at this
    have hC2 : Hid (∀ j (hj : j < (srt L).length), w2.cell? ⟨g2, j, none⟩ = some (.int .i64 (srt L)[j])) := fun j hj => by have := hI2.cell g2 0 rfl j hj; rwa [Nat.zero_add] at this
    clear hI1 hI2 hcase hrow hg hg2 h0 hne
    go_wp2_with fail
    go_loopw [7] (fun i wr => ∃ k : Nat, k ≤ L.length ∧ i = .int .i64 k ∧ Off g w2 wr ∧ (∃ cu, wr.heap[g]? = some (.cells cu 3 (0, 0))) ∧ Hid (∀ j (hj : j < (srt L).length), k ≤ j → wr.cell? ⟨g, j, none⟩ = some (.int .i64 (srt L)[j]))) (fun i _ => L.length - (intOf i).toNat)
    case atStart => exact ⟨0, by omega, rfl, Off.refl _ _, ⟨_, hg0⟩, fun j hj _ => hC1.out j hj⟩
    case round =>
      obtain ⟨k, hk, rfl, ho, ⟨cu, hcu⟩, hC⟩ := hrel
      by_cases hlt : k < L.length
      · have hk' : k < (srt L).length := by omega
        have e1 := hC.out k hk' (Nat.le_refl _)
        have e2 : wr.cell? ⟨g2, k, none⟩ = some (.int .i64 (srt L)[k]) := by
          have := ho.2 g2 hgs2 (by omega)
          have h2 := hC2.out k hk'
          unfold World.cell? at h2 ⊢
          rw [this]; exact h2
        obtain ⟨x, hx⟩ : ∃ x, (srt L)[k] = x := ⟨_, rfl⟩
        rw [hx] at e1 e2
        clear hx
        have KF : ∀ w', Gr wr.drew w' → (w'.cell? ⟨g, k, none⟩ = some (.int .i64 x) ∧ w'.cell? ⟨g2, k, none⟩ = some (.int .i64 x)) ∧ k < L.length := fun w' hg' => by
          have hb := ((Gr.refl wr).drew.trans hg').below
          exact ⟨⟨Below.cellSome hb e1, Below.cellSome hb e2⟩, hlt⟩
        have hcs := e1
        have hfr : wr.frozen? ⟨g, k, none⟩ = false := frozen_of_row _ _ _ _ _ hcu
        go_wp2_with fail
        refine seqS_start (Gr wr.drew) 9 [false, false, false, false, false, false, false, false, false] (by kernel_rfl) rfl rfl (Gr.refl _) ?_
        refine seqS_take 0 (v := ?_) rfl (by kernel_rfl) (fun _ _ _ h => h) (Or.inl ⟨by rfl, fun w' hb => ?_⟩) ?_
        rotate_left
        · have kf := KF w' hb
          go_simp
          with_reducible rfl
        simp only [Act.put, List.setIfInBounds_toArray, List.set_cons_zero, List.set_cons_succ]
        refine seqS_take 1 (v := ?_) rfl (by kernel_rfl) (fun _ _ _ h => h) (Or.inl ⟨by rfl, fun w' hb => ?_⟩) ?_
        rotate_left
        · have kf := KF w' hb
          go_simp
          with_reducible rfl
        simp only [Act.put, List.setIfInBounds_toArray, List.set_cons_zero, List.set_cons_succ]
        refine seqS_take 2 (v := ?_) rfl (by kernel_rfl) (fun _ _ _ h => h) (Or.inl ⟨by rfl, fun w' hb => ?_⟩) ?_
        rotate_left
        · have kf := KF w' hb
          go_simp
          with_reducible rfl
        simp only [Act.put, List.setIfInBounds_toArray, List.set_cons_zero, List.set_cons_succ]
        refine seqS_take 3 (v := ?_) rfl (by kernel_rfl) (fun _ _ _ h => h) (Or.inl ⟨by rfl, fun w' hb => ?_⟩) ?_
        rotate_left
        · have kf := KF w' hb
          go_simp
          with_reducible rfl
        simp only [Act.put, List.setIfInBounds_toArray, List.set_cons_zero, List.set_cons_succ]
        refine seqS_take 4 (v := ?_) rfl (by kernel_rfl) (fun _ _ _ h => h) (Or.inl ⟨by rfl, fun w' hb => ?_⟩) ?_
        rotate_left
        · have kf := KF w' hb
          go_simp
          with_reducible rfl
        simp only [Act.put, List.setIfInBounds_toArray, List.set_cons_zero, List.set_cons_succ]
        refine seqS_take 5 (v := ?_) rfl (by kernel_rfl) (fun _ _ _ h => h) (Or.inl ⟨by rfl, fun w' hb => ?_⟩) ?_
        rotate_left
        · have kf := KF w' hb
          go_simp
          with_reducible rfl
        simp only [Act.put, List.setIfInBounds_toArray, List.set_cons_zero, List.set_cons_succ]
        refine seqS_take 6 (v := ?_) rfl (by kernel_rfl) (fun _ _ _ h => h) (Or.inl ⟨by rfl, fun w' hb => ?_⟩) ?_
        rotate_left
        · have kf := KF w' hb
          go_simp
          with_reducible rfl
        simp only [Act.put, List.setIfInBounds_toArray, List.set_cons_zero, List.set_cons_succ]
        refine seqS_take 7 (v := ?_) rfl (by kernel_rfl) (fun _ _ _ h => h) (Or.inl ⟨by rfl, fun w' hb => ?_⟩) ?_
        rotate_left
        · have kf := KF w' hb
          go_simp
          with_reducible rfl
        simp only [Act.put, List.setIfInBounds_toArray, List.set_cons_zero, List.set_cons_succ]
        refine seqS_take 8 (v := ?_) rfl (by kernel_rfl) (fun _ _ _ h => h) (Or.inl ⟨by rfl, fun w' hb => ?_⟩) ?_
        rotate_left
        · have kf := KF w' hb
          go_simp
          with_reducible rfl
        simp only [Act.put, List.setIfInBounds_toArray, List.set_cons_zero, List.set_cons_succ]
        refine seqS_end (by kernel_rfl) (fun hEnd => ?_)
        clear KF hEnd
        have e1d : wr.drew.cell? ⟨g, k, none⟩ = some (.int .i64 x) := e1
        have hfrd : wr.drew.frozen? ⟨g, k, none⟩ = false := hfr
        have hO3 : Off g w2 (wr.drew.setCell ⟨g, k, none⟩ (.int .i64 99)) := (ho.trans (b := wr) (Off.of_below (w' := wr.drew) (Gr.refl wr).drew.below (by have := (Array.getElem?_eq_some_iff.1 hcu).1; omega))).trans (off_set1 wr.drew g k _)
        have hC3 : Hid (∀ j (hj : j < (srt L).length), k + 1 ≤ j → (wr.drew.setCell ⟨g, k, none⟩ (.int .i64 99)).cell? ⟨g, j, none⟩ = some (.int .i64 (srt L)[j])) := fun j hj hle => by
          have hne2 : (⟨g, k, none⟩ : Addr) ≠ ⟨g, j, none⟩ := by intro e; injection e with e1 e2 e3; omega
          rw [World.cell?_setCell_other (h := hne2)]
          exact hC.out j hj (by omega)
        have hcu3 : ∃ cu', (wr.drew.setCell ⟨g, k, none⟩ (.int .i64 99)).heap[g]? = some (.cells cu' 3 (0, 0)) := by
          refine ⟨cu.setIfInBounds k (.int .i64 99), ?_⟩
          rw [setCell_eq]
          show (wr.heap.modify g (onCells (·.setIfInBounds k (.int .i64 99))))[g]? = _
          rw [Array.getElem?_modify, if_pos rfl, hcu]; rfl
        clear hC hcs e1 hfr
        go_wp2_with fail
        go_roundw
        case rel => exact ⟨k + 1, by omega, by go_num, hO3, hcu3, hC3⟩
        case measure => simp [intOf]; omega
      · go_wp2_with fail
        go_ret
        exact ⟨rfl, hB2.trans (ho.1.mono hgb)⟩

end Go.Proofs.Ytbpajfjeakffkaa

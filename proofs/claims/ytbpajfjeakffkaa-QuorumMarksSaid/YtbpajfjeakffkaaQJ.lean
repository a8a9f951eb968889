/- Tell and New of marks. -/
import Derived.Test.YtbpajfjeakffkaaQI
namespace Go.Proofs.Ytbpajfjeakffkaa
open Go.RowKit Go.Sort Go.Shelf Go.MapKept
attribute [local go_sem] Oper.semAt_some

/-- all but one block is kept -/
def Off (mb : Nat) (w w' : World) : Prop := RowKit.Below mb w w' ∧ ∀ k, k < w.heap.size → k ≠ mb → w'.heap[k]? = w.heap[k]?
theorem Off.refl (mb : Nat) (w : World) : Off mb w w := ⟨RowKit.Below.refl _ _, fun _ _ _ => rfl⟩
theorem Off.of_below {mb : Nat} {w w' : World} (h : RowKit.Below w.heap.size w w') (hm : mb ≤ w.heap.size) : Off mb w w' := ⟨h.mono hm, fun _ hk _ => h.block _ hk⟩
theorem Off.trans {mb : Nat} {a b c : World} (h : Off mb a b) (g : Off mb b c) : Off mb a c :=
  ⟨h.1.trans g.1, fun i hi hn => (g.2 i (Nat.lt_of_lt_of_le hi h.1.size) hn).trans (h.2 i hi hn)⟩
theorem off_setBlock (mb : Nat) (w : World) (o : Obj) : Off mb w { w with heap := w.heap.setIfInBounds mb o } :=
  ⟨⟨rfl, rfl, rfl, by simp, fun j hj => by show (w.heap.setIfInBounds mb o)[j]? = _; rw [Array.getElem?_setIfInBounds_ne (by omega)]⟩,
    fun k _ hn => by show (w.heap.setIfInBounds mb o)[k]? = _; rw [Array.getElem?_setIfInBounds_ne (by omega)]⟩
/-- what a telling leaves, and its answer -/
def tellV (D : MapD) (n : Int) (p : Pl) : Bool × Int := match D.find? (fun x => x.1 = n) with | none => (false, 2) | some x => (lessP x.2 p, 0)
def tellD (D : MapD) (n : Int) (p : Pl) : MapD := D.map fun x => if x.1 = n ∧ lessP x.2 p = true then (n, p) else x
theorem MS.set {w : World} {mp mb : Nat} {D : MapD} (h : MS w mp mb D) {j : Nat} (hj : j < D.length) {n : Int} (hn : D[j].1 = n) (p : Pl) :
    MS { w with heap := w.heap.setIfInBounds mb (.map ((esOf D).modify j fun e => { e with key := .int .i64 n, val := pv p }) D.length) } mp mb (D.set j (n, p)) := by
  have hmb : mb < w.heap.size := (Array.getElem?_eq_some_iff.1 h.map).1
  refine ⟨?_, ?_, ?_, h.ne⟩
  · show (w.heap.setIfInBounds mb _)[mp]? = _
    rw [Array.getElem?_setIfInBounds_ne (fun e => h.ne e.symm)]; exact h.cell
  · show (w.heap.setIfInBounds mb _)[mb]? = _
    rw [Array.getElem?_setIfInBounds_self_of_lt hmb, esOf_set, List.length_set]
  · have : (D.set j (n, p)).map (·.1) = D.map (·.1) := by
      rw [List.map_set]
      apply List.ext_getElem? 
      intro i
      rw [List.getElem?_set]
      by_cases hi : j = i
      · subst hi; simp [hj, hn]
      · simp [hi]
    rw [this]; exact h.nd
theorem MS.drew {w : World} {mp mb : Nat} {D : MapD} (h : MS w mp mb D) : MS w.drew mp mb D := ⟨h.cell, h.map, h.nd, h.ne⟩
set_option maxRecDepth 10000 in
set_option maxHeartbeats 3200000 in
theorem tell15 (mp mb : Nat) (D : MapD) (n : Int) (p : Pl) (w : World) (h : MS w mp mb D) :
    Calls Try.prog 15 #[.pointer (some ⟨mp, 0, none⟩), .int .i64 n, pv p] w fun e w' => Off mb w w' ∧
      ((∀ x ∈ D, x.1 ≠ n) ∧ e = .returned (.tuple #[.bool false, .int .i64 2]) ∧ MS w' mp mb D ∨
      ∃ j, ∃ hj : j < D.length, D[j].1 = n ∧ ((lessP D[j].2 p = false ∧ e = .returned (.tuple #[.bool false, .int .i64 0]) ∧ MS w' mp mb D) ∨ (lessP D[j].2 p = true ∧ e = .returned (.tuple #[.bool true, .int .i64 0]) ∧ MS w' mp mb (D.set j (n, p))))) := by
  have hmb : mb < w.heap.size := (Array.getElem?_eq_some_iff.1 h.map).1
  have hmp : mp < w.heap.size := (Array.getElem?_eq_some_iff.1 h.cell).1
  have hB0 : RowKit.Below w.heap.size w (w.alloc (.cells #[.int .u64 p.1, .int .u64 p.2] 26)) := (RowKit.Below.refl _ _).alloc (Nat.le_refl _) _
  have hz0 : (w.alloc (.cells #[.int .u64 p.1, .int .u64 p.2] 26)).heap[w.heap.size]? = some (.cells #[.int .u64 p.1, .int .u64 p.2] 26 (0, 0)) := heap_alloc_new _ _
  obtain ⟨W, hW⟩ : ∃ W, w.alloc (.cells #[.int .u64 p.1, .int .u64 p.2] 26) = W := ⟨_, rfl⟩
  rw [hW] at hB0 hz0
  have HW := Lib.hid hW
  have hsz : w.heap.size < W.heap.size := (Array.getElem?_eq_some_iff.1 hz0).1
  have hM : MS W mp mb D := h.below hB0
  have HM := Lib.hid hM
  have PT := Lib.hid (there32 mp mb D W hM)
  have hmc : W.cell? ⟨mp, 0, none⟩ = some (.map (some mb)) := cell_of_row _ _ 0 _ _ _ hM.cell
  have HO := Lib.hid (Off.of_below (mb := mb) hB0 (by omega))
  rcases find_case D n with ⟨hf, hno⟩ | ⟨j, hj, hf, hn⟩
  · have hl := run_lookup_no (P := Try.prog) Try.underlying50 Try.underlying3 hM.map (key := .int .i64 n) rfl hf (zero26 W)
    have HN := Lib.hid hno
    have HB := Lib.hid (below_alloc' W)
    clear hW h hM hf hno hz0
    go_enter Try.func15, Try.ntmps15
    go_wp2_with fail
    rw [HW.out]
    refine PT.out.mono ?_
    rintro e w1 ⟨rfl, rfl⟩
    go_wp2_with fail
    go_ret2
    exact ⟨HO.out.trans (Off.of_below HB.out (by omega)), .inl ⟨HN.out, rfl, HM.out.below HB.out⟩⟩
  · have hl := run_lookup_ok (P := Try.prog) Try.underlying50 Try.underlying3 hM.map (key := .int .i64 n) rfl hf
    obtain ⟨y, hy⟩ : ∃ y, D[j].2 = y := ⟨_, rfl⟩
    rw [hy] at hl hf
    have HF := Lib.hid hf
    have HN := Lib.hid hn
    have HY := Lib.hid hy
    have HZ := Lib.hid hz0
    have HB := Lib.hid ((RowKit.Below.refl W.heap.size W).alloc (Nat.le_refl _) (.cells #[.int .u64 (y.1 : Int), .int .u64 (y.2 : Int)] 26))
    have hzA : (W.alloc (.cells #[.int .u64 (y.1 : Int), .int .u64 (y.2 : Int)] 26)).heap[W.heap.size]? = some (.cells #[.int .u64 (y.1 : Int), .int .u64 (y.2 : Int)] 26 (0, 0)) := heap_alloc_new _ _
    have hzB : (W.alloc (.cells #[.int .u64 (y.1 : Int), .int .u64 (y.2 : Int)] 26)).heap[w.heap.size]? = some (.cells #[.int .u64 p.1, .int .u64 p.2] 26 (0, 0)) := (heap_alloc_old _ _ hsz).trans hz0
    have hc0 := cell_of_row _ _ 0 _ _ _ hzB
    have hc1 := cell_of_row _ _ 1 _ _ _ hzB
    have hc2 := cell_of_row _ _ 0 _ _ _ hzA
    have hc3 := cell_of_row _ _ 1 _ _ _ hzA
    clear hW h hM hf hn hy hz0 hzA hzB
    go_enter Try.func15, Try.ntmps15
    go_wp2_with fail
    rw [HW.out]
    refine PT.out.mono ?_
    rintro e w1 ⟨rfl, rfl⟩
    go_wp2_with fail
    refine (less25 y p _).mono ?_
    rintro e w3 ⟨rfl, hg⟩
    have hb3 : RowKit.Below W.heap.size W w3 := HB.out.trans (hg.below.mono (by simp))
    have HM3 := Lib.hid (HM.out.below hb3)
    have HO3 := Lib.hid (HO.out.trans (Off.of_below hb3 (by omega)))
    have hz3 : w3.heap[w.heap.size]? = some (.cells #[.int .u64 p.1, .int .u64 p.2] 26 (0, 0)) := (hb3.block _ hsz).trans HZ.out
    clear hc0 hc1 hc2 hc3 hl hmc HB PT HZ hg hb3
    by_cases hlt : lessP y p = true
    · have HM4 := Lib.hid HM3.out.drew
      have hz4 : w3.drew.heap[w.heap.size]? = some (.cells #[.int .u64 p.1, .int .u64 p.2] 26 (0, 0)) := hz3
      have KF : ∀ w', Off mb w3.drew w' → w'.cell? ⟨mp, 0, none⟩ = some (.map (some mb)) ∧ w'.cell? ⟨w.heap.size, 0, none⟩ = some (.int .u64 p.1) ∧ w'.cell? ⟨w.heap.size, 1, none⟩ = some (.int .u64 p.2) := fun w' ho => by
        have e1 : w'.heap[mp]? = _ := (ho.2 _ (Array.getElem?_eq_some_iff.1 HM4.out.cell).1 HM4.out.ne).trans HM4.out.cell
        have e2 : w'.heap[w.heap.size]? = _ := (ho.2 _ (Array.getElem?_eq_some_iff.1 hz4).1 (by omega)).trans hz4
        exact ⟨cell_of_row _ _ _ _ _ _ e1, cell_of_row _ _ _ _ _ _ e2, cell_of_row _ _ _ _ _ _ e2⟩
      have hu := run_update_old (P := Try.prog) Try.underlying50 Try.underlying3 HM4.out.map (key := .int .i64 n) (val := pv p) rfl HF.out (by rw [esOf_get D j hj, HN.out]; rfl)
      clear hz3 hz4
      rw [hlt]
      go_wp2_with fail
      refine seqS_start (Off mb w3.drew) 7 [false, false, false, false, false, false, false] (by kernel_rfl) rfl rfl (Off.refl _ _) ?_
      refine seqS_take 0 (v := ?_) rfl (by kernel_rfl) (fun _ _ _ h => h) (Or.inl ⟨by rfl, fun w' hb => ?_⟩) ?_
      rotate_left
      · have kf := KF w' hb
        go_simp
        with_reducible rfl
      simp only [Act.put, List.setIfInBounds_toArray, List.set_cons_zero, List.set_cons_succ]
      refine seqS_take 1 (v := ?_) rfl (by kernel_rfl) (fun _ _ _ h => h) (Or.inl ⟨by rfl, fun w' hb => ?_⟩) ?_
      rotate_left
      · have kf := KF w' hb
        go_simp
        with_reducible rfl
      simp only [Act.put, List.setIfInBounds_toArray, List.set_cons_zero, List.set_cons_succ]
      refine seqS_take 2 (v := ?_) rfl (by kernel_rfl) (fun _ _ _ h => h) (Or.inl ⟨by rfl, fun w' hb => ?_⟩) ?_
      rotate_left
      · have kf := KF w' hb
        go_simp
        with_reducible rfl
      simp only [Act.put, List.setIfInBounds_toArray, List.set_cons_zero, List.set_cons_succ]
      refine seqS_take 3 (v := ?_) rfl (by kernel_rfl) (fun _ _ _ h => h) (Or.inl ⟨by rfl, fun w' hb => ?_⟩) ?_
      rotate_left
      · have kf := KF w' hb
        go_simp
        with_reducible rfl
      simp only [Act.put, List.setIfInBounds_toArray, List.set_cons_zero, List.set_cons_succ]
      refine seqS_take 4 (v := ?_) rfl (by kernel_rfl) (fun _ _ _ h => h) (Or.inl ⟨by rfl, fun w' hb => ?_⟩) ?_
      rotate_left
      · have kf := KF w' hb
        go_simp
        with_reducible rfl
      simp only [Act.put, List.setIfInBounds_toArray, List.set_cons_zero, List.set_cons_succ]
      refine seqS_take 5 (v := ?_) rfl (by kernel_rfl) (fun _ _ _ h => h) (Or.inl ⟨by rfl, fun w' hb => ?_⟩) ?_
      rotate_left
      · have kf := KF w' hb
        go_simp
        with_reducible rfl
      simp only [Act.put, List.setIfInBounds_toArray, List.set_cons_zero, List.set_cons_succ]
      refine seqS_do 6 rfl (by kernel_rfl) (fun K hK => ?_)
      go_simp
      refine hK.out (Off mb w3.drew) _ _ (fun _ h => h) (off_setBlock mb w3.drew _) ?_
      clear hK K
      simp only [List.set_cons_zero, List.set_cons_succ]
      refine seqS_end (by kernel_rfl) (fun hEnd => ?_)
      clear hu KF
      go_wp2_with fail
      go_ret2
      refine ⟨HO3.out.trans ?_, .inr ⟨j, hj, HN.out, .inr ⟨by rw [HY.out]; exact hlt, rfl, HM4.out.set hj HN.out p⟩⟩⟩
      exact Off.trans (b := w3.drew) ⟨⟨rfl, rfl, rfl, Nat.le_refl _, fun _ _ => rfl⟩, fun _ _ _ => rfl⟩ (off_setBlock mb w3.drew _)
    · have hlt : lessP y p = false := by simpa using hlt
      rw [hlt]
      go_wp2_with fail
      go_ret2
      exact ⟨HO3.out, .inr ⟨j, hj, HN.out, .inl ⟨by rw [HY.out]; exact hlt, rfl, HM3.out⟩⟩⟩

end Go.Proofs.Ytbpajfjeakffkaa

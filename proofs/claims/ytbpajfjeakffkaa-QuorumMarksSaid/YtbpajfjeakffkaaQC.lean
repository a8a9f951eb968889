/- The reference's Least. -/
import Derived.Test.YtbpajfjeakffkaaQB
namespace Go.Proofs.Ytbpajfjeakffkaa
open Go.RowKit Go.Sort

def rbest (l : List Pl) (kk : Int) : Nat → Int
  | 0 => -1
  | n + 1 => if kk ≤ (haveN l (l.getD n (0, 0)) : Int) ∧ (rbest l kk n < 0 ∨ uptoP (l.getD (rbest l kk n).toNat (0, 0)) (l.getD n (0, 0)) = true) then (n : Int) else rbest l kk n
def rbs (l : List Pl) (kk : Int) (n : Nat) : Int := rbest l kk n
theorem rbs_bd (l : List Pl) (kk : Int) (n : Nat) : -1 ≤ rbs l kk n ∧ rbs l kk n < (n : Int) := by
  unfold rbs
  induction n with
  | zero => unfold rbest; omega
  | succ n ih =>
    unfold rbest
    split <;> omega
def rleast (l : List Pl) (kk : Int) : Option Pl := if kk < 1 then none else if rbs l kk l.length < 0 then none else some (l.getD (rbs l kk l.length).toNat (0, 0))
def optV : Option Pl → Value
  | some p => .tuple #[pv p, .bool true]
  | none => .tuple #[pv (0, 0), .bool false]
theorem info26 : (Try.prog.info? 26).map (·.size) = some 2 := by kernel_rfl
theorem two_one (a b : Int) : (#[.int .u64 a, .int .u64 b] : Array Value).all (·.oneCell') = true := by
  refine all_oneCell_toArray (cs := [_, _]) ?_
  intro v hv
  simp only [List.mem_cons, List.not_mem_nil, or_false] at hv
  rcases hv with rfl | rfl <;> rfl
theorem res45 (fn : Func) (hr : fn.results = #[.cell 4 26, .tmp 5]) (tmps : Array Value) (w : World) (g : Nat) (v y : Value) (h4 : tmps[4]?.getD undef = .pointer (some ⟨g, 0, none⟩)) (h5 : tmps[5]?.getD undef = y) (hl : (loadVar 26 ⟨g, 0, none⟩).run Try.prog w = .ok v w) :
    (results fn tmps).run Try.prog w = .ok (.tuple #[v, y]) w := by
  simp [results, hr, asAddr, h4, h5, hl]
theorem load_set (w : World) (g : Nat) (old : Array Value) (x y : Int) (h : w.heap[g]? = some (.cells old 26 (0, 0))) : (loadVar 26 ⟨g, 0, none⟩).run Try.prog (w.setRow g #[.int .u64 x, .int .u64 y]) = .ok (.agg #[.int .u64 x, .int .u64 y]) (w.setRow g #[.int .u64 x, .int .u64 y]) :=
  run_loadVar_row _ _ 26 26 _ (0, 0) _ (setRow_heap _ _ _ _ _ _ h) Try.underlying26 rfl (by rw [info26]; rfl)

theorem below_alloc' (w : World) : Below w.heap.size w (w.alloc (.cells #[.int .u64 0, .int .u64 0] 26)) := (Below.refl _ _).alloc (Nat.le_refl _) _
set_option maxHeartbeats 3200000 in
theorem rleast23 (kk : Int) (a : Option Addr) (c : Nat) (l : List Pl) (w : World) (h : Ps w a l) (hl : l.length ≤ 9223372036854775807) :
    Calls Try.prog 23 #[.int .i64 kk, .slice a l.length c] w fun e w' => e = .returned (optV (rleast l kk)) ∧ Below w.heap.size w w' := by
  have hR : Hid (kk < 1 → rleast l kk = none) := fun h => by unfold rleast; rw [if_pos h]
  have hR2 : Hid (1 ≤ kk → rleast l kk = if rbs l kk l.length < 0 then none else some (l.getD (rbs l kk l.length).toNat (0, 0))) := fun h => by unfold rleast; rw [if_neg (by omega)]
  go_enter Try.func23, Try.ntmps23
  go_wp2_with fail
  obtain ⟨W, hW⟩ : ∃ W, w.alloc (.cells #[.int .u64 0, .int .u64 0] 26) = W := ⟨_, rfl⟩
  have hWz : W.heap[w.heap.size]? = some (.cells #[.int .u64 0, .int .u64 0] 26 (0, 0)) := by rw [← hW]; exact heap_alloc_new _ _
  have hWG : Gr w W := by rw [← hW]; exact (Gr.refl _).alloc _
  have HW := Lib.hid hW
  rw [hW]
  clear hW
  have hsz : w.heap.size < W.heap.size := (Array.getElem?_eq_some_iff.1 hWz).1
  have HZ := Lib.hid (fun w' (h : Gr W w') => (h.below.block _ hsz).trans hWz)
  clear hWz
  go_loopw [6, 7] (fun v6 i wr => ∃ k : Nat, k ≤ l.length ∧ i = .int .i64 k ∧ v6 = .int .i64 (rbs l kk k) ∧ (kk < 1 → k = 0) ∧ Gr W wr) (fun _ i _ => l.length - (intOf i).toNat)
  case atStart => exact ⟨0, by omega, rfl, rfl, fun _ => rfl, Gr.refl _⟩
  case round =>
    obtain ⟨k, hk, rfl, rfl, hk0, hg⟩ := hrel
    have hz0 := HZ.out wr hg
    have hAll := h.below (hWG.trans hg).below
    have hbd := rbs_bd l kk k
    by_cases hkk : kk < 1
    · obtain rfl := hk0 hkk
      have hrb : rbs l kk 0 = -1 := rfl
      have hkd : decide ((1 : Int) ≤ kk) = false := decide_eq_false (by omega)
      have hr := Lib.hid (hR.out hkk)
      rw [hrb]
      clear hrb hk0 hbd
      by_cases hlt : 0 < l.length
      all_goals
        go_wp2_with (refine wpList_store_row rfl 26 (.tmp 4) (.tmp 44) rfl w.heap.size #[.int .u64 0, .int .u64 0] rfl rfl 26 #[.int .u64 0, .int .u64 0] hz0 (by rw [info26]; rfl) rfl (two_one _ _) ?_)
        refine bodyPost_ret (v := .tuple #[.agg #[.int .u64 0, .int .u64 0], .bool false]) (by exact res45 _ rfl _ _ w.heap.size _ _ rfl rfl (load_set _ _ _ _ _ hz0)) (by rfl) ⟨?_, ?_⟩
        · rw [hr.out]; rfl
        · exact below_setRow (hWG.below.trans (hg.below.mono (by omega))) (Nat.le_refl _) _
    · have hkd : decide ((1 : Int) ≤ kk) = true := decide_eq_true (by omega)
      have hr := Lib.hid (hR2.out (by omega))
      clear hk0
      by_cases hlt : k < l.length
      · obtain ⟨b1, o1, rfl⟩ := h.ex hlt
        obtain ⟨c1, c2⟩ := hAll.cell b1 o1 rfl k hlt
        have HB : Hid (rbs l kk (k + 1) = if kk ≤ (haveN l (l.getD k (0, 0)) : Int) ∧ (rbs l kk k < 0 ∨ uptoP (l.getD (rbs l kk k).toNat (0, 0)) (l.getD k (0, 0)) = true) then (k : Int) else rbs l kk k) := rfl
        rw [getD_at l k hlt] at HB
        obtain ⟨x, hx⟩ : ∃ x, l[k] = x := ⟨_, rfl⟩
        rw [hx] at c1 c2 HB
        clear hx
        have PH := Lib.hid (fun w h => have27 (some ⟨b1, o1, none⟩) c l x w h hl)
        obtain ⟨q, hq⟩ : ∃ q, haveN l x = q := ⟨_, rfl⟩
        rw [hq] at PH HB
        clear hq
        by_cases hen : kk ≤ (q : Int)
        · have hed : decide (kk ≤ (q : Int)) = true := decide_eq_true hen
          by_cases hneg : rbs l kk k < 0
          · have hz : decide (rbs l kk k < 0) = true := decide_eq_true hneg
            rw [if_pos ⟨hen, .inl hneg⟩] at HB
            obtain ⟨bb, hbb⟩ : ∃ bb, rbs l kk k = bb := ⟨_, rfl⟩
            rw [hbb] at hz hbd hneg ⊢
            clear hbb
            go_wp2_with fail
            have KF : ∀ w', Gr wr.drew w' → w'.cell? ⟨b1, o1 + k * 2, none⟩ = some (.int .u64 (x.1 : Int)) ∧ w'.cell? ⟨b1, o1 + k * 2 + 1, none⟩ = some (.int .u64 (x.2 : Int)) := fun w' h => ⟨Below.cellSome h.below c1, Below.cellSome h.below c2⟩
            refine seqS_start (Gr wr.drew) 23 [false, false, false, false, false, false, false, false, false, false, false, false, false, false, false, false, false, false, false, false, false, false, false] (by kernel_rfl) rfl rfl (Gr.refl _) ?_
            refine seqS_take 0 (v := ?_) rfl (by kernel_rfl) (fun _ _ _ h => h) (Or.inl ⟨by rfl, fun w' hb => ?_⟩) ?_
            rotate_left
            · have kf := KF w' hb
              go_simp
              with_reducible rfl
            simp only [Act.put, List.setIfInBounds_toArray, List.set_cons_zero, List.set_cons_succ]
            refine seqS_take 1 (v := ?_) rfl (by kernel_rfl) (fun _ _ _ h => h) (Or.inl ⟨by rfl, fun w' hb => ?_⟩) ?_
            rotate_left
            · have kf := KF w' hb
              go_simp
              with_reducible rfl
            simp only [Act.put, List.setIfInBounds_toArray, List.set_cons_zero, List.set_cons_succ]
            refine seqS_take 2 (v := ?_) rfl (by kernel_rfl) (fun _ _ _ h => h) (Or.inl ⟨by rfl, fun w' hb => ?_⟩) ?_
            rotate_left
            · have kf := KF w' hb
              go_simp
              with_reducible rfl
            simp only [Act.put, List.setIfInBounds_toArray, List.set_cons_zero, List.set_cons_succ]
            refine seqS_take 3 (v := ?_) rfl (by kernel_rfl) (fun _ _ _ h => h) (Or.inl ⟨by rfl, fun w' hb => ?_⟩) ?_
            rotate_left
            · have kf := KF w' hb
              go_simp
              with_reducible rfl
            simp only [Act.put, List.setIfInBounds_toArray, List.set_cons_zero, List.set_cons_succ]
            refine seqS_take 4 (v := ?_) rfl (by kernel_rfl) (fun _ _ _ h => h) (Or.inl ⟨by rfl, fun w' hb => ?_⟩) ?_
            rotate_left
            · have kf := KF w' hb
              go_simp
              with_reducible rfl
            simp only [Act.put, List.setIfInBounds_toArray, List.set_cons_zero, List.set_cons_succ]
            refine seqS_take 6 (v := ?_) rfl (by kernel_rfl) (fun _ _ _ h => h) (Or.inl ⟨by rfl, fun w' hb => ?_⟩) ?_
            rotate_left
            · have kf := KF w' hb
              go_simp
              with_reducible rfl
            simp only [Act.put, List.setIfInBounds_toArray, List.set_cons_zero, List.set_cons_succ]
            refine seqS_do 5 rfl (by kernel_rfl) (fun K hK => ?_)
            go_simp
            refine (PH.out _ (hAll.below (Gr.refl wr).drew.below)).mono ?_
            rintro e w1 ⟨rfl, hg1⟩
            refine hK.out (Gr wr.drew) _ _ (fun _ h => h) hg1 ?_
            clear hK K
            simp only [List.set_cons_zero, List.set_cons_succ]
            refine seqS_take 7 (v := ?_) rfl (by kernel_rfl) (fun _ _ _ h => h) (Or.inl ⟨by rfl, fun w' hb => ?_⟩) ?_
            rotate_left
            · have kf := KF w' hb
              go_simp
              with_reducible rfl
            simp only [Act.put, List.setIfInBounds_toArray, List.set_cons_zero, List.set_cons_succ]
            refine seqS_take 8 (v := ?_) rfl (by kernel_rfl) (fun _ _ _ h => h) (Or.inl ⟨by rfl, fun w' hb => ?_⟩) ?_
            rotate_left
            · have kf := KF w' hb
              go_simp
              with_reducible rfl
            simp only [Act.put, List.setIfInBounds_toArray, List.set_cons_zero, List.set_cons_succ]
            refine seqS_take 9 (v := ?_) rfl (by kernel_rfl) (fun _ _ _ h => h) (Or.inl ⟨by rfl, fun w' hb => ?_⟩) ?_
            rotate_left
            · have kf := KF w' hb
              go_simp
              with_reducible rfl
            simp only [Act.put, List.setIfInBounds_toArray, List.set_cons_zero, List.set_cons_succ]
            refine seqS_take 10 (v := ?_) rfl (by kernel_rfl) (fun _ _ _ h => h) (Or.inl ⟨by rfl, fun w' hb => ?_⟩) ?_
            rotate_left
            · have kf := KF w' hb
              go_simp
              with_reducible rfl
            simp only [Act.put, List.setIfInBounds_toArray, List.set_cons_zero, List.set_cons_succ]
            refine seqS_take 11 (v := ?_) rfl (by kernel_rfl) (fun _ _ _ h => h) (Or.inl ⟨by rfl, fun w' hb => ?_⟩) ?_
            rotate_left
            · have kf := KF w' hb
              go_simp
              with_reducible rfl
            simp only [Act.put, List.setIfInBounds_toArray, List.set_cons_zero, List.set_cons_succ]
            refine seqS_take 12 (v := undef) rfl (by kernel_rfl) (fun _ _ _ h => h) (Or.inr ⟨by rfl, rfl⟩) ?_
            simp only [Act.put, List.setIfInBounds_toArray, List.set_cons_zero, List.set_cons_succ]
            refine seqS_take 13 (v := undef) rfl (by kernel_rfl) (fun _ _ _ h => h) (Or.inr ⟨by rfl, rfl⟩) ?_
            simp only [Act.put, List.setIfInBounds_toArray, List.set_cons_zero, List.set_cons_succ]
            refine seqS_take 14 (v := undef) rfl (by kernel_rfl) (fun _ _ _ h => h) (Or.inr ⟨by rfl, rfl⟩) ?_
            simp only [Act.put, List.setIfInBounds_toArray, List.set_cons_zero, List.set_cons_succ]
            refine seqS_take 15 (v := undef) rfl (by kernel_rfl) (fun _ _ _ h => h) (Or.inr ⟨by rfl, rfl⟩) ?_
            simp only [Act.put, List.setIfInBounds_toArray, List.set_cons_zero, List.set_cons_succ]
            refine seqS_take 16 (v := undef) rfl (by kernel_rfl) (fun _ _ _ h => h) (Or.inr ⟨by rfl, rfl⟩) ?_
            simp only [Act.put, List.setIfInBounds_toArray, List.set_cons_zero, List.set_cons_succ]
            refine seqS_take 17 (v := undef) rfl (by kernel_rfl) (fun _ _ _ h => h) (Or.inr ⟨by rfl, rfl⟩) ?_
            simp only [Act.put, List.setIfInBounds_toArray, List.set_cons_zero, List.set_cons_succ]
            refine seqS_take 18 (v := undef) rfl (by kernel_rfl) (fun _ _ _ h => h) (Or.inr ⟨by rfl, rfl⟩) ?_
            simp only [Act.put, List.setIfInBounds_toArray, List.set_cons_zero, List.set_cons_succ]
            refine seqS_take 19 (v := undef) rfl (by kernel_rfl) (fun _ _ _ h => h) (Or.inr ⟨by rfl, rfl⟩) ?_
            simp only [Act.put, List.setIfInBounds_toArray, List.set_cons_zero, List.set_cons_succ]
            refine seqS_take 20 (v := undef) rfl (by kernel_rfl) (fun _ _ _ h => h) (Or.inr ⟨by rfl, rfl⟩) ?_
            simp only [Act.put, List.setIfInBounds_toArray, List.set_cons_zero, List.set_cons_succ]
            refine seqS_take 21 (v := ?_) rfl (by kernel_rfl) (fun _ _ _ h => h) (Or.inl ⟨by rfl, fun w' hb => ?_⟩) ?_
            rotate_left
            · have kf := KF w' hb
              go_simp
              with_reducible rfl
            simp only [Act.put, List.setIfInBounds_toArray, List.set_cons_zero, List.set_cons_succ]
            refine seqS_take 22 (v := ?_) rfl (by kernel_rfl) (fun _ _ _ h => h) (Or.inl ⟨by rfl, fun w' hb => ?_⟩) ?_
            rotate_left
            · have kf := KF w' hb
              go_simp
              with_reducible rfl
            simp only [Act.put, List.setIfInBounds_toArray, List.set_cons_zero, List.set_cons_succ]
            refine seqS_end (by kernel_rfl) (fun hEnd => ?_)
            go_wp2_with fail
            go_roundw
            case rel => exact ⟨k + 1, by omega, by go_num, by rw [HB.out], fun h => by omega, hg.trans ((Gr.refl _).drew.trans hg1)⟩
            case measure => simp [intOf]; omega
          · obtain ⟨m, hm⟩ : ∃ m : Nat, rbs l kk k = (m : Int) := ⟨(rbs l kk k).toNat, by omega⟩
            have hml : m < l.length := by omega
            rw [hm] at HB ⊢
            rw [Int.toNat_natCast, getD_at l m hml] at HB
            clear hneg hbd hm
            have hz : decide ((m : Int) < 0) = false := decide_eq_false (by omega)
            obtain ⟨d1, d2⟩ := hAll.cell b1 o1 rfl m hml
            obtain ⟨y, hy⟩ : ∃ y, l[m] = y := ⟨_, rfl⟩
            rw [hy] at d1 d2 HB
            clear hy
            have PU := Lib.hid (fun w => upto26 y x w)
            have KF0 : ∀ w', Gr wr.drew w' → (w'.cell? ⟨b1, o1 + k * 2, none⟩ = some (.int .u64 (x.1 : Int)) ∧ w'.cell? ⟨b1, o1 + k * 2 + 1, none⟩ = some (.int .u64 (x.2 : Int))) ∧ (w'.cell? ⟨b1, o1 + m * 2, none⟩ = some (.int .u64 (y.1 : Int)) ∧ w'.cell? ⟨b1, o1 + m * 2 + 1, none⟩ = some (.int .u64 (y.2 : Int))) := fun w' h => ⟨⟨Below.cellSome h.below c1, Below.cellSome h.below c2⟩, Below.cellSome h.below d1, Below.cellSome h.below d2⟩
            have HKF := Lib.hid KF0
            clear KF0
            go_wp2_with fail
            have KF := HKF.out
            refine seqS_start (Gr wr.drew) 23 [false, false, false, false, false, false, false, false, false, false, false, false, false, false, false, false, false, false, false, false, false, false, false] (by kernel_rfl) rfl rfl (Gr.refl _) ?_
            refine seqS_take 0 (v := ?_) rfl (by kernel_rfl) (fun _ _ _ h => h) (Or.inl ⟨by rfl, fun w' hb => ?_⟩) ?_
            rotate_left
            · have kf := KF w' hb
              go_simp
              with_reducible rfl
            simp only [Act.put, List.setIfInBounds_toArray, List.set_cons_zero, List.set_cons_succ]
            refine seqS_take 1 (v := ?_) rfl (by kernel_rfl) (fun _ _ _ h => h) (Or.inl ⟨by rfl, fun w' hb => ?_⟩) ?_
            rotate_left
            · have kf := KF w' hb
              go_simp
              with_reducible rfl
            simp only [Act.put, List.setIfInBounds_toArray, List.set_cons_zero, List.set_cons_succ]
            refine seqS_take 2 (v := ?_) rfl (by kernel_rfl) (fun _ _ _ h => h) (Or.inl ⟨by rfl, fun w' hb => ?_⟩) ?_
            rotate_left
            · have kf := KF w' hb
              go_simp
              with_reducible rfl
            simp only [Act.put, List.setIfInBounds_toArray, List.set_cons_zero, List.set_cons_succ]
            refine seqS_take 3 (v := ?_) rfl (by kernel_rfl) (fun _ _ _ h => h) (Or.inl ⟨by rfl, fun w' hb => ?_⟩) ?_
            rotate_left
            · have kf := KF w' hb
              go_simp
              with_reducible rfl
            simp only [Act.put, List.setIfInBounds_toArray, List.set_cons_zero, List.set_cons_succ]
            refine seqS_take 4 (v := ?_) rfl (by kernel_rfl) (fun _ _ _ h => h) (Or.inl ⟨by rfl, fun w' hb => ?_⟩) ?_
            rotate_left
            · have kf := KF w' hb
              go_simp
              with_reducible rfl
            simp only [Act.put, List.setIfInBounds_toArray, List.set_cons_zero, List.set_cons_succ]
            refine seqS_take 6 (v := ?_) rfl (by kernel_rfl) (fun _ _ _ h => h) (Or.inl ⟨by rfl, fun w' hb => ?_⟩) ?_
            rotate_left
            · have kf := KF w' hb
              go_simp
              with_reducible rfl
            simp only [Act.put, List.setIfInBounds_toArray, List.set_cons_zero, List.set_cons_succ]
            refine seqS_do 5 rfl (by kernel_rfl) (fun K hK => ?_)
            go_simp
            refine (PH.out _ (hAll.below (Gr.refl wr).drew.below)).mono ?_
            rintro e w1 ⟨rfl, hg1⟩
            refine hK.out (Gr wr.drew) _ _ (fun _ h => h) hg1 ?_
            clear hK K
            simp only [List.set_cons_zero, List.set_cons_succ]
            refine seqS_take 7 (v := ?_) rfl (by kernel_rfl) (fun _ _ _ h => h) (Or.inl ⟨by rfl, fun w' hb => ?_⟩) ?_
            rotate_left
            · have kf := KF w' hb
              go_simp
              with_reducible rfl
            simp only [Act.put, List.setIfInBounds_toArray, List.set_cons_zero, List.set_cons_succ]
            refine seqS_take 8 (v := ?_) rfl (by kernel_rfl) (fun _ _ _ h => h) (Or.inl ⟨by rfl, fun w' hb => ?_⟩) ?_
            rotate_left
            · have kf := KF w' hb
              go_simp
              with_reducible rfl
            simp only [Act.put, List.setIfInBounds_toArray, List.set_cons_zero, List.set_cons_succ]
            refine seqS_take 9 (v := ?_) rfl (by kernel_rfl) (fun _ _ _ h => h) (Or.inl ⟨by rfl, fun w' hb => ?_⟩) ?_
            rotate_left
            · have kf := KF w' hb
              go_simp
              with_reducible rfl
            simp only [Act.put, List.setIfInBounds_toArray, List.set_cons_zero, List.set_cons_succ]
            refine seqS_take 10 (v := ?_) rfl (by kernel_rfl) (fun _ _ _ h => h) (Or.inl ⟨by rfl, fun w' hb => ?_⟩) ?_
            rotate_left
            · have kf := KF w' hb
              go_simp
              with_reducible rfl
            simp only [Act.put, List.setIfInBounds_toArray, List.set_cons_zero, List.set_cons_succ]
            refine seqS_take 11 (v := ?_) rfl (by kernel_rfl) (fun _ _ _ h => h) (Or.inl ⟨by rfl, fun w' hb => ?_⟩) ?_
            rotate_left
            · have kf := KF w' hb
              go_simp
              with_reducible rfl
            simp only [Act.put, List.setIfInBounds_toArray, List.set_cons_zero, List.set_cons_succ]
            refine seqS_take 12 (v := ?_) rfl (by kernel_rfl) (fun _ _ _ h => h) (Or.inl ⟨by rfl, fun w' hb => ?_⟩) ?_
            rotate_left
            · have kf := KF w' hb
              go_simp
              with_reducible rfl
            simp only [Act.put, List.setIfInBounds_toArray, List.set_cons_zero, List.set_cons_succ]
            refine seqS_take 13 (v := ?_) rfl (by kernel_rfl) (fun _ _ _ h => h) (Or.inl ⟨by rfl, fun w' hb => ?_⟩) ?_
            rotate_left
            · have kf := KF w' hb
              go_simp
              with_reducible rfl
            simp only [Act.put, List.setIfInBounds_toArray, List.set_cons_zero, List.set_cons_succ]
            refine seqS_take 14 (v := ?_) rfl (by kernel_rfl) (fun _ _ _ h => h) (Or.inl ⟨by rfl, fun w' hb => ?_⟩) ?_
            rotate_left
            · have kf := KF w' hb
              go_simp
              with_reducible rfl
            simp only [Act.put, List.setIfInBounds_toArray, List.set_cons_zero, List.set_cons_succ]
            refine seqS_take 15 (v := ?_) rfl (by kernel_rfl) (fun _ _ _ h => h) (Or.inl ⟨by rfl, fun w' hb => ?_⟩) ?_
            rotate_left
            · have kf := KF w' hb
              go_simp
              with_reducible rfl
            simp only [Act.put, List.setIfInBounds_toArray, List.set_cons_zero, List.set_cons_succ]
            refine seqS_take 16 (v := ?_) rfl (by kernel_rfl) (fun _ _ _ h => h) (Or.inl ⟨by rfl, fun w' hb => ?_⟩) ?_
            rotate_left
            · have kf := KF w' hb
              go_simp
              with_reducible rfl
            simp only [Act.put, List.setIfInBounds_toArray, List.set_cons_zero, List.set_cons_succ]
            refine seqS_take 17 (v := ?_) rfl (by kernel_rfl) (fun _ _ _ h => h) (Or.inl ⟨by rfl, fun w' hb => ?_⟩) ?_
            rotate_left
            · have kf := KF w' hb
              go_simp
              with_reducible rfl
            simp only [Act.put, List.setIfInBounds_toArray, List.set_cons_zero, List.set_cons_succ]
            refine seqS_take 18 (v := ?_) rfl (by kernel_rfl) (fun _ _ _ h => h) (Or.inl ⟨by rfl, fun w' hb => ?_⟩) ?_
            rotate_left
            · have kf := KF w' hb
              go_simp
              with_reducible rfl
            simp only [Act.put, List.setIfInBounds_toArray, List.set_cons_zero, List.set_cons_succ]
            refine seqS_take 19 (v := ?_) rfl (by kernel_rfl) (fun _ _ _ h => h) (Or.inl ⟨by rfl, fun w' hb => ?_⟩) ?_
            rotate_left
            · have kf := KF w' hb
              go_simp
              with_reducible rfl
            simp only [Act.put, List.setIfInBounds_toArray, List.set_cons_zero, List.set_cons_succ]
            refine seqS_do 20 rfl (by kernel_rfl) (fun K hK => ?_)
            go_simp
            refine (PU.out _).mono ?_
            rintro e w2 ⟨rfl, hg2⟩
            refine hK.out (Gr wr.drew) _ _ (fun _ h => h) (hg1.trans hg2) ?_
            clear hK K
            simp only [List.set_cons_zero, List.set_cons_succ]
            refine seqS_take 21 (v := ?_) rfl (by kernel_rfl) (fun _ _ _ h => h) (Or.inl ⟨by rfl, fun w' hb => ?_⟩) ?_
            rotate_left
            · have kf := KF w' hb
              go_simp
              with_reducible rfl
            simp only [Act.put, List.setIfInBounds_toArray, List.set_cons_zero, List.set_cons_succ]
            refine seqS_take 22 (v := ?_) rfl (by kernel_rfl) (fun _ _ _ h => h) (Or.inl ⟨by rfl, fun w' hb => ?_⟩) ?_
            rotate_left
            · have kf := KF w' hb
              go_simp
              with_reducible rfl
            simp only [Act.put, List.setIfInBounds_toArray, List.set_cons_zero, List.set_cons_succ]
            refine seqS_end (by kernel_rfl) (fun hEnd => ?_)
            cases hu : uptoP y x
            · rw [hu, if_neg (fun h => h.2.elim (fun h => by omega) (fun h => by cases h))] at HB
              clear hu
              go_wp2_with fail
              go_roundw
              case rel => exact ⟨k + 1, by omega, by go_num, by rw [HB.out], fun h => by omega, hg.trans ((Gr.refl _).drew.trans (hg1.trans hg2))⟩
              case measure => simp [intOf]; omega
            · rw [hu, if_pos ⟨hen, .inr rfl⟩] at HB
              clear hu
              go_wp2_with fail
              go_roundw
              case rel => exact ⟨k + 1, by omega, by go_num, by rw [HB.out], fun h => by omega, hg.trans ((Gr.refl _).drew.trans (hg1.trans hg2))⟩
              case measure => simp [intOf]; omega
        · have hed : decide (kk ≤ (q : Int)) = false := decide_eq_false hen
          rw [if_neg (fun h => hen h.1)] at HB
          obtain ⟨bb, hbb⟩ : ∃ bb, rbs l kk k = bb := ⟨_, rfl⟩
          rw [hbb] at HB ⊢
          clear hbb hbd
          go_wp2_with fail
          have KF : ∀ w', Gr wr.drew w' → w'.cell? ⟨b1, o1 + k * 2, none⟩ = some (.int .u64 (x.1 : Int)) ∧ w'.cell? ⟨b1, o1 + k * 2 + 1, none⟩ = some (.int .u64 (x.2 : Int)) := fun w' h => ⟨Below.cellSome h.below c1, Below.cellSome h.below c2⟩
          refine seqS_start (Gr wr.drew) 23 [false, false, false, false, false, false, false, false, false, false, false, false, false, false, false, false, false, false, false, false, false, false, false] (by kernel_rfl) rfl rfl (Gr.refl _) ?_
          refine seqS_take 0 (v := ?_) rfl (by kernel_rfl) (fun _ _ _ h => h) (Or.inl ⟨by rfl, fun w' hb => ?_⟩) ?_
          rotate_left
          · have kf := KF w' hb
            go_simp
            with_reducible rfl
          simp only [Act.put, List.setIfInBounds_toArray, List.set_cons_zero, List.set_cons_succ]
          refine seqS_take 1 (v := ?_) rfl (by kernel_rfl) (fun _ _ _ h => h) (Or.inl ⟨by rfl, fun w' hb => ?_⟩) ?_
          rotate_left
          · have kf := KF w' hb
            go_simp
            with_reducible rfl
          simp only [Act.put, List.setIfInBounds_toArray, List.set_cons_zero, List.set_cons_succ]
          refine seqS_take 2 (v := ?_) rfl (by kernel_rfl) (fun _ _ _ h => h) (Or.inl ⟨by rfl, fun w' hb => ?_⟩) ?_
          rotate_left
          · have kf := KF w' hb
            go_simp
            with_reducible rfl
          simp only [Act.put, List.setIfInBounds_toArray, List.set_cons_zero, List.set_cons_succ]
          refine seqS_take 3 (v := ?_) rfl (by kernel_rfl) (fun _ _ _ h => h) (Or.inl ⟨by rfl, fun w' hb => ?_⟩) ?_
          rotate_left
          · have kf := KF w' hb
            go_simp
            with_reducible rfl
          simp only [Act.put, List.setIfInBounds_toArray, List.set_cons_zero, List.set_cons_succ]
          refine seqS_take 4 (v := ?_) rfl (by kernel_rfl) (fun _ _ _ h => h) (Or.inl ⟨by rfl, fun w' hb => ?_⟩) ?_
          rotate_left
          · have kf := KF w' hb
            go_simp
            with_reducible rfl
          simp only [Act.put, List.setIfInBounds_toArray, List.set_cons_zero, List.set_cons_succ]
          refine seqS_take 6 (v := ?_) rfl (by kernel_rfl) (fun _ _ _ h => h) (Or.inl ⟨by rfl, fun w' hb => ?_⟩) ?_
          rotate_left
          · have kf := KF w' hb
            go_simp
            with_reducible rfl
          simp only [Act.put, List.setIfInBounds_toArray, List.set_cons_zero, List.set_cons_succ]
          refine seqS_do 5 rfl (by kernel_rfl) (fun K hK => ?_)
          go_simp
          refine (PH.out _ (hAll.below (Gr.refl wr).drew.below)).mono ?_
          rintro e w1 ⟨rfl, hg1⟩
          refine hK.out (Gr wr.drew) _ _ (fun _ h => h) hg1 ?_
          clear hK K
          simp only [List.set_cons_zero, List.set_cons_succ]
          refine seqS_take 7 (v := ?_) rfl (by kernel_rfl) (fun _ _ _ h => h) (Or.inl ⟨by rfl, fun w' hb => ?_⟩) ?_
          rotate_left
          · have kf := KF w' hb
            go_simp
            with_reducible rfl
          simp only [Act.put, List.setIfInBounds_toArray, List.set_cons_zero, List.set_cons_succ]
          refine seqS_take 8 (v := ?_) rfl (by kernel_rfl) (fun _ _ _ h => h) (Or.inl ⟨by rfl, fun w' hb => ?_⟩) ?_
          rotate_left
          · have kf := KF w' hb
            go_simp
            with_reducible rfl
          simp only [Act.put, List.setIfInBounds_toArray, List.set_cons_zero, List.set_cons_succ]
          refine seqS_take 9 (v := undef) rfl (by kernel_rfl) (fun _ _ _ h => h) (Or.inr ⟨by rfl, rfl⟩) ?_
          simp only [Act.put, List.setIfInBounds_toArray, List.set_cons_zero, List.set_cons_succ]
          refine seqS_take 10 (v := undef) rfl (by kernel_rfl) (fun _ _ _ h => h) (Or.inr ⟨by rfl, rfl⟩) ?_
          simp only [Act.put, List.setIfInBounds_toArray, List.set_cons_zero, List.set_cons_succ]
          refine seqS_take 11 (v := undef) rfl (by kernel_rfl) (fun _ _ _ h => h) (Or.inr ⟨by rfl, rfl⟩) ?_
          simp only [Act.put, List.setIfInBounds_toArray, List.set_cons_zero, List.set_cons_succ]
          refine seqS_take 12 (v := undef) rfl (by kernel_rfl) (fun _ _ _ h => h) (Or.inr ⟨by rfl, rfl⟩) ?_
          simp only [Act.put, List.setIfInBounds_toArray, List.set_cons_zero, List.set_cons_succ]
          refine seqS_take 13 (v := undef) rfl (by kernel_rfl) (fun _ _ _ h => h) (Or.inr ⟨by rfl, rfl⟩) ?_
          simp only [Act.put, List.setIfInBounds_toArray, List.set_cons_zero, List.set_cons_succ]
          refine seqS_take 14 (v := undef) rfl (by kernel_rfl) (fun _ _ _ h => h) (Or.inr ⟨by rfl, rfl⟩) ?_
          simp only [Act.put, List.setIfInBounds_toArray, List.set_cons_zero, List.set_cons_succ]
          refine seqS_take 15 (v := undef) rfl (by kernel_rfl) (fun _ _ _ h => h) (Or.inr ⟨by rfl, rfl⟩) ?_
          simp only [Act.put, List.setIfInBounds_toArray, List.set_cons_zero, List.set_cons_succ]
          refine seqS_take 16 (v := undef) rfl (by kernel_rfl) (fun _ _ _ h => h) (Or.inr ⟨by rfl, rfl⟩) ?_
          simp only [Act.put, List.setIfInBounds_toArray, List.set_cons_zero, List.set_cons_succ]
          refine seqS_take 17 (v := undef) rfl (by kernel_rfl) (fun _ _ _ h => h) (Or.inr ⟨by rfl, rfl⟩) ?_
          simp only [Act.put, List.setIfInBounds_toArray, List.set_cons_zero, List.set_cons_succ]
          refine seqS_take 18 (v := undef) rfl (by kernel_rfl) (fun _ _ _ h => h) (Or.inr ⟨by rfl, rfl⟩) ?_
          simp only [Act.put, List.setIfInBounds_toArray, List.set_cons_zero, List.set_cons_succ]
          refine seqS_take 19 (v := undef) rfl (by kernel_rfl) (fun _ _ _ h => h) (Or.inr ⟨by rfl, rfl⟩) ?_
          simp only [Act.put, List.setIfInBounds_toArray, List.set_cons_zero, List.set_cons_succ]
          refine seqS_take 20 (v := undef) rfl (by kernel_rfl) (fun _ _ _ h => h) (Or.inr ⟨by rfl, rfl⟩) ?_
          simp only [Act.put, List.setIfInBounds_toArray, List.set_cons_zero, List.set_cons_succ]
          refine seqS_take 21 (v := undef) rfl (by kernel_rfl) (fun _ _ _ h => h) (Or.inr ⟨by rfl, rfl⟩) ?_
          simp only [Act.put, List.setIfInBounds_toArray, List.set_cons_zero, List.set_cons_succ]
          refine seqS_take 22 (v := ?_) rfl (by kernel_rfl) (fun _ _ _ h => h) (Or.inl ⟨by rfl, fun w' hb => ?_⟩) ?_
          rotate_left
          · have kf := KF w' hb
            go_simp
            with_reducible rfl
          simp only [Act.put, List.setIfInBounds_toArray, List.set_cons_zero, List.set_cons_succ]
          refine seqS_end (by kernel_rfl) (fun hEnd => ?_)
          go_wp2_with fail
          go_roundw
          case rel => exact ⟨k + 1, by omega, by go_num, by rw [HB.out], fun h => by omega, hg.trans ((Gr.refl _).drew.trans hg1)⟩
          case measure => simp [intOf]; omega
      · obtain rfl : k = l.length := by omega
        obtain ⟨bb, hbb⟩ : ∃ bb, rbs l kk l.length = bb := ⟨_, rfl⟩
        rw [hbb] at hr hbd ⊢
        clear hbb
        by_cases hneg : bb < 0
        · have hz : decide (bb < 0) = true := decide_eq_true hneg
          rw [if_pos hneg] at hr
          clear hneg hbd
          go_wp2_with (refine wpList_store_row rfl 26 (.tmp 4) (.tmp 44) rfl w.heap.size #[.int .u64 0, .int .u64 0] rfl rfl 26 #[.int .u64 0, .int .u64 0] hz0 (by rw [info26]; rfl) rfl (two_one _ _) ?_)
          refine bodyPost_ret (v := .tuple #[.agg #[.int .u64 0, .int .u64 0], .bool false]) (by exact res45 _ rfl _ _ w.heap.size _ _ rfl rfl (load_set _ _ _ _ _ hz0)) (by rfl) ⟨?_, ?_⟩
          · rw [hr.out]; rfl
          · exact below_setRow (hWG.below.trans (hg.below.mono (by omega))) (Nat.le_refl _) _
        · obtain ⟨m, rfl⟩ : ∃ m : Nat, bb = (m : Int) := ⟨bb.toNat, by omega⟩
          have hml : m < l.length := by omega
          have hz : decide ((m : Int) < 0) = false := decide_eq_false (by omega)
          rw [if_neg hneg, Int.toNat_natCast, getD_at l m hml] at hr
          clear hneg hbd
          obtain ⟨b1, o1, rfl⟩ := h.ex hml
          obtain ⟨d1, d2⟩ := hAll.cell b1 o1 rfl m hml
          obtain ⟨y, hy⟩ : ∃ y, l[m] = y := ⟨_, rfl⟩
          rw [hy] at d1 d2 hr
          clear hy
          go_wp2_with (refine wpList_store_row rfl 26 (.tmp 4) (.tmp 48) rfl w.heap.size #[.int .u64 (y.1 : Int), .int .u64 (y.2 : Int)] rfl rfl 26 #[.int .u64 0, .int .u64 0] hz0 (by rw [info26]; rfl) rfl (two_one _ _) ?_)
          refine bodyPost_ret (v := .tuple #[.agg #[.int .u64 (y.1 : Int), .int .u64 (y.2 : Int)], .bool true]) (by exact res45 _ rfl _ _ w.heap.size _ _ rfl rfl (load_set _ _ _ _ _ hz0)) (by rfl) ⟨?_, ?_⟩
          · rw [hr.out]; rfl
          · exact below_setRow (hWG.below.trans (hg.below.mono (by omega))) (Nat.le_refl _) _

end Go.Proofs.Ytbpajfjeakffkaa

/- The reference's marks. -/
import Derived.Test.YtbpajfjeakffkaaQT
import Derived.Test.YtbpajfjeakffkaaQV
import Derived.Test.YtbpajfjeakffkaaQM
namespace Go.Proofs.Ytbpajfjeakffkaa
open Go.RowKit Go.Sort Go.Shelf
attribute [local go_sem] Oper.semAt_some

def bls (l : List Bool) : List Value := l.map fun x => .bool x
/-- the reference's marks: five places, five flags -/
structure RM (w : World) (rb : Nat) (s : List Pl) (f : List Bool) : Prop where
  blk : w.heap[rb]? = some (.cells (pcs s ++ bls f).toArray 69 (0, 0))
  ls : s.length = 5
  lf : f.length = 5
theorem RM.lt {w : World} {rb : Nat} {s : List Pl} {f : List Bool} (h : RM w rb s f) : rb < w.heap.size := (Array.getElem?_eq_some_iff.1 h.blk).1
theorem RM.kept {w w' : World} {rb : Nat} {s : List Pl} {f : List Bool} (h : RM w rb s f) (hb : w'.heap[rb]? = w.heap[rb]?) : RM w' rb s f := ⟨hb.trans h.blk, h.ls, h.lf⟩
theorem RM.below {w w' : World} {rb : Nat} {s : List Pl} {f : List Bool} (h : RM w rb s f) (hb : RowKit.Below w.heap.size w w') : RM w' rb s f := h.kept (hb.block _ h.lt)
theorem RM.place {w : World} {rb : Nat} {s : List Pl} {f : List Bool} (h : RM w rb s f) (i : Nat) (hi : i < s.length) : w.cell? ⟨rb, i * 2, none⟩ = some (.int .u64 (s[i].1 : Int)) ∧ w.cell? ⟨rb, i * 2 + 1, none⟩ = some (.int .u64 (s[i].2 : Int)) := by
  obtain ⟨p1, p2⟩ := pcs_get s i hi
  rw [cell_of_row _ _ _ _ _ _ h.blk, cell_of_row _ _ _ _ _ _ h.blk]
  have hl := pcs_len s
  refine ⟨?_, ?_⟩
  · rw [List.getElem?_toArray, List.getElem?_append_left (by omega)]; exact p1
  · rw [List.getElem?_toArray, List.getElem?_append_left (by omega)]; exact p2
theorem RM.flag {w : World} {rb : Nat} {s : List Pl} {f : List Bool} (h : RM w rb s f) (i : Nat) (hi : i < f.length) : w.cell? ⟨rb, 10 + i, none⟩ = some (.bool f[i]) := by
  rw [cell_of_row _ _ _ _ _ _ h.blk]
  have hl := pcs_len s
  have h5 := h.ls
  rw [List.getElem?_toArray, List.getElem?_append_right (by omega), show 10 + i - (pcs s).length = i by omega]
  simp [bls, hi]
theorem RM.setFlag {w : World} {rb : Nat} {s : List Pl} {f : List Bool} (h : RM w rb s f) (i : Nat) (hi : i < 5) : RM (w.setCell ⟨rb, 10 + i, none⟩ (.bool true)) rb s (f.set i true) := by
  refine ⟨?_, h.ls, by rw [List.length_set]; exact h.lf⟩
  rw [setCell_eq]
  show (w.heap.modify rb (onCells _))[rb]? = _
  rw [Array.getElem?_modify, if_pos rfl, h.blk]
  have hl := pcs_len s
  have h5 := h.ls
  have e : bls (f.set i true) = (bls f).set i (.bool true) := by simp [bls, List.map_set]
  rw [e]
  simp only [onCells, Option.map_some, List.setIfInBounds_toArray]
  rw [List.set_append_right (10 + i) _ (by omega), show 10 + i - (pcs s).length = i by omega]
theorem RM.setPlace {w : World} {rb : Nat} {s : List Pl} {f : List Bool} (h : RM w rb s f) (i : Nat) (hi : i < 5) (p : Pl) : RM (w.setCells rb (i * 2) [.int .u64 (p.1 : Int), .int .u64 (p.2 : Int)]) rb (s.set i p) f := by
  refine ⟨?_, by rw [List.length_set]; exact h.ls, h.lf⟩
  show ((w.setCell ⟨rb, i * 2, none⟩ _).setCell ⟨rb, i * 2 + 1, none⟩ _).heap[rb]? = _
  rw [setCell_eq, setCell_eq, mapBlock_mapBlock]
  show (w.heap.modify rb (onCells _))[rb]? = _
  have hl := pcs_len s
  have h5 := h.ls
  rw [Array.getElem?_modify, if_pos rfl, h.blk, pcs_set s i (by omega) p]
  simp only [onCells, Option.map_some, List.setIfInBounds_toArray]
  rw [List.set_append_left (i * 2) _ (by omega), List.set_append_left (i * 2 + 1) _ (by rw [List.length_set]; omega)]
theorem RM.there {w : World} {rb : Nat} {s : List Pl} {f : List Bool} (h : RM w rb s f) (i : Nat) (hi : i < 5) : w.there rb (i * 2) 2 := by
  intro j hj
  obtain ⟨c1, c2⟩ := h.place i (by rw [h.ls]; exact hi)
  refine ⟨?_, frozen_of_row _ _ _ _ _ h.blk⟩
  obtain rfl | rfl : j = 0 ∨ j = 1 := by omega
  · rw [Nat.add_zero, c1]; rfl
  · rw [c2]; rfl
theorem off_set1 (w : World) (B o : Nat) (v : Value) : Off B w (w.setCell ⟨B, o, none⟩ v) := by
  rw [setCell_eq]
  refine ⟨⟨rfl, rfl, rfl, by simp [mapBlock], fun j hj => ?_⟩, fun j _ hn => ?_⟩
  · show (w.heap.modify B _)[j]? = _
    rw [Array.getElem?_modify, if_neg (by omega)]
  · show (w.heap.modify B _)[j]? = _
    rw [Array.getElem?_modify, if_neg (Ne.symm hn)]
theorem off_set2 (w : World) (B o : Nat) (u v : Value) : Off B w (w.setCells B o [u, v]) :=
  (off_set1 w B o u).trans (off_set1 _ B (o + 1) v)

/-- the flags of these members -/
def flagsOf (l : List Int) : List Bool := (List.range 5).map fun (i : Nat) => decide (((i : Int) + 1) ∈ l)
theorem flagsOf_len (l : List Int) : (flagsOf l).length = 5 := by simp [flagsOf]
theorem flagsOf_get (l : List Int) (i : Nat) (h : i < (flagsOf l).length) : (flagsOf l)[i] = decide (((i : Int) + 1) ∈ l) := by simp [flagsOf]
theorem flagsOf_snoc (l : List Int) (i : Nat) (_ : i < 5) : flagsOf (l ++ [(i : Int) + 1]) = (flagsOf l).set i true := by
  apply List.ext_getElem
  · simp [flagsOf]
  · intro j h1 h2
    rw [flagsOf_get, List.getElem_set]
    by_cases hij : i = j
    · subst hij; simp
    · rw [if_neg hij, flagsOf_get]
      have : ¬ ((j : Int) + 1 = (i : Int) + 1) := by omega
      simp [this]

set_option maxRecDepth 10000 in
set_option maxHeartbeats 3200000 in
theorem rnew12 (a : Option Addr) (c : Nat) (l : List Int) (w : World) (h : Is w a l) (hm : May l) :
    Calls Try.prog 12 #[.slice a l.length c] w fun e w' => ∃ rb, w.heap.size ≤ rb ∧ e = .returned (.pointer (some ⟨rb, 0, none⟩)) ∧ RM w' rb (List.replicate 5 (0, 0)) (flagsOf l) ∧ RowKit.Below w.heap.size w w' := by
  have hl5 := hm.len
  have hpr : (pcs (List.replicate 5 (0, 0)) ++ bls (flagsOf [])).toArray = #[.int .u64 0, .int .u64 0, .int .u64 0, .int .u64 0, .int .u64 0, .int .u64 0, .int .u64 0, .int .u64 0, .int .u64 0, .int .u64 0, .bool false, .bool false, .bool false, .bool false, .bool false] := by kernel_rfl
  have hRM : RM (w.alloc (.cells (pcs (List.replicate 5 (0, 0)) ++ bls (flagsOf [])).toArray 69)) w.heap.size (List.replicate 5 (0, 0)) (flagsOf []) := ⟨heap_alloc_new _ _, rfl, rfl⟩
  rw [hpr] at hRM
  clear hpr
  have hB0 : RowKit.Below w.heap.size w (w.alloc (.cells #[.int .u64 0, .int .u64 0, .int .u64 0, .int .u64 0, .int .u64 0, .int .u64 0, .int .u64 0, .int .u64 0, .int .u64 0, .int .u64 0, .bool false, .bool false, .bool false, .bool false, .bool false] 69)) := (RowKit.Below.refl _ _).alloc (Nat.le_refl _) _
  go_enter Try.func12, Try.ntmps12
  go_wp2_with fail
  obtain ⟨rb, hrb⟩ : ∃ m, w.heap.size = m := ⟨_, rfl⟩
  rw [hrb] at hRM hB0 ⊢
  go_loopw [4] (fun i wr => ∃ k : Nat, k ≤ l.length ∧ i = .int .i64 k ∧ RM wr rb (List.replicate 5 (0, 0)) (flagsOf (l.take k)) ∧ RowKit.Below rb w wr) (fun i _ => l.length - (intOf i).toNat)
  case atStart => exact ⟨0, by omega, rfl, hRM, hB0⟩
  case round =>
    clear hRM hB0
    obtain ⟨k, hk, rfl, hR, hB⟩ := hrel
    by_cases hlt : k < l.length
    · obtain ⟨b1, o1, rfl⟩ := h.ex hlt
      have hsn := take_snocI l k hlt
      have hx5 := hm.2 l[k] (List.getElem_mem hlt)
      have hcl := (h.below (by rw [hrb]; exact hB)).cell b1 o1 rfl k hlt
      obtain ⟨i, hi⟩ : ∃ i : Nat, l[k] = (i : Int) + 1 := ⟨(l[k] - 1).toNat, by omega⟩
      rw [hi] at hcl hsn hx5
      have hi5 : i < 5 := by omega
      have HF : Hid (flagsOf (l.take (k + 1)) = (flagsOf (l.take k)).set i true) := by show _ = _; rw [hsn]; exact flagsOf_snoc _ i hi5
      have hi5' : (i : Int) < 5 := by omega
      have hbl : b1 < rb := by
        have := block_lt_of_cell (h.cell b1 o1 rfl k hlt)
        rw [← hrb]; exact this
      have hR2 := hR.kept (w' := wr.drew) rfl
      have hfl := hR2.flag i (by rw [hR2.lf]; exact hi5)
      have hfr : wr.drew.frozen? ⟨rb, 10 + i, none⟩ = false := frozen_of_row _ _ _ _ _ hR2.blk
      have hwi : IntKind.i64.wrap (i : Int) = (i : Int) := by unfold IntKind.wrap; simp [IntKind.signed, IntKind.bits]; omega
      have hsi : ((i : Int) + 1) - 1 = (i : Int) := by omega
      have KF : ∀ w', Off rb wr.drew w' → w'.cell? ⟨b1, o1 + k, none⟩ = some (.int .i64 ((i : Int) + 1)) ∧ k < l.length ∧ (i : Int) < 5 ∧ IntKind.i64.wrap (i : Int) = (i : Int) := fun w' ho => by
        have e : w'.cell? ⟨b1, o1 + k, none⟩ = wr.cell? ⟨b1, o1 + k, none⟩ := by
          have := ho.2 b1 (by exact block_lt_of_cell hcl) (by omega)
          unfold World.cell?
          rw [show w'.heap[b1]? = wr.heap[b1]? from this]
        exact ⟨e.trans hcl, hlt, hi5', hwi⟩
      clear hi hsn hx5 hm
      go_wp2_with fail
      refine seqS_start (Off rb wr.drew) 10 [false, false, false, false, false, false, false, false, false, false] (by kernel_rfl) rfl rfl (Off.refl _ _) ?_
      refine seqS_take 0 (v := ?_) rfl (by kernel_rfl) (fun _ _ _ h => h) (Or.inl ⟨by rfl, fun w' hb => ?_⟩) ?_
      rotate_left
      · have kf := KF w' hb
        go_simp
        with_reducible rfl
      simp only [Act.put, List.setIfInBounds_toArray, List.set_cons_zero, List.set_cons_succ]
      refine seqS_take 1 (v := ?_) rfl (by kernel_rfl) (fun _ _ _ h => h) (Or.inl ⟨by rfl, fun w' hb => ?_⟩) ?_
      rotate_left
      · have kf := KF w' hb
        go_simp
        with_reducible rfl
      simp only [Act.put, List.setIfInBounds_toArray, List.set_cons_zero, List.set_cons_succ]
      refine seqS_take 2 (v := ?_) rfl (by kernel_rfl) (fun _ _ _ h => h) (Or.inl ⟨by rfl, fun w' hb => ?_⟩) ?_
      rotate_left
      · have kf := KF w' hb
        go_simp
        with_reducible rfl
      simp only [Act.put, List.setIfInBounds_toArray, List.set_cons_zero, List.set_cons_succ]
      refine seqS_take 3 (v := ?_) rfl (by kernel_rfl) (fun _ _ _ h => h) (Or.inl ⟨by rfl, fun w' hb => ?_⟩) ?_
      rotate_left
      · have kf := KF w' hb
        go_simp
        with_reducible rfl
      simp only [Act.put, List.setIfInBounds_toArray, List.set_cons_zero, List.set_cons_succ]
      refine seqS_take 4 (v := ?_) rfl (by kernel_rfl) (fun _ _ _ h => h) (Or.inl ⟨by rfl, fun w' hb => ?_⟩) ?_
      rotate_left
      · have kf := KF w' hb
        go_simp
        with_reducible rfl
      simp only [Act.put, List.setIfInBounds_toArray, List.set_cons_zero, List.set_cons_succ]
      refine seqS_take 5 (v := ?_) rfl (by kernel_rfl) (fun _ _ _ h => h) (Or.inl ⟨by rfl, fun w' hb => ?_⟩) ?_
      rotate_left
      · have kf := KF w' hb
        go_simp
        with_reducible rfl
      simp only [Act.put, List.setIfInBounds_toArray, List.set_cons_zero, List.set_cons_succ]
      refine seqS_take 6 (v := ?_) rfl (by kernel_rfl) (fun _ _ _ h => h) (Or.inl ⟨by rfl, fun w' hb => ?_⟩) ?_
      rotate_left
      · have kf := KF w' hb
        go_simp
        with_reducible rfl
      simp only [Act.put, List.setIfInBounds_toArray, List.set_cons_zero, List.set_cons_succ]
      refine seqS_take 7 (v := ?_) rfl (by kernel_rfl) (fun _ _ _ h => h) (Or.inl ⟨by rfl, fun w' hb => ?_⟩) ?_
      rotate_left
      · have kf := KF w' hb
        go_simp
        with_reducible rfl
      simp only [Act.put, List.setIfInBounds_toArray, List.set_cons_zero, List.set_cons_succ]
      refine seqS_take 8 (v := ?_) rfl (by kernel_rfl) (fun _ _ _ h => h) (Or.inl ⟨by rfl, fun w' hb => ?_⟩) ?_
      rotate_left
      · have kf := KF w' hb
        go_simp
        with_reducible rfl
      simp only [Act.put, List.setIfInBounds_toArray, List.set_cons_zero, List.set_cons_succ]
      refine seqS_do 9 rfl (by kernel_rfl) (fun K hK => ?_)
      go_simp
      refine hK.out (Off rb wr.drew) _ _ (fun _ h => h) (off_set1 wr.drew rb (10 + i) _) ?_
      clear hK K
      simp only [List.set_cons_zero, List.set_cons_succ]
      refine seqS_end (by kernel_rfl) (fun hEnd => ?_)
      have hR3 := hR2.setFlag i hi5
      have hB3 : RowKit.Below rb w (wr.drew.setCell ⟨rb, 10 + i, none⟩ (.bool true)) := (hB.trans (RowKit.Below.mono (Gr.refl wr).drew.below (by rw [← hrb] at *; exact hB.size))).trans (off_set1 _ _ _ _).1
      clear KF
      go_wp2_with fail
      go_roundw
      case rel => exact ⟨k + 1, by omega, by go_num, by rw [HF.out]; exact hR3, hB3⟩
      case measure => simp [intOf]; omega
    · obtain rfl : k = l.length := by omega
      rw [List.take_of_length_le (Nat.le_refl _)] at hR
      go_wp2_with fail
      go_ret
      exact ⟨rb, by omega, rfl, hR, by rw [hrb]; exact hB⟩

end Go.Proofs.Ytbpajfjeakffkaa

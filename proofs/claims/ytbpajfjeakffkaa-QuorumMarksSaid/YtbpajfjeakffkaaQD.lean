/- The library's Values and Collect, at slices of places. -/
import Derived.Test.YtbpajfjeakffkaaQC
import Derived.RangeFuncNested
import Derived.RangeFuncBound
import Derived.RangeFuncCalls
import Derived.RangeFuncLeaves
import Derived.RangeFuncBox
import Derived.Shelf.Abstract
import Derived.Shelf.RegionOpen
import Derived.OwnWalkIn
import Derived.TacticsInMore
import Derived.LoopNIn
import Derived.LoopIn
import Derived.Maps.AppendAt
namespace Go.Proofs.Ytbpajfjeakffkaa
open Go.RowKit Go.Sort Go.Shelf
attribute [local go_sem] Oper.semAt_some

theorem values40 (a : Option Addr) (len cap : Nat) (w : World) : Calls Try.prog 40 #[.slice a len cap] w fun e w' => e = .returned (.func (.func 51) #[] #[.pointer (some ⟨w.heap.size, 0, none⟩)]) ∧ w' = w.alloc (.cells #[.slice a len cap] 53) := by
  go_enter Try.func40, Try.ntmps40
  go_wp2
  go_ret
  exact ⟨rfl, rfl⟩
set_option maxRecDepth 100000 in
set_option maxHeartbeats 4000000 in
theorem values51_in (F : Fence) (n : Nat) (h51 : F.fn 51) (hro : F.round = none) (hn : 1 ≤ n) (l Bs n₀ : Nat) (a : Option Addr) (cap : Nat) (L : List Pl) (hreach : L.length ≤ 1000000000) (J Jx : List Pl → World → Prop) (W : World) (hn0 : n₀ ≤ W.heap.size) (hJ : AbidesFrom W.heap.size J)
    (hY : ∀ pre x W, J pre W → pre.length < L.length → YieldAt F (n - 1) Try.prog l #[pv x] W fun e W' =>
      (e = .returned (.bool true) ∧ J (pre ++ [x]) W' ∧ Below n₀ W W') ∨ (e = .returned (.bool false) ∧ Jx (pre ++ [x]) W'))
    (hBs : W.cell? ⟨Bs, 0, none⟩ = some (.slice a L.length cap)) (hL : ∀ w', Below n₀ W w' → Ps w' a L) (h0 : J [] W) :
    CallsIn F n Try.prog 51 #[.func (.yield l) #[] #[], .pointer (some ⟨Bs, 0, none⟩)] W fun e W' => (∃ v, e = .returned v) ∧
      ((∃ ys, ys = L ∧ J ys W') ∨ (∃ pre, pre <+: L ∧ Jx pre W')) := by
  refine callsIn_of_wp Try.func51 rfl h51 ?_ hro
  simp only [Try.ntmps51, List.size_toArray, List.length_cons, List.length_nil, Nat.reduceAdd, Nat.reduceSub, Array.replicate_succ, Array.replicate_zero, List.push_toArray, List.append_toArray, List.nil_append, List.cons_append]
  have HJ := Lib.hid hJ
  have HL := Lib.hid hL
  clear hJ hL
  gi_wp2
  gi_loopw [7] (fun i wr => ∃ k : Nat, k ≤ L.length ∧ i = .int .i64 k ∧ J (L.take k) wr ∧ Below n₀ W wr) (fun i _ => L.length - (intOf i).toNat)
  case atStart => exact ⟨0, Nat.zero_le _, rfl, h0, Below.refl _ _⟩
  case round =>
    obtain ⟨k, hk, rfl, hJs, hnx⟩ := hrel
    by_cases hlt : k < L.length
    · have hp := HL.out wr hnx
      obtain ⟨b1, o1, rfl⟩ := hp.ex hlt
      obtain ⟨c1, c2⟩ := hp.cell b1 o1 rfl k hlt
      have hsn := Lib.hid (take_snoc L k hlt)
      obtain ⟨x, hx⟩ : ∃ x, L[k] = x := ⟨_, rfl⟩
      rw [hx] at c1 c2 hsn
      clear hx hp
      have hJ2 : J (L.take k) (wr.alloc (.cells #[.int .u64 x.1, .int .u64 x.2] 26)) := HJ.out _ wr _ none hJs (World.grownBy_alloc wr _ none) (fun r e => by cases e)
      obtain ⟨fn, tmps, assign, body, hy, hR⟩ := hY _ x _ hJ2 (by simp; omega)
      have HR := Lib.hid hR
      clear hR
      gi_wp2
      refine HR.out.mono ?_
      have hbA : Below n₀ wr (wr.alloc (.cells #[.int .u64 x.1, .int .u64 x.2] 26)) := (Below.refl _ _).alloc (Nat.le_trans hn0 hnx.size) _
      rintro e W3 (⟨rfl, hJ3, hk3⟩ | ⟨rfl, hJx3⟩)
      · gi_wp2
        go_roundw
        case rel => exact ⟨k + 1, by omega, by simp, by rw [hsn.out]; exact hJ3, (hnx.trans hbA).trans hk3⟩
        case measure => simp [intOf]; omega
      · gi_wp2
        refine bodyPost_ret (results_none rfl _ _ _) rfl ?_
        exact ⟨⟨_, rfl⟩, .inr ⟨L.take (k + 1), List.take_prefix _ _, by rw [hsn.out]; exact hJx3⟩⟩
    · obtain rfl : k = L.length := by omega
      gi_wp2
      go_end0
      exact ⟨⟨_, rfl⟩, .inl ⟨_, rfl, by rw [List.take_of_length_le (Nat.le_refl _)] at hJs; exact hJs⟩⟩

theorem values51_stops (F : Fence) (n : Nat) (h51 : F.fn 51) (hro : F.round = none) (hn : 1 ≤ n) (Bs n₀ : Nat) (a : Option Addr) (cap : Nat) (L : List Pl) (hreach : L.length ≤ 1000000000) (w : World) (hBs : Bs < w.heap.size) (hn0 : n₀ ≤ w.heap.size)
    (hc : w.cell? ⟨Bs, 0, none⟩ = some (.slice a L.length cap)) (hL : ∀ w', Below n₀ w w' → Ps w' a L) :
    SeqStopsK F n Try.prog 51 #[.pointer (some ⟨Bs, 0, none⟩)] (fun x : Pl => #[pv x]) (Below n₀) (fun ys => ys = L) (fun pre => pre <+: L) L.length w := fun l J Jx W hW hJ _ hY h0 =>
  values51_in F n h51 hro hn l Bs n₀ a cap L hreach J Jx W (Nat.le_trans hn0 hW.size) hJ hY ((hW.cell (p := ⟨Bs, 0, none⟩) hBs).trans hc) (fun w' h => hL w' ((hW.mono hn0).trans h)) h0
def pcs (l : List Pl) : List Value := l.flatMap fun p => [.int .u64 p.1, .int .u64 p.2]
theorem pcs_len (l : List Pl) : (pcs l).length = l.length * 2 := by
  induction l with
  | nil => rfl
  | cons p l ih => simp only [pcs, List.flatMap_cons, List.length_append, List.length_cons, List.length_nil] at ih ⊢; omega
theorem pcs_snoc (l : List Pl) (p : Pl) : pcs (l ++ [p]) = pcs l ++ [.int .u64 p.1, .int .u64 p.2] := by simp [pcs]
theorem pcs_get (l : List Pl) : ∀ i (h : i < l.length), (pcs l)[i * 2]? = some (.int .u64 (l[i].1 : Int)) ∧ (pcs l)[i * 2 + 1]? = some (.int .u64 (l[i].2 : Int)) := by
  induction l with
  | nil => intro i h; simp at h
  | cons p l ih =>
    intro i h
    have e : pcs (p :: l) = .int .u64 (p.1 : Int) :: .int .u64 (p.2 : Int) :: pcs l := by simp [pcs]
    cases i with
    | zero => rw [e]; simp
    | succ i =>
      have := ih i (by simpa using h)
      rw [e, show (i + 1) * 2 = i * 2 + 1 + 1 by omega, show (i * 2 + 1 + 1) + 1 = (i * 2 + 1) + 1 + 1 by omega]
      simpa using this
def OwnP (w : World) (base : Nat) (v : Value) (l : List Pl) : Prop := w.ownsRow base 26 2 v l.length (pcs l)
theorem OwnP.form {w : World} {base : Nat} {v : Value} {l : List Pl} (h : OwnP w base v l) : ∃ a cap, v = .slice a l.length cap ∧ Ps w a l ∧ l.length ≤ cap ∧ (∀ x, a = some x → ∃ g, x = ⟨g, 0, none⟩ ∧ base ≤ g ∧ g < w.heap.size) ∧ (a = none → l = []) := by
  have hc := h
  rcases h.2 with ⟨rfl, h0⟩ | ⟨g, cap, cur, rfl, hb, hg, hn, hm, hs, ht⟩
  · have : l = [] := List.eq_nil_of_length_eq_zero h0
    subst this
    exact ⟨none, 0, rfl, Ps.nil w, Nat.le_refl _, fun x e => (by cases e), fun _ => rfl⟩
  · refine ⟨_, cap, rfl, ⟨fun _ => ⟨_, _, rfl⟩, fun b o e i hi => ?_⟩, hn, fun x e => ⟨g, by simpa using e.symm, hb, lt_of_block hg⟩, fun e => (by cases e)⟩
    obtain ⟨rfl, rfl, _⟩ := e
    obtain ⟨p1, p2⟩ := pcs_get l i hi
    rw [Nat.zero_add, hc.cellAt (i * 2) (by omega), hc.cellAt (i * 2 + 1) (by omega)]
    exact ⟨p1, p2⟩
theorem info26' : (Try.prog.info? 26).map (fun i => (i.zero, i.size, i.bytes)) = some (some (.agg #[.int .u64 0, .int .u64 0]), 2, 16) := by kernel_rfl
theorem cell_two_new (w : World) (x y : Value) (t : TypeId) : ∀ j u, [x, y][j]? = some u → (w.alloc (.cells #[x, y] t)).cell? ((⟨w.heap.size, 0, none⟩ : Addr).add j) = some u := by
  intro j u hj
  rw [Addr.add_mid, cell_of_row _ _ _ _ _ _ (heap_alloc_new w _)]
  match j, hj with
  | 0, hj => simpa using hj
  | 1, hj => simpa using hj
set_option maxRecDepth 100000 in
set_option maxHeartbeats 4000000 in
theorem append55_in (F : Fence) (n : Nat) (h55 : F.fn 55) (h51 : F.fn 51) (hro : F.round = none) (hn : 3 ≤ n) (Bs : Nat) (a : Option Addr) (cap : Nat) (L : List Pl) (hreach : L.length ≤ 1000000000) (w : World) (hBs : Bs < w.heap.size) (hc : w.cell? ⟨Bs, 0, none⟩ = some (.slice a L.length cap)) (hL : Ps w a L) :
    CallsIn F n Try.prog 55 #[.slice none 0 0, .func (.func 51) #[] #[.pointer (some ⟨Bs, 0, none⟩)]] w fun e W' => ∃ v, e = .returned v ∧ OwnP W' w.heap.size v L ∧ Below w.heap.size w W' := by
  have h1 : 1 ≤ n := by omega
  obtain ⟨i0, hi, hz0, hz1, hz2⟩ := info_parts info26'
  refine callsIn_of_wp_marks Try.func55 rfl h55 ?_ hro
  simp only [Try.ntmps55, List.size_toArray, List.length_cons, List.length_nil, Nat.reduceAdd, Nat.reduceSub, Array.replicate_succ, Array.replicate_zero, List.push_toArray, List.append_toArray, List.nil_append, List.cons_append]
  gi_wp2
  have bO := Boxed.new w 53 (.slice none 0 0)
  have hB0 : Below w.heap.size w (w.alloc (.cells #[.slice none 0 0] 53)) := (Below.refl _ w).alloc (Nat.le_refl _) _
  have hcc : (w.alloc (.cells #[.slice none 0 0] 53)).cell? ⟨Bs, 0, none⟩ = some (.slice a L.length cap) := (hB0.cell (p := ⟨Bs, 0, none⟩) hBs).trans hc
  refine wpIn_rangeFunc_ownH hro h1 (gf := 51) (lb := #[.pointer (some ⟨Bs, 0, none⟩)]) rfl h51 (enters_of Try.func51 (by kernel_rfl) rfl)
    (values51_stops F (n - 1) h51 hro (by omega) Bs w.heap.size a cap L hreach (w.alloc (.cells #[.slice none 0 0] 53)) (by simp; omega) (by simp) hcc (fun w' h => hL.below (hB0.trans h))) belowK_t (belowK_b (by simp)) (Below.refl _ _) (fun _ => rfl)
    (fun pre W => (∃ v, Boxed W w.heap.size 53 v ∧ W.ownsRow w.heap.size 26 2 v pre.length (pcs pre) ∧ True) ∧ Below w.heap.size w W)
    (fun _ _ _ => False)
    (OwnFrom.and (Own.from (holdsRow_own w.heap.size w.heap.size 53 26 2 (fun pre : List Pl => pre.length) (fun pre => pcs pre) (fun _ _ => True)) _) (ownFrom_below (Nat.le_refl _) (by simp)))
    (fun _ _ _ _ _ hs _ _ => hs)
    ⟨⟨_, bO, World.ownsRow_nil _ _ _ _, trivial⟩, hB0⟩
    (fun x a' W => ∃ Bx, w.heap.size < Bx ∧ W.heap[Bx]? = some (.cells #[.int .u64 x.1, .int .u64 x.2] 26 (0, 0)) ∧ a' = { tmps := #[.slice none 0 0, .func (.func 51) #[] #[.pointer (some ⟨Bs, 0, none⟩)], .pointer (some ⟨w.heap.size, 0, none⟩), undef, .slice none 0 0, .pointer (some ⟨Bx, 0, none⟩), .func (.func 51) #[] #[.pointer (some ⟨Bs, 0, none⟩)], pv x, undef, undef, undef, undef, undef], defers := [] })
    (fun x a' _ X Y row hs hg hr => by
      obtain ⟨Bx, h1, h2, h3⟩ := hs
      refine ⟨Bx, h1, (hg.block Bx (Array.getElem?_eq_some_iff.1 h2).1 (fun e => ?_)).trans h2, h3⟩
      obtain ⟨_, o, ho, hc⟩ := hr Bx e.symm
      rw [h2] at ho
      cases ho; cases hc)
    ?assign ?body ?done ?stop
  case assign =>
    rintro l pre x W K ⟨⟨v, hv, hrow, _⟩, hB⟩ hK
    gi_wp2
    exact hK _ _ ((KeepsOthers.alloc _ _).from _) ((Below.refl _ W).alloc hB.size _) ⟨⟨v, hv.alloc _, hrow.alloc _, trivial⟩, hB.alloc hB.size _⟩ ⟨W.heap.size, hv.lt, heap_alloc_new _ _, rfl⟩
  case body =>
    rintro l pre x a' W hl ⟨r, hr⟩ ⟨⟨v, hv, hrow, _⟩, hB⟩ ⟨Bx, hBx, hX, rfl⟩ hlt
    have hc := hv.cell
    have hx0 : W.cell? ⟨Bx, 0, none⟩ = some (.int .u64 x.1) := cell_of_row _ _ 0 _ _ _ hX
    have hx1 : W.cell? ⟨Bx, 1, none⟩ = some (.int .u64 x.2) := cell_of_row _ _ 1 _ _ _ hX
    gi_wp2_with (gi_at_builtin; refine wpListIn_append_own _ rfl _ _ 53 rfl w.heap.size 26 i0 (.agg #[.int .u64 0, .int .u64 0]) 2 16 Try.underlying53 hi hz0 hz1 hz2 rfl (by decide) _ _ _ rfl (hrow.alloc _) ⟨W.heap.size, 0, none⟩ 1 1 [.int .u64 x.1, .int .u64 x.2] rfl rfl (cell_two_new _ _ _ _) (by simp [Value.oneCell']) (by unfold maxLen; omega) (by omega) (by have := hB.size; simp; omega) ?_; intro v' w1 hown' hgrow _; obtain ⟨g', cap', rfl⟩ := ownsRow_succ hown'; obtain ⟨hv1, hv2, hr2, hk2, hb2⟩ := hv.appended (by decide) hrow hB.size (Nat.le_refl _) hown' hgrow; have hc1 := hv1.cell; have hf1 := hv1.frozen)
    exact ⟨hk2.from _, hb2, ⟨_, hv2, by rw [pcs_snoc, List.length_append]; exact hr2, trivial⟩, hB.trans hb2⟩
  case done =>
    rintro D ys W hD rfl ⟨⟨v, hv, hrow, _⟩, hB⟩ hK
    have hc := hv.cell
    gi_wp2
    refine ⟨by simp, .inl ⟨_, _, rfl, run_takeDeferred hK, ?_⟩⟩
    exact ⟨_, results_tmp rfl _ _ _, v, rfl, ownsRow_putObj hrow _ hK rfl, hB.trans (belowK_b (w := w) (Nat.le_refl _) W D _ _ (by simp at hD; omega) hK rfl rfl)⟩
  case stop =>
    rintro D c pre W _ _ h _
    exact h.elim

theorem append55 (Bs : Nat) (a : Option Addr) (cap : Nat) (L : List Pl) (hreach : L.length ≤ 1000000000) (w : World) (hBs : Bs < w.heap.size) (hc : w.cell? ⟨Bs, 0, none⟩ = some (.slice a L.length cap)) (hL : Ps w a L) :
    Calls Try.prog 55 #[.slice none 0 0, .func (.func 51) #[] #[.pointer (some ⟨Bs, 0, none⟩)]] w fun e W' => ∃ v, e = .returned v ∧ OwnP W' w.heap.size v L ∧ Below w.heap.size w W' :=
  callsIn_wide.1 (append55_in Fence.wide 3 trivial trivial rfl (by omega) Bs a cap L hreach w hBs hc hL)
theorem collect46 (Bs : Nat) (a : Option Addr) (cap : Nat) (L : List Pl) (hreach : L.length ≤ 1000000000) (w : World) (hBs : Bs < w.heap.size) (hc : w.cell? ⟨Bs, 0, none⟩ = some (.slice a L.length cap)) (hL : Ps w a L) :
    Calls Try.prog 46 #[.func (.func 51) #[] #[.pointer (some ⟨Bs, 0, none⟩)]] w fun e W' => ∃ v, e = .returned v ∧ OwnP W' w.heap.size v L ∧ Below w.heap.size w W' := by
  have P := Lib.hid (append55 Bs a cap L hreach w hBs hc hL)
  go_enter Try.func46, Try.ntmps46
  go_wp2_with (go_at_call 55; refine P.out.mono ?_; rintro e w1 ⟨v, rfl, h1, h2⟩)
  go_ret
  exact ⟨v, rfl, h1, h2⟩

end Go.Proofs.Ytbpajfjeakffkaa

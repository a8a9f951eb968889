/- The members of marks: their keys, collected and sorted. -/
import Derived.Test.YtbpajfjeakffkaaQK
import Derived.Test.YtbpajfjeakffkaaQH
import Derived.Test.YtbpajfjeakffkaaSortI
namespace Go.Proofs.Ytbpajfjeakffkaa
open Go.RowKit Go.Sort Go.Shelf
open Go.ChangeMaps (setBlock)
attribute [local go_sem] Oper.semAt_some

def ics (l : List Int) : List Value := l.map fun x => .int .i64 x
theorem ics_len (l : List Int) : (ics l).length = l.length := by simp [ics]
theorem ics_snoc (l : List Int) (x : Int) : ics (l ++ [x]) = ics l ++ [.int .i64 x] := by simp [ics]
theorem ics_get (l : List Int) (i : Nat) (h : i < l.length) : (ics l)[i]? = some (.int .i64 l[i]) := by simp [ics, h]
def OwnI (w : World) (base : Nat) (v : Value) (l : List Int) : Prop := w.ownsRow base 3 1 v l.length (ics l)
theorem OwnI.nil (w : World) (base : Nat) : OwnI w base (.slice none 0 0) [] := World.ownsRow_nil _ _ _ _
theorem OwnI.form {w : World} {base : Nat} {v : Value} {l : List Int} (h : OwnI w base v l) : ∃ a cap, v = .slice a l.length cap ∧ Is w a l ∧ l.length ≤ cap ∧ ((a = none ∧ l = []) ∨ ∃ g cur, a = some ⟨g, 0, none⟩ ∧ base ≤ g ∧ g < w.heap.size ∧ w.heap[g]? = some (.cells cur 3 (0, 0))) := by
  have hc := h
  rcases h.2 with ⟨rfl, h0⟩ | ⟨g, cap, cur, rfl, hb, hg, hn, hm, hs, ht⟩
  · have : l = [] := List.eq_nil_of_length_eq_zero h0
    subst this
    exact ⟨none, 0, rfl, ⟨fun h => absurd rfl h, fun b o e => by cases e⟩, Nat.le_refl _, .inl ⟨rfl, rfl⟩⟩
  · refine ⟨_, cap, rfl, ⟨fun _ => ⟨_, _, rfl⟩, fun b o e i hi => ?_⟩, hn, .inr ⟨g, cur, rfl, hb, lt_of_block hg, hg⟩⟩
    obtain ⟨rfl, rfl, _⟩ := e
    have := hc.cellAt i (by omega)
    rw [Nat.zero_add, this]
    exact ics_get l i hi
theorem info3' : (Try.prog.info? 3).map (fun i => (i.zero, i.size, i.bytes)) = some (some (.int .i64 0), 1, 8) := by kernel_rfl

set_option maxRecDepth 100000 in
set_option maxHeartbeats 4000000 in
theorem append52_gen (F : Fence) (n : Nat) (h52 : F.fn 52) (gf : Nat) (hgf : F.fn gf) (lb : Array Value) (eg : ∀ args w, (callFunc gf args).run Try.prog w = .ok (.enter gf args) w) (hro : F.round = none) (hn : 3 ≤ n) (N : Nat) (hreach : N ≤ 1000000000) (S Sp : List Int → Prop) (w : World)
    (hseq : SeqStopsK F (n - 1) Try.prog gf lb (fun x : Int => #[.int .i64 x]) (fun A B => Below w.heap.size A B ∧ KeepsWalks A B) S Sp N (w.alloc (.cells #[.slice none 0 0] 22))) :
    CallsIn F n Try.prog 52 #[.slice none 0 0, .func (.func gf) #[] lb] w fun e W' => ∃ v L, e = .returned v ∧ S L ∧ OwnI W' w.heap.size v L ∧ Below w.heap.size w W' := by
  have h1 : 1 ≤ n := by omega
  obtain ⟨i0, hi, hz0, hz1, hz2⟩ := info_parts info3'
  refine callsIn_of_wp_marks Try.func52 rfl h52 ?_ hro
  simp only [Try.ntmps52, List.size_toArray, List.length_cons, List.length_nil, Nat.reduceAdd, Nat.reduceSub, Array.replicate_succ, Array.replicate_zero, List.push_toArray, List.append_toArray, List.nil_append, List.cons_append]
  gi_wp2
  have bO := Boxed.new w 22 (.slice none 0 0)
  have hB0 : Below w.heap.size w (w.alloc (.cells #[.slice none 0 0] 22)) := (Below.refl _ w).alloc (Nat.le_refl _) _
  refine wpIn_rangeFunc_ownH hro h1 (gf := gf) (lb := lb) rfl hgf eg hseq (fun h k => ⟨h.1.trans k.1, h.2.trans k.2⟩) (fun W l o o' h1 h2 h3 h4 => ⟨belowK_b (by simp) W l o o' h1 h2 h3 h4, walksK_b W l o o' h1 h2 h3 h4⟩) (Below.refl _ _) (fun _ => rfl)
    (fun pre W => (∃ v, Boxed W w.heap.size 22 v ∧ W.ownsRow w.heap.size 3 1 v pre.length (ics pre) ∧ True) ∧ Below w.heap.size w W)
    (fun _ _ _ => False)
    (OwnFrom.and (Own.from (holdsRow_own w.heap.size w.heap.size 22 3 1 (fun pre : List Int => pre.length) (fun pre => ics pre) (fun _ _ => True)) _) (ownFrom_below (Nat.le_refl _) (by simp)))
    (fun _ _ _ _ _ hs _ _ => hs)
    ⟨⟨_, bO, World.ownsRow_nil _ _ _ _, trivial⟩, hB0⟩
    (fun x a' _ => a' = { tmps := #[.slice none 0 0, .func (.func gf) #[] lb, .pointer (some ⟨w.heap.size, 0, none⟩), undef, .slice none 0 0, .int .i64 x, .func (.func gf) #[] lb, .int .i64 x, undef, undef, undef, undef, undef], defers := [] })
    (fun x a' _ X Y row hs hg hr => hs)
    ?assign ?body ?done ?stop
  case assign =>
    rintro l pre x W K ⟨⟨v, hv, hrow, _⟩, hB⟩ hK
    gi_wp2
    exact hK _ _ ((KeepsOthers.refl _).from _) ⟨RowKit.Below.refl _ W, (KeepsOthers.refl _).walks⟩ ⟨⟨v, hv, hrow, trivial⟩, hB⟩ rfl
  case body =>
    rintro l pre x a' W hl ⟨r, hr⟩ ⟨⟨v, hv, hrow, _⟩, hB⟩ rfl hlt
    have hc := hv.cell
    gi_wp2_with (gi_at_builtin; refine wpListIn_append_own _ rfl _ _ 22 rfl w.heap.size 3 i0 (.int .i64 0) 1 8 Try.underlying22 hi hz0 hz1 hz2 rfl (by decide) _ _ _ rfl (hrow.alloc _) ⟨W.heap.size, 0, none⟩ 1 1 [.int .i64 x] rfl rfl (cell_one_new _ _ _) (by simp [Value.oneCell']) (by unfold maxLen; omega) (by omega) (by have := hB.size; simp; omega) ?_; intro v' w1 hown' hgrow _; obtain ⟨g', cap', rfl⟩ := ownsRow_succ hown'; obtain ⟨hv1, hv2, hr2, hk2, hb2⟩ := hv.appended (by decide) hrow hB.size (Nat.le_refl _) hown' hgrow; have hc1 := hv1.cell; have hf1 := hv1.frozen)
    exact ⟨hk2.from _, ⟨hb2, hk2.walks⟩, ⟨_, hv2, by rw [ics_snoc, List.length_append]; exact hr2, trivial⟩, hB.trans hb2⟩
  case done =>
    rintro D ys W hD hS ⟨⟨v, hv, hrow, _⟩, hB⟩ hK
    have hc := hv.cell
    gi_wp2
    refine ⟨by simp, .inl ⟨_, _, rfl, run_takeDeferred hK, ?_⟩⟩
    exact ⟨_, results_tmp rfl _ _ _, v, ys, rfl, hS, ownsRow_putObj hrow _ hK rfl, hB.trans (belowK_b (w := w) (Nat.le_refl _) W D _ _ (by simp at hD; omega) hK rfl rfl)⟩
  case stop =>
    rintro D c pre W _ _ h _
    exact h.elim

def keysOf (D : MapD) (seen : List Nat) : List Int := seen.map fun i => (D.getD i (0, (0, 0))).1
theorem keys_perm (D : MapD) (seen : List Nat) (h1 : seen.Nodup) (h2 : ∀ i ∈ seen, i < D.length) (h3 : ∀ i, i < D.length → i ∈ seen) : (keysOf D seen).Perm (D.map (·.1)) := by
  have hp : seen.Perm (List.range D.length) := (List.perm_ext_iff_of_nodup h1 List.nodup_range).2 fun i => ⟨fun h => List.mem_range.2 (h2 i h), fun h => h3 i (List.mem_range.1 h)⟩
  have e : keysOf D (List.range D.length) = D.map (·.1) := by
    apply List.ext_getElem
    · simp [keysOf]
    · intro i h1 h2
      have : i < D.length := by simpa using h2
      simp [keysOf, this]
  rw [← e]
  exact hp.map _

set_option maxRecDepth 100000 in
set_option maxHeartbeats 4000000 in
theorem keys45_in (F : Fence) (n : Nat) (h45 : F.fn 45) (hro : F.round = none) (hn : 1 ≤ n) (l Bs n₀ mb : Nat) (D : MapD) (J Jx : List Int → World → Prop) (W : World) (hn0 : n₀ ≤ W.heap.size) (hmb : mb < n₀) (hJ : AbidesFrom W.heap.size J)
    (hY : ∀ pre x W, J pre W → pre.length < D.length → YieldAt F (n - 1) Try.prog l #[.int .i64 x] W fun e W' =>
      (e = .returned (.bool true) ∧ J (pre ++ [x]) W' ∧ RowKit.Below n₀ W W' ∧ KeepsWalks W W') ∨ (e = .returned (.bool false) ∧ Jx (pre ++ [x]) W'))
    (hBs : W.cell? ⟨Bs, 0, none⟩ = some (.map (some mb))) (hm : W.heap[mb]? = some (.map (esOf D) D.length)) (h0 : J [] W) :
    CallsIn F n Try.prog 45 #[.func (.yield l) #[] #[], .pointer (some ⟨Bs, 0, none⟩)] W fun e W' => (∃ v, e = .returned v) ∧
      ((∃ ys, ys.Perm (D.map (·.1)) ∧ J ys W') ∨ (∃ pre, True ∧ Jx pre W')) := by
  refine callsIn_of_wp Try.func45 rfl h45 ?_ hro
  simp only [Try.ntmps45, List.size_toArray, List.length_cons, List.length_nil, Nat.reduceAdd, Nat.reduceSub, Array.replicate_succ, Array.replicate_zero, List.push_toArray, List.append_toArray, List.nil_append, List.cons_append]
  have HJ := Lib.hid hJ
  have hrg := run_range_map (P := Try.prog) W 50 3 26 mb (esOf D) D.length Try.underlying50 hm
  clear hJ
  gi_wp2
  have hJ0 : J [] (W.alloc (.mapIter (some mb) D.length #[] D.length)) := HJ.out _ W _ none h0 (World.grownBy_alloc W _ none) (fun r e => by cases e)
  have hi0 : (W.alloc (.mapIter (some mb) D.length #[] D.length)).heap[W.heap.size]? = some (.mapIter (some mb) D.length ([] : List Nat).toArray D.length) := heap_alloc_new _ _
  have hb0 : RowKit.Below n₀ W (W.alloc (.mapIter (some mb) D.length #[] D.length)) := (RowKit.Below.refl _ _).alloc hn0 _
  clear hrg
  gi_loopw [3] (fun _ wr => ∃ seen c0, wr.heap[W.heap.size]? = some (.mapIter (some mb) D.length seen.toArray c0) ∧ D.length ≤ c0 ∧ seen.Nodup ∧ (∀ i ∈ seen, i < D.length) ∧ J (keysOf D seen) wr ∧ RowKit.Below n₀ W wr) (fun _ wr => D.length - seenOf wr W.heap.size)
  case atStart => exact ⟨[], D.length, hi0, Nat.le_refl _, List.nodup_nil, fun i h => (by cases h), hJ0, hb0⟩
  case round =>
    clear hJ0 hi0 hb0
    obtain ⟨seen, c0, hit, hc, hnd, hall, hJs, hbl⟩ := hrel
    have hmr : wr.heap[mb]? = some (.map (esOf D) D.length) := (hbl.block _ hmb).trans hm
    have hne : W.heap.size ≠ mb := by omega
    rcases step_marks wr W.heap.size mb c0 D seen hit hmr hc with ⟨hful, hrun⟩ | ⟨i, hi, hns, w2, hrun, hit2, hg2, hs2, hen⟩
    · have HP := Lib.hid (keys_perm D seen hnd hall hful)
      clear hful hnd hall
      gi_wp2
      go_end0
      exact ⟨⟨_, rfl⟩, .inl ⟨_, HP.out, hJs⟩⟩
    · replace hen := hen hne
      have hsz2 : W.heap.size < wr.heap.size := (Array.getElem?_eq_some_iff.1 hit).1
      have hlen : seen.length < D.length := by
        have h1 : (seen ++ [i]).Nodup := by
          rw [List.nodup_append]
          exact ⟨hnd, by simp, fun a ha b hb e => by simp at hb; subst hb; subst e; exact hns ha⟩
        have h2 := List.Nodup.length_le_of_subset (l₂ := List.range D.length) h1 (fun x hx => by
          rw [List.mem_range]
          rcases List.mem_append.1 hx with h | h
          · exact hall x h
          · simp at h; omega)
        simp at h2; omega
      have HND : Hid ((seen ++ [i]).Nodup ∧ ∀ x ∈ seen ++ [i], x < D.length) := ⟨by
        rw [List.nodup_append]
        exact ⟨hnd, by simp, fun a ha b hb e => by simp at hb; subst hb; subst e; exact hns ha⟩, fun x hx => by
        rcases List.mem_append.1 hx with h | h
        · exact hall x h
        · simp at h; omega⟩
      have HV : Hid (keysOf D (seen ++ [i]) = keysOf D seen ++ [D[i].1]) := by show _ = _; simp [keysOf, hi]
      have hb2 : RowKit.Below n₀ wr w2 := (RowKit.Below.refl _ _).grown hg2 (Nat.le_trans hn0 (by omega)) (fun k e => by cases e; exact hn0)
      obtain ⟨x, hx⟩ : ∃ x, D[i] = x := ⟨_, rfl⟩
      rw [hx] at hrun hen HV
      clear hx hnd hall hns
      have hJ2 : J (keysOf D seen) w2 :=
        (HJ.out _ wr _ (some W.heap.size) hJs hg2 (fun r e => by cases e; exact ⟨Nat.le_refl _, _, hit, rfl⟩))
      obtain ⟨fn, tmps, assign, body, hy, hR⟩ := hY _ x.1 _ hJ2 (by simpa [keysOf] using hlen)
      have HR := Lib.hid hR
      have HI := Lib.hid (And.intro hit (And.intro hit2 (And.intro hg2 (And.intro hs2 (And.intro hb2 hbl)))))
      clear hR hit hit2 hg2 hs2 hb2 hbl hmr
      gi_wp2
      refine HR.out.mono ?_
      obtain ⟨hit, hit2, hg2, hs2, hb2, hbl⟩ := HI.out
      rintro e W3 (⟨rfl, hJ3, hk3, hkw⟩ | ⟨rfl, hJx3⟩)
      · have hit3 := hkw.same W.heap.size _ hit2 rfl
        clear hen hrun hy
        gi_wp2
        go_roundw
        case rel => exact ⟨seen ++ [i], D.length, hit3, Nat.le_refl _, HND.out.1, HND.out.2, by rw [HV.out]; exact hJ3, hbl.trans (hb2.trans hk3)⟩
        case measure => simp only [seenOf, hit3, hit, List.size_toArray, List.length_append, List.length_cons, List.length_nil]; omega
      · clear hen hrun hy
        gi_wp2
        refine bodyPost_ret (results_none rfl _ _ _) rfl ?_
        exact ⟨⟨_, rfl⟩, .inr ⟨_, trivial, hJx3⟩⟩
theorem keys45_stops (F : Fence) (n : Nat) (h45 : F.fn 45) (hro : F.round = none) (hn : 1 ≤ n) (Bs n₀ mb : Nat) (D : MapD) (w : World) (hBs : Bs < w.heap.size) (hn0 : n₀ ≤ w.heap.size) (hmb : mb < n₀)
    (hc : w.cell? ⟨Bs, 0, none⟩ = some (.map (some mb))) (hm : w.heap[mb]? = some (.map (esOf D) D.length)) :
    SeqStopsK F n Try.prog 45 #[.pointer (some ⟨Bs, 0, none⟩)] (fun x : Int => #[.int .i64 x]) (fun A B => RowKit.Below n₀ A B ∧ KeepsWalks A B) (fun ys => ys.Perm (D.map (·.1))) (fun _ => True) D.length w := fun l J Jx W hW hJ _ hY h0 =>
  keys45_in F n h45 hro hn l Bs n₀ mb D J Jx W (Nat.le_trans hn0 hW.size) hmb hJ hY ((hW.cell (p := ⟨Bs, 0, none⟩) hBs).trans hc) ((hW.block _ (by omega)).trans hm) h0

theorem append52m (Bs mb : Nat) (D : MapD) (hD : D.length ≤ 1000000000) (w : World) (hBs : Bs < w.heap.size) (hmb : mb < w.heap.size) (hc : w.cell? ⟨Bs, 0, none⟩ = some (.map (some mb))) (hm : w.heap[mb]? = some (.map (esOf D) D.length)) :
    Calls Try.prog 52 #[.slice none 0 0, .func (.func 45) #[] #[.pointer (some ⟨Bs, 0, none⟩)]] w fun e W' => ∃ v L, e = .returned v ∧ L.Perm (D.map (·.1)) ∧ OwnI W' w.heap.size v L ∧ RowKit.Below w.heap.size w W' := by
  have hB0 : RowKit.Below w.heap.size w (w.alloc (.cells #[.slice none 0 0] 22)) := (RowKit.Below.refl _ w).alloc (Nat.le_refl _) _
  exact callsIn_wide.1 (append52_gen Fence.wide 3 trivial 45 trivial _ (enters_of Try.func45 (by kernel_rfl) rfl) rfl (by omega) D.length hD _ (fun _ => True) w
    (keys45_stops Fence.wide (3 - 1) trivial rfl (by omega) Bs w.heap.size mb D _ (by simp; omega) (by simp) hmb ((hB0.cell (p := ⟨Bs, 0, none⟩) hBs).trans hc) ((hB0.block _ hmb).trans hm)))
theorem collect43m (Bs mb : Nat) (D : MapD) (hD : D.length ≤ 1000000000) (w : World) (hBs : Bs < w.heap.size) (hmb : mb < w.heap.size) (hc : w.cell? ⟨Bs, 0, none⟩ = some (.map (some mb))) (hm : w.heap[mb]? = some (.map (esOf D) D.length)) :
    Calls Try.prog 43 #[.func (.func 45) #[] #[.pointer (some ⟨Bs, 0, none⟩)]] w fun e W' => ∃ v L, e = .returned v ∧ L.Perm (D.map (·.1)) ∧ OwnI W' w.heap.size v L ∧ RowKit.Below w.heap.size w W' := by
  have P := Lib.hid (append52m Bs mb D hD w hBs hmb hc hm)
  go_enter Try.func43, Try.ntmps43
  go_wp2_with (go_at_call 52; refine P.out.mono ?_; rintro e w1 ⟨v, L, rfl, h1, h2, h3⟩)
  go_ret
  exact ⟨v, L, rfl, h1, h2, h3⟩
theorem keys35 (m : Option Nat) (w : World) : Calls Try.prog 35 #[.map m] w fun e w' => e = .returned (.func (.func 45) #[] #[.pointer (some ⟨w.heap.size, 0, none⟩)]) ∧ w' = w.alloc (.cells #[.map m] 50) := by
  go_enter Try.func35, Try.ntmps35
  go_wp2
  go_ret
  exact ⟨rfl, rfl⟩
def srt (l : List Int) : List Int := l.mergeSort fun x y => decide (x ≤ y)
theorem sort44 (blk cap : Nat) (L : List Int) (w : World) (hI : Is w (some ⟨blk, 0, none⟩) L) (cur : Array Value) (hg : w.heap[blk]? = some (.cells cur 3 (0, 0))) (hsz : L.length ≤ 1000000000) :
    Calls Try.prog 44 #[.slice (some ⟨blk, 0, none⟩) L.length cap] w fun e w' => e = .returned (.tuple #[]) ∧ Is w' (some ⟨blk, 0, none⟩) (srt L) ∧ (∃ cur', w'.heap[blk]? = some (.cells cur' 3 (0, 0))) ∧ ∀ base, base ≤ blk → base ≤ w.heap.size → RowKit.Below base w w' := by
  have hH : Holds (Value.int .i64) w blk 0 L.toArray := fun j hj => by
    have hjl : j < L.length := by simpa using hj
    refine ⟨?_, frozen_of_row _ _ _ _ _ hg⟩
    have := hI.cell blk 0 rfl j hjl
    rw [this]
    simp [hjl]
  have hblk : blk < w.heap.size := (Array.getElem?_eq_some_iff.1 hg).1
  refine Calls.mono (Any.slices_Sort_int sortI blk 0 cap L w hH hblk (by omega)) ?_
  rintro e w' ⟨rfl, n, os, rfl⟩
  have hlen : (srt L).length = L.length := List.length_mergeSort _
  have hb : ∀ base, base ≤ blk → base ≤ w.heap.size → RowKit.Below base w (grow (putRow (Value.int .i64) (Sort.ahead w n) blk 0 (srt L).toArray) os) := fun base h h2 => by
    unfold putRow
    refine ⟨rfl, rfl, rfl, ?_, fun k hk => ?_⟩
    · simp [grow, mapBlock, Sort.ahead]
    · show ((w.heap.modify blk _) ++ os)[k]? = w.heap[k]?
      rw [Array.getElem?_append_left (by rw [Array.size_modify]; omega), Array.getElem?_modify, if_neg (by omega)]
  have hh := holds_grow (Value.int .i64) (putRow (Value.int .i64) (Sort.ahead w n) blk 0 (srt L).toArray) os blk 0 (srt L).toArray (by simp [putRow, mapBlock, Sort.ahead]; exact hblk) (holds_putRow (Value.int .i64) (Sort.ahead w n) blk 0 L.toArray (srt L).toArray hH (by simpa using hlen))
  refine ⟨rfl, ⟨fun _ => ⟨_, _, rfl⟩, fun b o e i hi => ?_⟩, ?_, hb⟩
  · cases e
    have := (hh i (by simpa using hi)).1
    have he : (srt L).toArray[i]! = (srt L)[i] := by rw [getElem!_pos _ i (by simpa using hi)]; simp
    rw [he] at this
    exact this
  · refine ⟨putCells (Value.int .i64) 0 (srt L).toArray cur, ?_⟩
    show ((w.heap.modify blk _) ++ os)[blk]? = _
    rw [Array.getElem?_append_left (by rw [Array.size_modify]; exact hblk), Array.getElem?_modify, if_pos rfl, hg]
    rfl
theorem sort44n (cap : Nat) (w : World) : Calls Try.prog 44 #[.slice none 0 cap] w fun e w' => e = .returned (.tuple #[]) ∧ w' = w :=
  Any.slices_Sort_int_none sortI none cap w
/-- a slice of integers that may be written -/
def RowI (w : World) (base : Nat) (a : Option Addr) (l : List Int) : Prop := Is w a l ∧ (l = [] ∨ ∃ g cur, a = some ⟨g, 0, none⟩ ∧ base ≤ g ∧ w.heap[g]? = some (.cells cur 3 (0, 0)))
set_option maxHeartbeats 1600000 in
theorem sorted34 (Bs mb : Nat) (D : MapD) (hD : D.length ≤ 1000000000) (w : World) (hBs : Bs < w.heap.size) (hmb : mb < w.heap.size) (hc : w.cell? ⟨Bs, 0, none⟩ = some (.map (some mb))) (hm : w.heap[mb]? = some (.map (esOf D) D.length)) :
    Calls Try.prog 34 #[.func (.func 45) #[] #[.pointer (some ⟨Bs, 0, none⟩)]] w fun e W' => ∃ a c L, e = .returned (.slice a L.length c) ∧ L.Perm (D.map (·.1)) ∧ RowI W' w.heap.size a (srt L) ∧ RowKit.Below w.heap.size w W' := by
  have P := Lib.hid (collect43m Bs mb D hD w hBs hmb hc hm)
  clear hc hm
  go_enter Try.func34, Try.ntmps34
  go_wp2_with fail
  refine P.out.mono ?_
  rintro e w1 ⟨v, L, rfl, hp, ho, hb1⟩
  have hlen : L.length ≤ 1000000000 := by have := hp.length_eq; simp at this; omega
  obtain ⟨a, cap, rfl, hI, _, ⟨rfl, rfl⟩ | ⟨g, cur, rfl, hgb, hgs, hg⟩⟩ := ho.form
  · go_wp2_with fail
    refine (sort44n cap w1).mono ?_
    rintro e w2 ⟨rfl, rfl⟩
    go_wp2_with fail
    go_ret
    exact ⟨none, cap, [], rfl, hp, ⟨⟨fun h => absurd (by simp [srt]) h, fun b o e => by cases e⟩, .inl (by simp [srt])⟩, hb1⟩
  · go_wp2_with fail
    refine (sort44 g cap L w1 hI cur hg hlen).mono ?_
    rintro e w2 ⟨rfl, hI2, ⟨cur', hg2⟩, hb2⟩
    go_wp2_with fail
    go_ret
    exact ⟨_, cap, L, rfl, hp, ⟨hI2, .inr ⟨g, cur', rfl, hgb, hg2⟩⟩, hb1.trans (hb2 _ hgb hb1.size)⟩
set_option maxHeartbeats 1600000 in
theorem members17 (mp mb : Nat) (D : MapD) (hD : D.length ≤ 1000000000) (w : World) (h : MS w mp mb D) :
    Calls Try.prog 17 #[.pointer (some ⟨mp, 0, none⟩)] w fun e w' => ∃ a c L, e = .returned (.slice a L.length c) ∧ L.Perm (D.map (·.1)) ∧ RowI w' w.heap.size a (srt L) ∧ RowKit.Below w.heap.size w w' := by
  have hz : w.cell? ⟨mp, 0, none⟩ = some (.map (some mb)) := cell_of_row _ _ 0 _ _ _ h.cell
  have PT := Lib.hid (there32 mp mb D w h)
  have hmb : mb < w.heap.size := (Array.getElem?_eq_some_iff.1 h.map).1
  have hB : RowKit.Below w.heap.size w (w.alloc (.cells #[.map (some mb)] 50)) := (RowKit.Below.refl _ w).alloc (Nat.le_refl _) _
  have PC := Lib.hid (sorted34 w.heap.size mb D hD (w.alloc (.cells #[.map (some mb)] 50)) (by simp) (by simp; omega) (by rw [cell_of_row _ _ _ _ _ _ (heap_alloc_new w _)]; rfl) ((hB.block _ hmb).trans h.map))
  clear h
  go_enter Try.func17, Try.ntmps17
  go_wp2_with (first | (go_at_call 32; refine PT.out.mono ?_; rintro e w1 ⟨rfl, rfl⟩) | (go_at_call 35; refine (keys35 _ _).mono ?_; rintro e w2 ⟨rfl, rfl⟩) | (go_at_call 34; refine PC.out.mono ?_; rintro e w3 ⟨a, c, L, rfl, h1, h2, h3⟩))
  go_ret
  refine ⟨a, c, L, rfl, h1, ⟨h2.1, ?_⟩, hB.trans (h3.mono (by simp))⟩
  rcases h2.2 with h | ⟨g, cur, e, hg, hc⟩
  · exact .inl h
  · exact .inr ⟨g, cur, e, by simp at hg; omega, hc⟩

end Go.Proofs.Ytbpajfjeakffkaa

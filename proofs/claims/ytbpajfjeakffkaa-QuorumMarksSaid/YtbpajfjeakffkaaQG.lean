/- Collect at whatever gives places; maps.Values at marks. -/
import Derived.Test.YtbpajfjeakffkaaQF
import Derived.Test.YtbpajfjeakffkaaQD
namespace Go.Proofs.Ytbpajfjeakffkaa
open Go.RowKit Go.Sort Go.Shelf
open Go.ChangeMaps (setBlock)
attribute [local go_sem] Oper.semAt_some

set_option maxRecDepth 100000 in
set_option maxHeartbeats 4000000 in
theorem append55_gen (F : Fence) (n : Nat) (h55 : F.fn 55) (gf : Nat) (hgf : F.fn gf) (lb : Array Value) (eg : ∀ args w, (callFunc gf args).run Try.prog w = .ok (.enter gf args) w) (hro : F.round = none) (hn : 3 ≤ n) (N : Nat) (hreach : N ≤ 1000000000) (S Sp : List Pl → Prop) (w : World)
    (hseq : SeqStopsK F (n - 1) Try.prog gf lb (fun x : Pl => #[pv x]) (fun A B => Below w.heap.size A B ∧ KeepsWalks A B) S Sp N (w.alloc (.cells #[.slice none 0 0] 53))) :
    CallsIn F n Try.prog 55 #[.slice none 0 0, .func (.func gf) #[] lb] w fun e W' => ∃ v L, e = .returned v ∧ S L ∧ OwnP W' w.heap.size v L ∧ Below w.heap.size w W' := by
  have h1 : 1 ≤ n := by omega
  obtain ⟨i0, hi, hz0, hz1, hz2⟩ := info_parts info26'
  refine callsIn_of_wp_marks Try.func55 rfl h55 ?_ hro
  simp only [Try.ntmps55, List.size_toArray, List.length_cons, List.length_nil, Nat.reduceAdd, Nat.reduceSub, Array.replicate_succ, Array.replicate_zero, List.push_toArray, List.append_toArray, List.nil_append, List.cons_append]
  gi_wp2
  have bO := Boxed.new w 53 (.slice none 0 0)
  have hB0 : Below w.heap.size w (w.alloc (.cells #[.slice none 0 0] 53)) := (Below.refl _ w).alloc (Nat.le_refl _) _
  refine wpIn_rangeFunc_ownH hro h1 (gf := gf) (lb := lb) rfl hgf eg hseq (fun h k => ⟨h.1.trans k.1, h.2.trans k.2⟩) (fun W l o o' h1 h2 h3 h4 => ⟨belowK_b (by simp) W l o o' h1 h2 h3 h4, walksK_b W l o o' h1 h2 h3 h4⟩) (Below.refl _ _) (fun _ => rfl)
    (fun pre W => (∃ v, Boxed W w.heap.size 53 v ∧ W.ownsRow w.heap.size 26 2 v pre.length (pcs pre) ∧ True) ∧ Below w.heap.size w W)
    (fun _ _ _ => False)
    (OwnFrom.and (Own.from (holdsRow_own w.heap.size w.heap.size 53 26 2 (fun pre : List Pl => pre.length) (fun pre => pcs pre) (fun _ _ => True)) _) (ownFrom_below (Nat.le_refl _) (by simp)))
    (fun _ _ _ _ _ hs _ _ => hs)
    ⟨⟨_, bO, World.ownsRow_nil _ _ _ _, trivial⟩, hB0⟩
    (fun x a' W => ∃ Bx, w.heap.size < Bx ∧ W.heap[Bx]? = some (.cells #[.int .u64 x.1, .int .u64 x.2] 26 (0, 0)) ∧ a' = { tmps := #[.slice none 0 0, .func (.func gf) #[] lb, .pointer (some ⟨w.heap.size, 0, none⟩), undef, .slice none 0 0, .pointer (some ⟨Bx, 0, none⟩), .func (.func gf) #[] lb, pv x, undef, undef, undef, undef, undef], defers := [] })
    (fun x a' _ X Y row hs hg hr => by
      obtain ⟨Bx, h1, h2, h3⟩ := hs
      refine ⟨Bx, h1, (hg.block Bx (Array.getElem?_eq_some_iff.1 h2).1 (fun e => ?_)).trans h2, h3⟩
      obtain ⟨_, o, ho, hc⟩ := hr Bx e.symm
      rw [h2] at ho
      cases ho; cases hc)
    ?assign ?body ?done ?stop
  case assign =>
    rintro l pre x W K ⟨⟨v, hv, hrow, _⟩, hB⟩ hK
    gi_wp2
    exact hK _ _ ((KeepsOthers.alloc _ _).from _) ⟨(Below.refl _ W).alloc hB.size _, (KeepsOthers.alloc _ _).walks⟩ ⟨⟨v, hv.alloc _, hrow.alloc _, trivial⟩, hB.alloc hB.size _⟩ ⟨W.heap.size, hv.lt, heap_alloc_new _ _, rfl⟩
  case body =>
    rintro l pre x a' W hl ⟨r, hr⟩ ⟨⟨v, hv, hrow, _⟩, hB⟩ ⟨Bx, hBx, hX, rfl⟩ hlt
    have hc := hv.cell
    have hx0 : W.cell? ⟨Bx, 0, none⟩ = some (.int .u64 x.1) := cell_of_row _ _ 0 _ _ _ hX
    have hx1 : W.cell? ⟨Bx, 1, none⟩ = some (.int .u64 x.2) := cell_of_row _ _ 1 _ _ _ hX
    gi_wp2_with (gi_at_builtin; refine wpListIn_append_own _ rfl _ _ 53 rfl w.heap.size 26 i0 (.agg #[.int .u64 0, .int .u64 0]) 2 16 Try.underlying53 hi hz0 hz1 hz2 rfl (by decide) _ _ _ rfl (hrow.alloc _) ⟨W.heap.size, 0, none⟩ 1 1 [.int .u64 x.1, .int .u64 x.2] rfl rfl (cell_two_new _ _ _ _) (by simp [Value.oneCell']) (by unfold maxLen; omega) (by omega) (by have := hB.size; simp; omega) ?_; intro v' w1 hown' hgrow _; obtain ⟨g', cap', rfl⟩ := ownsRow_succ hown'; obtain ⟨hv1, hv2, hr2, hk2, hb2⟩ := hv.appended (by decide) hrow hB.size (Nat.le_refl _) hown' hgrow; have hc1 := hv1.cell; have hf1 := hv1.frozen)
    exact ⟨hk2.from _, ⟨hb2, hk2.walks⟩, ⟨_, hv2, by rw [pcs_snoc, List.length_append]; exact hr2, trivial⟩, hB.trans hb2⟩
  case done =>
    rintro D ys W hD hS ⟨⟨v, hv, hrow, _⟩, hB⟩ hK
    have hc := hv.cell
    gi_wp2
    refine ⟨by simp, .inl ⟨_, _, rfl, run_takeDeferred hK, ?_⟩⟩
    exact ⟨_, results_tmp rfl _ _ _, v, ys, rfl, hS, ownsRow_putObj hrow _ hK rfl, hB.trans (belowK_b (w := w) (Nat.le_refl _) W D _ _ (by simp at hD; omega) hK rfl rfl)⟩
  case stop =>
    rintro D c pre W _ _ h _
    exact h.elim

def vals (D : MapD) (seen : List Nat) : List Pl := seen.map fun i => (D.getD i (0, (0, 0))).2
def seenOf (w : World) (it : Nat) : Nat := match w.heap[it]? with | some (.mapIter _ _ s _) => s.size | _ => 0
theorem born_lt (D : MapD) : ∀ x ∈ (esOf D).toList, x.born < D.length := by
  intro x hx
  simp only [esOf, List.mem_mapIdx] at hx
  obtain ⟨i, h, rfl⟩ := hx
  exact h
theorem born_nodup (D : MapD) : ((esOf D).toList.map (·.born)).Nodup := by
  have : (esOf D).toList.map (·.born) = List.range D.length := by
    apply List.ext_getElem
    · simp [esOf]
    · intro i h1 h2; simp [esOf]
  rw [this]; exact List.nodup_range
theorem mem_es (D : MapD) (x : MapEntry) (h : x ∈ (esOf D).toList) : ∃ i, ∃ hi : i < D.length, x = ⟨.int .i64 D[i].1, pv D[i].2, i⟩ := by
  simp only [esOf, List.mem_mapIdx] at h
  obtain ⟨i, h, rfl⟩ := h
  exact ⟨i, h, rfl⟩
theorem vals_perm (D : MapD) (seen : List Nat) (h1 : seen.Nodup) (h2 : ∀ i ∈ seen, i < D.length) (h3 : ∀ i, i < D.length → i ∈ seen) : (vals D seen).Perm (D.map (·.2)) := by
  have hp : seen.Perm (List.range D.length) := (List.perm_ext_iff_of_nodup h1 List.nodup_range).2 fun i => ⟨fun h => List.mem_range.2 (h2 i h), fun h => h3 i (List.mem_range.1 h)⟩
  have e : vals D (List.range D.length) = D.map (·.2) := by
    apply List.ext_getElem
    · simp [vals]
    · intro i h1 h2
      have : i < D.length := by simpa using h2
      simp [vals, this]
  rw [← e]
  exact hp.map _
/-- one step of going over the marks -/
theorem step_marks (w : World) (it mb c0 : Nat) (D : MapD) (seen : List Nat) (hit : w.heap[it]? = some (.mapIter (some mb) D.length seen.toArray c0)) (hm : w.heap[mb]? = some (.map (esOf D) D.length)) (hc : D.length ≤ c0) :
    ((∀ i, i < D.length → i ∈ seen) ∧ (Instr.next (.pointer (some ⟨it, 0, none⟩)) false 0).run Try.prog w = .ok (.tuple #[.bool false]) w) ∨
    ∃ i, ∃ hi : i < D.length, i ∉ seen ∧ ∃ w2 : World, (Instr.next (.pointer (some ⟨it, 0, none⟩)) false 0).run Try.prog w = .ok (.tuple #[.bool true, .int .i64 D[i].1, pv D[i].2]) w2 ∧ w2.heap[it]? = some (.mapIter (some mb) D.length (seen ++ [i]).toArray D.length) ∧ w.grownBy w2 (some it) ∧ w2.heap.size = w.heap.size ∧ (it ≠ mb → (Instr.entry (.pointer (some ⟨it, 0, none⟩))).run Try.prog w2 = .ok (.tuple #[.int .i64 D[i].1, pv D[i].2]) w2) := by
  have hlt : it < w.heap.size := (Array.getElem?_eq_some_iff.1 hit).1
  rcases run_next_at (P := Try.prog) w 0 it mb D.length c0 seen.toArray (esOf D) D.length hit hm (born_lt D) hc with ⟨h0, hr⟩ | ⟨e, he, w1, hw1, hr⟩
  · refine .inl ⟨fun i hi => ?_, hr⟩
    by_cases hs : i ∈ seen
    · exact hs
    · exfalso
      have hg := esOf_get D i hi
      have hmem : (⟨.int .i64 D[i].1, pv D[i].2, i⟩ : MapEntry) ∈ leftOf (esOf D) seen.toArray := by
        unfold leftOf
        rw [Array.mem_filter]
        exact ⟨Array.mem_of_getElem? hg, by simpa using hs⟩
      have := Array.eq_empty_of_size_eq_zero h0
      rw [this] at hmem
      simp at hmem
  · have he' : e ∈ (esOf D).toList ∧ e.born ∉ seen := by
      unfold leftOf at he
      simpa using he
    obtain ⟨i, hi, rfl⟩ := mem_es D e he'.1
    have hw : w1.heap = w.heap ∧ w1.os = w.os ∧ w1.tape = w.tape ∧ w1.output = w.output := by rcases hw1 with rfl | rfl <;> exact ⟨rfl, rfl, rfl, rfl⟩
    have hap : (seen ++ [i]).toArray = seen.toArray.push i := by simp
    have h2 : (setBlock w1 it (.mapIter (some mb) D.length (seen.toArray.push i) D.length)).heap[it]? = some (.mapIter (some mb) D.length (seen.toArray.push i) D.length) := by
      show (w1.heap.setIfInBounds it _)[it]? = _
      rw [hw.1]; simp [hlt]
    refine .inr ⟨i, hi, he'.2, _, hr, by rw [hap]; exact h2, ⟨hw.2.1, hw.2.2.1, hw.2.2.2, ?_, fun k hk hne => ?_⟩, ?_, fun hne => ?_⟩
    · show w.heap.size ≤ (w1.heap.setIfInBounds it _).size
      rw [hw.1]; simp
    · show (w1.heap.setIfInBounds it _)[k]? = _
      rw [hw.1, Array.getElem?_setIfInBounds_ne (fun e => hne (by rw [e]))]
    · show (w1.heap.setIfInBounds it _).size = _
      rw [hw.1]; simp
    · have hm2 : (setBlock w1 it (.mapIter (some mb) D.length (seen.toArray.push i) D.length)).heap[mb]? = some (.map (esOf D) D.length) := by
        show (w1.heap.setIfInBounds it _)[mb]? = _
        rw [hw.1, Array.getElem?_setIfInBounds_ne hne]; exact hm
      exact run_entry_at (P := Try.prog) _ it mb D.length seen.toArray (esOf D) D.length ⟨.int .i64 D[i].1, pv D[i].2, i⟩ h2 hm2 he'.1 (born_nodup D)

end Go.Proofs.Ytbpajfjeakffkaa

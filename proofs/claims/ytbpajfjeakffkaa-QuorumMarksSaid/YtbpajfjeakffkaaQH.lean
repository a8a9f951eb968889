/- maps.Values at marks; places; Least and Have of marks. -/
import Derived.Test.YtbpajfjeakffkaaQG
namespace Go.Proofs.Ytbpajfjeakffkaa
open Go.RowKit Go.Sort Go.Shelf
open Go.ChangeMaps (setBlock)
attribute [local go_sem] Oper.semAt_some

theorem ownP_mono {w : World} {base base' : Nat} {v : Value} {l : List Pl} (h : OwnP w base v l) (hb : base' ≤ base) : OwnP w base' v l := by
  rcases h.2 with ⟨h', h2⟩ | ⟨g', cap', cur, h', hg', hr⟩
  · exact ⟨h.1, .inl ⟨h', h2⟩⟩
  · exact ⟨h.1, .inr ⟨g', cap', cur, h', Nat.le_trans hb hg', hr⟩⟩
set_option maxRecDepth 100000 in
set_option maxHeartbeats 4000000 in
theorem values56_in (F : Fence) (n : Nat) (h56 : F.fn 56) (hro : F.round = none) (hn : 1 ≤ n) (l Bs n₀ mb : Nat) (D : MapD) (J Jx : List Pl → World → Prop) (W : World) (hn0 : n₀ ≤ W.heap.size) (hmb : mb < n₀) (hJ : AbidesFrom W.heap.size J)
    (hY : ∀ pre x W, J pre W → pre.length < D.length → YieldAt F (n - 1) Try.prog l #[pv x] W fun e W' =>
      (e = .returned (.bool true) ∧ J (pre ++ [x]) W' ∧ RowKit.Below n₀ W W' ∧ KeepsWalks W W') ∨ (e = .returned (.bool false) ∧ Jx (pre ++ [x]) W'))
    (hBs : W.cell? ⟨Bs, 0, none⟩ = some (.map (some mb))) (hm : W.heap[mb]? = some (.map (esOf D) D.length)) (h0 : J [] W) :
    CallsIn F n Try.prog 56 #[.func (.yield l) #[] #[], .pointer (some ⟨Bs, 0, none⟩)] W fun e W' => (∃ v, e = .returned v) ∧
      ((∃ ys, ys.Perm (D.map (·.2)) ∧ J ys W') ∨ (∃ pre, True ∧ Jx pre W')) := by
  refine callsIn_of_wp Try.func56 rfl h56 ?_ hro
  simp only [Try.ntmps56, List.size_toArray, List.length_cons, List.length_nil, Nat.reduceAdd, Nat.reduceSub, Array.replicate_succ, Array.replicate_zero, List.push_toArray, List.append_toArray, List.nil_append, List.cons_append]
  have HJ := Lib.hid hJ
  have hrg := run_range_map (P := Try.prog) W 50 3 26 mb (esOf D) D.length Try.underlying50 hm
  clear hJ
  gi_wp2
  have hJ0 : J [] (W.alloc (.mapIter (some mb) D.length #[] D.length)) := HJ.out _ W _ none h0 (World.grownBy_alloc W _ none) (fun r e => by cases e)
  have hi0 : (W.alloc (.mapIter (some mb) D.length #[] D.length)).heap[W.heap.size]? = some (.mapIter (some mb) D.length ([] : List Nat).toArray D.length) := heap_alloc_new _ _
  have hb0 : RowKit.Below n₀ W (W.alloc (.mapIter (some mb) D.length #[] D.length)) := (RowKit.Below.refl _ _).alloc hn0 _
  clear hrg
  gi_loopw [4] (fun _ wr => ∃ seen c0, wr.heap[W.heap.size]? = some (.mapIter (some mb) D.length seen.toArray c0) ∧ D.length ≤ c0 ∧ seen.Nodup ∧ (∀ i ∈ seen, i < D.length) ∧ J (vals D seen) wr ∧ RowKit.Below n₀ W wr) (fun _ wr => D.length - seenOf wr W.heap.size)
  case atStart => exact ⟨[], D.length, hi0, Nat.le_refl _, List.nodup_nil, fun i h => (by cases h), hJ0, hb0⟩
  case round =>
    clear hJ0 hi0 hb0
    obtain ⟨seen, c0, hit, hc, hnd, hall, hJs, hbl⟩ := hrel
    have hmr : wr.heap[mb]? = some (.map (esOf D) D.length) := (hbl.block _ hmb).trans hm
    have hne : W.heap.size ≠ mb := by omega
    rcases step_marks wr W.heap.size mb c0 D seen hit hmr hc with ⟨hful, hrun⟩ | ⟨i, hi, hns, w2, hrun, hit2, hg2, hs2, hen⟩
    · have HP := Lib.hid (vals_perm D seen hnd hall hful)
      clear hful hnd hall
      gi_wp2
      go_end0
      exact ⟨⟨_, rfl⟩, .inl ⟨_, HP.out, hJs⟩⟩
    · replace hen := hen hne
      have hsz2 : W.heap.size < wr.heap.size := (Array.getElem?_eq_some_iff.1 hit).1
      have hlen : seen.length < D.length := by
        have h1 : (seen ++ [i]).Nodup := by
          rw [List.nodup_append]
          exact ⟨hnd, by simp, fun a ha b hb e => by simp at hb; subst hb; subst e; exact hns ha⟩
        have h2 := List.Nodup.length_le_of_subset (l₂ := List.range D.length) h1 (fun x hx => by
          rw [List.mem_range]
          rcases List.mem_append.1 hx with h | h
          · exact hall x h
          · simp at h; omega)
        simp at h2; omega
      have HND : Hid ((seen ++ [i]).Nodup ∧ ∀ x ∈ seen ++ [i], x < D.length) := ⟨by
        rw [List.nodup_append]
        exact ⟨hnd, by simp, fun a ha b hb e => by simp at hb; subst hb; subst e; exact hns ha⟩, fun x hx => by
        rcases List.mem_append.1 hx with h | h
        · exact hall x h
        · simp at h; omega⟩
      have HV : Hid (vals D (seen ++ [i]) = vals D seen ++ [D[i].2]) := by show _ = _; simp [vals, hi]
      have hb2 : RowKit.Below n₀ wr w2 := (RowKit.Below.refl _ _).grown hg2 (Nat.le_trans hn0 (by omega)) (fun k e => by cases e; exact hn0)
      obtain ⟨x, hx⟩ : ∃ x, D[i] = x := ⟨_, rfl⟩
      rw [hx] at hrun hen HV
      clear hx hnd hall hns
      have hJ2 : J (vals D seen) (w2.alloc (.cells #[.int .u64 x.2.1, .int .u64 x.2.2] 26)) :=
        HJ.out _ w2 _ none (HJ.out _ wr _ (some W.heap.size) hJs hg2 (fun r e => by cases e; exact ⟨Nat.le_refl _, _, hit, rfl⟩)) (World.grownBy_alloc w2 _ none) (fun r e => by cases e)
      obtain ⟨fn, tmps, assign, body, hy, hR⟩ := hY _ x.2 _ hJ2 (by simpa [vals] using hlen)
      have HR := Lib.hid hR
      have HI := Lib.hid (And.intro hit (And.intro hit2 (And.intro hg2 (And.intro hs2 (And.intro hb2 hbl)))))
      clear hR hit hit2 hg2 hs2 hb2 hbl hmr
      gi_wp2
      refine HR.out.mono ?_
      obtain ⟨hit, hit2, hg2, hs2, hb2, hbl⟩ := HI.out
      have hbA : RowKit.Below n₀ w2 (w2.alloc (.cells #[.int .u64 x.2.1, .int .u64 x.2.2] 26)) := (RowKit.Below.refl _ _).alloc (by omega) _
      rintro e W3 (⟨rfl, hJ3, hk3, hkw⟩ | ⟨rfl, hJx3⟩)
      · have hit3 := hkw.same W.heap.size _ ((heap_alloc_old w2 _ ((Array.getElem?_eq_some_iff.1 hit2).1)).trans hit2) rfl
        clear hen hrun hy
        gi_wp2
        go_roundw
        case rel => exact ⟨seen ++ [i], D.length, hit3, Nat.le_refl _, HND.out.1, HND.out.2, by rw [HV.out]; exact hJ3, hbl.trans (hb2.trans (hbA.trans hk3))⟩
        case measure => simp only [seenOf, hit3, hit, List.size_toArray, List.length_append, List.length_cons, List.length_nil]; omega
      · clear hen hrun hy
        gi_wp2
        refine bodyPost_ret (results_none rfl _ _ _) rfl ?_
        exact ⟨⟨_, rfl⟩, .inr ⟨_, trivial, hJx3⟩⟩
theorem values56_stops (F : Fence) (n : Nat) (h56 : F.fn 56) (hro : F.round = none) (hn : 1 ≤ n) (Bs n₀ mb : Nat) (D : MapD) (w : World) (hBs : Bs < w.heap.size) (hn0 : n₀ ≤ w.heap.size) (hmb : mb < n₀)
    (hc : w.cell? ⟨Bs, 0, none⟩ = some (.map (some mb))) (hm : w.heap[mb]? = some (.map (esOf D) D.length)) :
    SeqStopsK F n Try.prog 56 #[.pointer (some ⟨Bs, 0, none⟩)] (fun x : Pl => #[pv x]) (fun A B => RowKit.Below n₀ A B ∧ KeepsWalks A B) (fun ys => ys.Perm (D.map (·.2))) (fun _ => True) D.length w := fun l J Jx W hW hJ _ hY h0 =>
  values56_in F n h56 hro hn l Bs n₀ mb D J Jx W (Nat.le_trans hn0 hW.size) hmb hJ hY ((hW.cell (p := ⟨Bs, 0, none⟩) hBs).trans hc) ((hW.block _ (by omega)).trans hm) h0
theorem append55m (Bs mb : Nat) (D : MapD) (hD : D.length ≤ 1000000000) (w : World) (hBs : Bs < w.heap.size) (hmb : mb < w.heap.size) (hc : w.cell? ⟨Bs, 0, none⟩ = some (.map (some mb))) (hm : w.heap[mb]? = some (.map (esOf D) D.length)) :
    Calls Try.prog 55 #[.slice none 0 0, .func (.func 56) #[] #[.pointer (some ⟨Bs, 0, none⟩)]] w fun e W' => ∃ v L, e = .returned v ∧ L.Perm (D.map (·.2)) ∧ OwnP W' w.heap.size v L ∧ RowKit.Below w.heap.size w W' := by
  have hB0 : RowKit.Below w.heap.size w (w.alloc (.cells #[.slice none 0 0] 53)) := (RowKit.Below.refl _ w).alloc (Nat.le_refl _) _
  exact callsIn_wide.1 (append55_gen Fence.wide 3 trivial 56 trivial _ (enters_of Try.func56 (by kernel_rfl) rfl) rfl (by omega) D.length hD _ (fun _ => True) w
    (values56_stops Fence.wide (3 - 1) trivial rfl (by omega) Bs w.heap.size mb D _ (by simp; omega) (by simp) hmb ((hB0.cell (p := ⟨Bs, 0, none⟩) hBs).trans hc) ((hB0.block _ hmb).trans hm)))
theorem collect46m (Bs mb : Nat) (D : MapD) (hD : D.length ≤ 1000000000) (w : World) (hBs : Bs < w.heap.size) (hmb : mb < w.heap.size) (hc : w.cell? ⟨Bs, 0, none⟩ = some (.map (some mb))) (hm : w.heap[mb]? = some (.map (esOf D) D.length)) :
    Calls Try.prog 46 #[.func (.func 56) #[] #[.pointer (some ⟨Bs, 0, none⟩)]] w fun e W' => ∃ v L, e = .returned v ∧ L.Perm (D.map (·.2)) ∧ OwnP W' w.heap.size v L ∧ RowKit.Below w.heap.size w W' := by
  have P := Lib.hid (append55m Bs mb D hD w hBs hmb hc hm)
  go_enter Try.func46, Try.ntmps46
  go_wp2_with (go_at_call 55; refine P.out.mono ?_; rintro e w1 ⟨v, L, rfl, h1, h2, h3⟩)
  go_ret
  exact ⟨v, L, rfl, h1, h2, h3⟩
theorem values47 (m : Option Nat) (w : World) : Calls Try.prog 47 #[.map m] w fun e w' => e = .returned (.func (.func 56) #[] #[.pointer (some ⟨w.heap.size, 0, none⟩)]) ∧ w' = w.alloc (.cells #[.map m] 50) := by
  go_enter Try.func47, Try.ntmps47
  go_wp2
  go_ret
  exact ⟨rfl, rfl⟩
set_option maxHeartbeats 1600000 in
theorem places36 (mp mb : Nat) (D : MapD) (hD : D.length ≤ 1000000000) (w : World) (h : MS w mp mb D) :
    Calls Try.prog 36 #[.pointer (some ⟨mp, 0, none⟩)] w fun e w' => ∃ v L, e = .returned v ∧ L.Perm (D.map (·.2)) ∧ OwnP w' w.heap.size v L ∧ RowKit.Below w.heap.size w w' := by
  have hz : w.cell? ⟨mp, 0, none⟩ = some (.map (some mb)) := cell_of_row _ _ 0 _ _ _ h.cell
  have PT := Lib.hid (there32 mp mb D w h)
  have hmb : mb < w.heap.size := (Array.getElem?_eq_some_iff.1 h.map).1
  have hB : RowKit.Below w.heap.size w (w.alloc (.cells #[.map (some mb)] 50)) := (RowKit.Below.refl _ w).alloc (Nat.le_refl _) _
  have PC := Lib.hid (collect46m w.heap.size mb D hD (w.alloc (.cells #[.map (some mb)] 50)) (by simp) (by simp; omega) (by rw [cell_of_row _ _ _ _ _ _ (heap_alloc_new w _)]; rfl) ((hB.block _ hmb).trans h.map))
  clear h
  go_enter Try.func36, Try.ntmps36
  go_wp2_with (first | (go_at_call 32; refine PT.out.mono ?_; rintro e w1 ⟨rfl, rfl⟩) | (go_at_call 47; refine (values47 _ _).mono ?_; rintro e w2 ⟨rfl, rfl⟩) | (go_at_call 46; refine PC.out.mono ?_; rintro e w3 ⟨v, L, rfl, h1, h2, h3⟩))
  go_ret
  exact ⟨v, L, rfl, h1, ownP_mono h2 (by simp), hB.trans (h3.mono (by simp))⟩

end Go.Proofs.Ytbpajfjeakffkaa

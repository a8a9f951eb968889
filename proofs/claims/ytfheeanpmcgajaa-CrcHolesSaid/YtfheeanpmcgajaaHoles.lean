/- The walk of understudylaw02.CrcHoles: it returns true for any bytes and any two numbers. -/
import Derived.Test.YtfheeanpmcgajaaOwn
namespace Go.Proofs.Ytfheeanpmcgajaa
open Go.RowKit CrcM

set_option maxRecDepth 100000 in
set_option maxHeartbeats 800000 in
theorem holes_out (a b : Option Addr) (ca cb : Nat) (la lb : List UInt8) (n m : Int) (w : World) (hla : la.length ≤ 9223372036854775807) (hlb : lb.length ≤ 9223372036854775807)
    (h : ¬ (la.length ≤ 9000 ∧ lb.length ≤ 9000 ∧ 0 ≤ n ∧ 0 ≤ m ∧ n ≤ 1099511627776 ∧ m ≤ 1099511627776)) :
    Calls Try.prog 5 #[.slice a la.length ca, .slice b lb.length cb, .int .i64 n, .int .i64 m] w fun e w' => e = .returned (.bool true) ∧ Below w.heap.size w w' := by
  have hc : 9000 < la.length ∨ (la.length ≤ 9000 ∧ 9000 < lb.length) ∨ (la.length ≤ 9000 ∧ lb.length ≤ 9000 ∧ n < 0) ∨ (la.length ≤ 9000 ∧ lb.length ≤ 9000 ∧ 0 ≤ n ∧ m < 0) ∨
      (la.length ≤ 9000 ∧ lb.length ≤ 9000 ∧ 0 ≤ n ∧ 0 ≤ m ∧ 1099511627776 < n) ∨ (la.length ≤ 9000 ∧ lb.length ≤ 9000 ∧ 0 ≤ n ∧ 0 ≤ m ∧ n ≤ 1099511627776 ∧ 1099511627776 < m) := by omega
  clear h
  rcases hc with h1 | ⟨h1, h2⟩ | ⟨h1, h2, h3⟩ | ⟨h1, h2, h3, h4⟩ | ⟨h1, h2, h3, h4, h5⟩ | ⟨h1, h2, h3, h4, h5, h6⟩
  all_goals
    go_enter Try.func5, Try.ntmps5
    go_wp2_with (go_at_call 7; refine (known_any _).mono ?_; rintro e w' ⟨rfl, hb⟩)
    go_ret
    exact ⟨rfl, hb⟩

theorem far_back (n : Int) (hn : 0 ≤ n) (s : W) : farI (-n) (s ^^^ ones) ^^^ ones = s := by
  unfold farI
  rw [show (-n).toNat = 0 by omega, far_zero, BitVec.xor_assoc]; simp
theorem far_two (n m : Int) (hn : 0 ≤ n) (hm : 0 ≤ m) (s : W) : farI m (farI n (s ^^^ ones) ^^^ ones ^^^ ones) ^^^ ones = farI (n + m) (s ^^^ ones) ^^^ ones := by
  unfold farI
  rw [BitVec.xor_assoc, BitVec.xor_self, BitVec.xor_zero, ← far_add, show (n + m).toNat = n.toNat + m.toNat by omega]
theorem sum_hole (la lb : List UInt8) (N : Nat) (s : W) (h : sum la = s) : sum (la ++ (List.replicate N 0 ++ lb)) = farI (lb.length : Int) (farI (N : Int) (s ^^^ ones) ^^^ ones) ^^^ sum lb := by
  rw [← List.append_assoc, sum_append, show sum (la ++ List.replicate N 0) = more (sum la) (List.replicate N 0) from more_append _ _ _, h, ← zeros_more]
  rfl
theorem BBs_three {w : World} {a b c : Option Addr} {ca cb cc n : Nat} {l m k : List UInt8} (hn : n = w.heap.size) (h : Bs w a l) (h' : Bs w b m) (h'' : Bs w c k) (hl : l.length ≤ 9223372036854775807) (hm : m.length ≤ 9223372036854775807) (hk : k.length ≤ 9223372036854775807) :
    BBs (w.alloc (.cells #[.slice a l.length ca, .slice b m.length cb, .slice c k.length cc] 22)) (some ⟨n, 0, none⟩) [l, m, k] := by
  subst hn
  exact ⟨fun _ => ⟨_, _, rfl⟩, fun b' o e i hi => by
    obtain ⟨rfl, rfl, _⟩ := e
    have : i = 0 ∨ i = 1 ∨ i = 2 := by simp at hi; omega
    rcases this with rfl | rfl | rfl
    · exact ⟨a, ca, by rw [cell_of_row _ _ _ _ _ _ (heap_alloc_new _ _)]; rfl, h.below (below_alloc _ _), hl⟩
    · exact ⟨b, cb, by rw [cell_of_row _ _ _ _ _ _ (heap_alloc_new _ _)]; rfl, h'.below (below_alloc _ _), hm⟩
    · exact ⟨c, cc, by rw [cell_of_row _ _ _ _ _ _ (heap_alloc_new _ _)]; rfl, h''.below (below_alloc _ _), hk⟩⟩
theorem Sum_three (x : Option Addr) (cap : Nat) (l m k : List UInt8) (w : World) (h : BBs w x [l, m, k]) :
    Calls Try.prog 9 #[.slice x 3 cap] w fun e w' => e = .returned (.int .u32 (c32 (sum (l ++ (m ++ k))))) ∧ Below w.heap.size w w' := by
  have := Sum_any x cap [l, m, k] w h (by simp)
  simpa using this
set_option maxRecDepth 100000 in
set_option maxHeartbeats 1600000 in
theorem holes_in (a b : Option Addr) (ca cb : Nat) (la lb : List UInt8) (n m : Int) (w : World) (ha : Bs w a la) (hb : Bs w b lb)
    (h1 : la.length ≤ 9000) (h2 : lb.length ≤ 9000) (h3 : 0 ≤ n) (h4 : 0 ≤ m) (h5 : n ≤ 1099511627776) (h6 : m ≤ 1099511627776) :
    Calls Try.prog 5 #[.slice a la.length ca, .slice b lb.length cb, .int .i64 n, .int .i64 m] w fun e w' => e = .returned (.bool true) ∧ Below w.heap.size w w' := by
  have hB1 := BBs_one (cap := ca) ha (by omega)
  obtain ⟨s, hs⟩ : ∃ s, sum la = s := ⟨_, rfl⟩
  have HS := Lib.hid hs
  have f1 := far_back n h3 s
  have f2 := far_two n m h3 h4 s
  have x1 := xor_ones s
  have x2 := xor_ones (farI n (s ^^^ ones))
  go_enter Try.func5, Try.ntmps5
  go_wp2_with fail
  refine (Sum_one _ _ la _ hB1).mono ?_
  rintro e w1 ⟨rfl, hb1⟩
  rw [hs]
  clear hs
  by_cases h9 : 9000 < n
  · go_wp2_with (first | (go_at_call 14; refine (Zeros_any _ _ (by omega) _).mono ?_; rintro e w' ⟨rfl, rfl⟩) | (go_at_call 15; refine (Far_any _ _ (by omega) _).mono ?_; rintro e w2 ⟨rfl, hb2⟩) | (go_at_call 7; refine (known_any _).mono ?_; rintro e w3 ⟨rfl, hb3⟩))
    go_ret
    refine ⟨rfl, belT (belT (belT (below_alloc _ _) hb1) hb2) hb3⟩
  · obtain ⟨N, rfl⟩ : ∃ N : Nat, n = (N : Int) := ⟨n.toNat, by omega⟩
    have hR := sum_hole la lb N s HS.out
    have hR2 : more s (List.replicate N 0) = farI (N : Int) (s ^^^ ones) ^^^ ones := by rw [← zeros_more]; rfl
    go_wp2_with (first | (go_at_call 14; refine (Zeros_any _ _ (by omega) _).mono ?_; rintro e w' ⟨rfl, rfl⟩) | (go_at_call 15; refine (Far_any _ _ (by omega) _).mono ?_; rintro e w2 ⟨rfl, hb2⟩) | (refine wpList_make_b rfl (.tmp 76) (.tmp 76) rfl w2.heap.size N _ rfl rfl rfl (by omega) (Nat.le_refl _) ?_; intro w3 hown3 hg3) | (go_at_call 9; fail))
    have hb3 := below_grown hg3
    obtain ⟨a3, c3, e3, hole, hl3, hn3⟩ := hown3.form
    simp only [Value.slice.injEq] at e3
    obtain ⟨rfl, -, rfl⟩ := e3
    have hA := (((ha.below (below_alloc _ _)).below hb1).below hb2).below hb3
    have hB := (((hb.below (below_alloc _ _)).below hb1).below hb2).below hb3
    have hBB := BBs_three (ca := ca) (cb := N) (cc := cb) rfl hA hole hB (by omega) (by simp; omega) (by omega)
    rw [List.length_replicate] at hBB
    refine (Sum_three _ _ la (List.replicate N 0) lb _ hBB).mono ?_
    rintro e w4 ⟨rfl, hb4⟩
    rw [hR]
    have hB4 := (hB.below (below_alloc _ _)).below hb4
    have hO4 := (hole.below (below_alloc _ _)).below hb4
    have hB1' := BBs_one (cap := cb) hB4 (by omega)
    have hO5 : ∀ w5, Below (w4.heap.size + 1) (w4.alloc (.cells #[.slice b lb.length cb] 22)) w5 → Bs w5 (some ⟨w2.heap.size, 0, none⟩) (List.replicate N 0) := fun w5 h => (hO4.below (below_alloc _ _)).below (by simpa using h)
    clear hown3 hg3 hole hn3 hA hB hBB hR
    go_wp2_with (first | (go_at_call 14; refine (Zeros_any _ _ (by omega) _).mono ?_; rintro e w' ⟨rfl, rfl⟩) | (go_at_call 9; refine (Sum_one _ _ lb _ hB1').mono ?_; rintro e w5 ⟨rfl, hb5⟩; (try simp only [World.size_alloc] at hb5)) | (go_at_call 11; refine (Join_any _ _ _ (by omega) _).mono ?_; rintro e w6 ⟨rfl, rfl⟩) | (go_at_call 12; fail) | (go_at_call 7; fail))
    have hM := More_any s (some ⟨w2.heap.size, 0, none⟩) N (List.replicate N 0) w5 (hO5 _ hb5) (by simp; omega)
    rw [List.length_replicate, hR2] at hM
    refine hM.mono ?_
    rintro e w6 ⟨rfl, hb6⟩
    clear hM
    go_wp2_with (go_at_call 7; refine (known_any _).mono ?_; rintro e w7 ⟨rfl, hb7⟩)
    go_ret
    refine ⟨rfl, belT (belT (belT (belT (belT (belT (belT (belT (belT (below_alloc _ _) hb1) hb2) hb3) (below_alloc _ _)) hb4) (below_alloc _ _)) (by simpa using hb5)) hb6) hb7⟩
end Go.Proofs.Ytfheeanpmcgajaa

/- The walk of understudylaw02.CrcPages: it returns true for any two rows of bytes, any place and any word. -/
import Derived.Test.YtfheeanpmcgajaaOwn
import Derived.Deep.RegionHeld3
import Derived.WalkLawsBesides
import Derived.Deep.RegionLaw
namespace Go.Proofs.Ytfheeanpmcgajaa
open Go.RowKit CrcM

set_option maxRecDepth 100000 in
set_option maxHeartbeats 1600000 in
theorem pages_big (a b : Option Addr) (ca cb : Nat) (la lb : List UInt8) (t : Int) (s : W) (w : World) (hla : la.length ≤ 9223372036854775807) (hlb : lb.length ≤ 9223372036854775807)
    (h : 20000 < la.length ∨ 20000 < lb.length) :
    Calls Try.prog 3 #[.slice a la.length ca, .slice b lb.length cb, .int .i64 t, .int .u32 (c32 s)] w fun e w' => e = .returned (.bool true) ∧ Below w.heap.size w w' := by
  have hc : 20000 < la.length ∨ (la.length ≤ 20000 ∧ 20000 < lb.length) := by omega
  clear h
  rcases hc with h1 | ⟨h1, h2⟩
  all_goals
    go_enter Try.func3, Try.ntmps3
    go_wp2_with (go_at_call 7; refine (known_any _).mono ?_; rintro e w' ⟨rfl, hb⟩)
    go_ret
    exact ⟨rfl, hb⟩
/-- pieces in a row -/
def bx (L : List (List UInt8)) : MV := ⟨fun v w => ∃ x cap, v = .slice (some x) L.length cap ∧ BBs w (some x) L, fun _ _ _ hb ⟨x, cap, h1, h2⟩ => ⟨x, cap, h1, h2.below hb⟩⟩
set_option linter.unusedSimpArgs false in
set_option maxRecDepth 100000 in
set_option maxHeartbeats 3200000 in
theorem pages_mid (a b : Option Addr) (ca cb : Nat) (la lb : List UInt8) (t : Int) (s : W) (w : World) (ha : Bs w a la) (hb : Bs w b lb) (hca : la.length ≤ ca) (hcb : lb.length ≤ cb) (hna : a = none → ca = 0) (hnb : b = none → cb = 0)
    (h1 : la.length ≤ 20000) (h2 : lb.length ≤ 20000) :
    Calls Try.prog 3 #[.slice a la.length ca, .slice b lb.length cb, .int .i64 t, .int .u32 (c32 s)] w fun e w' => e = .returned (.bool true) ∧ Below w.heap.size w w' := by
  obtain ⟨S0, hS⟩ : ∃ S0, sum la = S0 := ⟨_, rfl⟩
  have HS := Lib.hid hS
  go_enter Try.func3, Try.ntmps3
  go_wp2_with (first | (at_builtin; refine wpList_append_b rfl _ _ rfl w.heap.size _ [] rfl (OwnB.nil _ _) a la la.length ca rfl rfl ha hna (by simp; omega) (Nat.le_refl _) ?_; intro v1 w1 hown1 hg1) | fail)
  have hbel1 : Below w.heap.size w w1 := below_grown_own (Below.refl _ _) (Nat.le_refl _) (OwnB.nil _ _) hg1
  rw [List.nil_append] at hown1
  obtain ⟨x1, c1, rfl, hB1, hc1, hn1⟩ := hown1.form
  have ha1 := ha.below hbel1
  have hb1 := hb.below hbel1
  have hcs := conv_str a ca la
  have hcs1 := conv_str x1 c1 la
  clear hown1 hg1 hn1
  go_wp2_with fail
  refine (refSum_any _ _ la _ ha1 (by omega)).mono ?_
  rintro e w1' ⟨rfl, rfl⟩
  rw [hS]
  clear hS
  go_wp2_with fail
  refine (Sum_one _ _ la _ (BBs_one hB1 (by omega))).mono ?_
  rintro e w2 ⟨rfl, hb2⟩
  rw [HS.out]
  have hB2 := (hB1.below (below_alloc _ _)).below hb2
  have ha2 := (ha1.below (below_alloc _ _)).below hb2
  have hbb2 := (hb1.below (below_alloc _ _)).below hb2
  go_wp2_with fail
  have hH1 := Holds_any x1 c1 la S0 w2 hB2 (by omega)
  rw [HS.out] at hH1
  refine hH1.mono ?_
  rintro e w3 ⟨rfl, hb3⟩
  have hB3 := hB2.below hb3
  clear hH1
  go_wp2_with fail
  have hH2 := Holds_any x1 c1 la s w3 hB3 (by omega)
  rw [HS.out, ← c32_beq] at hH2
  refine hH2.mono ?_
  rintro e w4 ⟨rfl, hb4⟩
  have e1 := hcs1 w4 (hB3.below hb4)
  have e2 := hcs w4 ((ha2.below hb3).below hb4)
  clear hH2 hcs hcs1
  by_cases hlo : t < 0
  · go_wp2_with (go_at_call 7; refine (known_any _).mono ?_; rintro e w5 ⟨rfl, hb5⟩)
    go_ret
    exact ⟨rfl, belT (belT (belT (belT (belT hbel1 (below_alloc _ _)) hb2) hb3) hb4) hb5⟩
  · obtain ⟨k, rfl⟩ : ∃ k : Nat, t = (k : Int) := ⟨t.toNat, by omega⟩
    by_cases hk1 : la.length < k
    · go_wp2_with (go_at_call 7; refine (known_any _).mono ?_; rintro e w5 ⟨rfl, hb5⟩)
      go_ret
      exact ⟨rfl, belT (belT (belT (belT (belT hbel1 (below_alloc _ _)) hb2) hb3) hb4) hb5⟩
    · by_cases hk2 : lb.length < k
      · go_wp2_with (go_at_call 7; refine (known_any _).mono ?_; rintro e w5 ⟨rfl, hb5⟩)
        go_ret
        exact ⟨rfl, belT (belT (belT (belT (belT hbel1 (below_alloc _ _)) hb2) hb3) hb4) hb5⟩
      · have hkk : (k : Int) ≤ (la.length : Int) ∧ (k : Int) ≤ (lb.length : Int) ∧ (0 : Int) ≤ (k : Int) := by omega
        have hkI : (k : Int) ≤ (la.length : Int) := by omega
        have hkI2 : (k : Int) ≤ (lb.length : Int) := by omega
        have hkI3 : (k : Int) ≤ (ca : Int) := by omega
        have hk0 : (0 : Int) ≤ (k : Int) := by omega
        have ha4 : Bs w4.drew a (la.take k) := (((ha2.below hb3).below hb4).takeL k).below ((Below.refl _ _).drew)
        have hb4' := (((hbb2.below hb3).below hb4).dropL k hcb).below ((Below.refl _ _).drew)
        have hl4 : (la.take k).length = k := by simp; omega
        clear hkk
        go_wp2_with fail
        have hnil2 : (if cb = k then b else Option.map (fun x => x.add k) b) = none → cb - k = 0 := by
          intro hnn
          split at hnn
          · omega
          · cases b with
            | none => rw [hnb rfl]; simp
            | some x => simp at hnn
        go_region_law (first | (refine step_append_b rfl (.const (.slice none 0 0)) (.tmp 69) rfl w4.heap.size (.slice none 0 0) [] (by simp [Act.eval, Act.put]) (OwnB.nil _ _) a (la.take k) k ca (by simp [Act.eval, Act.put]) hl4.symm ha4 hna (by simp; omega) (Nat.le_refl _) ?_; intro v5 w5 hown5 hg5; rw [List.nil_append] at hown5) | (refine step_append_b rfl (.tmp 70) (.tmp 73) rfl w4.heap.size v5 (la.take k) (by simp [Act.eval, Act.put]) hown5 (if cb = k then b else Option.map (fun x => x.add k) b) (lb.drop k) (lb.length - k) (cb - k) (by simp [Act.eval, Act.put]) (by simp) (hb4'.below (below_grown_own (Below.refl _ _) (Nat.le_refl _) (OwnB.nil _ _) hg5)) hnil2 (by simp; omega) hg5.size ?_; intro v6 w6 hown6 hg6))
        simp only [Act.put, List.getElem_toArray, List.getElem_cons_zero, List.getElem_cons_succ, List.setIfInBounds_toArray, List.set_cons_zero, List.set_cons_succ]
        obtain ⟨T, hT⟩ : ∃ T, la.take k ++ lb.drop k = T := ⟨_, rfl⟩
        rw [hT] at hown6
        have HT := Lib.hid hT
        have hTl : T.length ≤ 40000 := by rw [← hT]; simp; omega
        obtain ⟨x6, c6, rfl, hB6, hc6, hn6⟩ := hown6.form
        have b5 : Below w4.heap.size w4 w5 := below_grown_own ((Below.refl _ w4).drew) (Nat.le_refl _) (OwnB.nil _ _) hg5
        have b6 : Below w4.heap.size w4 w6 := below_grown_own b5 hg5.size hown5 hg6
        have hbel6 : Below w.heap.size w w6 := belT (belT (belT (belT (belT hbel1 (below_alloc _ _)) hb2) hb3) hb4) b6
        have ha6 : Bs w6 a (la.take k) := (((ha2.below hb3).below hb4).takeL k).below b6
        have hb6 : Bs w6 (if cb = k then b else Option.map (fun x => x.add k) b) (lb.drop k) := (((hbb2.below hb3).below hb4).dropL k hcb).below b6
        clear b5 b6
        clear hT hown6 hg6 hown5 hg5 ha4 hb4' hn6 hnil2
        generalize hD : (if cb = k then b else Option.map (fun x => x.add k) b) = D at hb6 ⊢
        have HD := Lib.hid hD
        clear hD
        have hTj : farI ((lb.length : Int) - (k : Int)) (sum (la.take k)) ^^^ sum (lb.drop k) = sum T := by
          rw [← HT.out, sum_append]
          unfold farI join
          rw [List.length_drop, show ((lb.length : Int) - (k : Int)).toNat = lb.length - k by omega]
        have hwr : IntKind.i64.wrap ((lb.length : Int) - (k : Int)) = (lb.length : Int) - (k : Int) := by rw [IntKind.wrap_i64]; omega
        have hBa := Lib.hid (show ∀ wi, Below w6.heap.size w6 wi → BBs (wi.alloc (.cells #[.slice a k ca] 22)) (some ⟨wi.heap.size, 0, none⟩) [la.take k] from fun wi hbi => by
          have := BBs_one' (cap := ca) (w := wi) rfl (ha6.below hbi) (by omega)
          rw [hl4] at this; exact this)
        have hBb := Lib.hid (show ∀ wi, Below w6.heap.size w6 wi → BBs (wi.alloc (.cells #[.slice D (lb.length - k) (cb - k)] 22)) (some ⟨wi.heap.size, 0, none⟩) [lb.drop k] from fun wi hbi => by
          have := BBs_one' (cap := cb - k) (w := wi) rfl (hb6.below hbi) (by simp; omega)
          rw [List.length_drop] at this; exact this)
        go_wp2_with fail
        refine wp_region_mv [pv (.slice x6 T.length c6), bx [T], pv (.int .u32 (c32 (sum T))), pv (.slice a la.length ca), pv (.int .i64 k), pv (.slice a k ca), bx [la.take k], pv (.int .u32 (c32 (sum (la.take k)))),
          pv (.slice b lb.length cb), pv (.int .i64 k), pv (.slice D (lb.length - k) (cb - k)), bx [lb.drop k], pv (.int .u32 (c32 (sum (lb.drop k)))), pv (.slice b lb.length cb),
          pv (.int .i64 lb.length), pv (.int .i64 k), pv (.int .i64 (lb.length - k)), pv (.int .u32 (c32 (sum T))), pv (.bool true), pv (.bool true), pv (.slice x6 T.length c6), pv (.slice x6 T.length c6), pv (.int .u32 (c32 (sum T))),
          pv (.bool true), pv (.bool true), pv (.bool true), pv (.bool true), pv (.bool true), pv (.bool true)] (by kernel_rfl) (by kernel_rfl) ?_ ?_
        · intro vs
          refine ⟨?_, ?_⟩
          · intro wi hbi hd
            simp only [phiOf, List.getD_cons_zero, List.getD_cons_succ]
            refine stepV rfl ?_ rfl
            go_simp
          simp only [Act.put, List.setIfInBounds_toArray, List.set_cons_zero, List.set_cons_succ]
          refine ⟨?_, ?_⟩
          · intro wi hbi hd
            simp only [phiOf, List.getD_cons_zero, List.getD_cons_succ]
            simp only [DepsHold, Region.binds, phiOf, List.getD_cons_zero, List.getD_cons_succ, pv, forall_const, and_true] at hd
            have d0 := hd; clear hd
            refine stepR rfl (v := .slice (some ⟨wi.heap.size, 0, none⟩) 1 1) (w' := wi.alloc (.cells #[.slice x6 T.length c6] 22)) ?_ (below_alloc _ _) ⟨_, _, rfl, BBs_one' rfl (hB6.below hbi) (by omega)⟩
            go_simp
          simp only [Act.put, List.setIfInBounds_toArray, List.set_cons_zero, List.set_cons_succ]
          refine ⟨?_, ?_⟩
          · intro wi hbi hd
            simp only [phiOf, List.getD_cons_zero, List.getD_cons_succ]
            simp only [DepsHold, Region.binds, phiOf, List.getD_cons_zero, List.getD_cons_succ, pv, forall_const, and_true] at hd
            have d1 := hd; clear hd
            obtain ⟨x, cap, e, hx⟩ := d1
            refine stepC rfl (f := 9) (args := #[.slice (some x) 1 cap]) (w1 := wi) ?_ (Sum_one _ _ _ _ hx) ?_
            · go_simp
            · rintro e w' ⟨rfl, hb⟩; exact ⟨_, rfl, hb, rfl⟩
          simp only [Act.put, List.setIfInBounds_toArray, List.set_cons_zero, List.set_cons_succ]
          refine ⟨?_, ?_⟩
          · intro wi hbi hd
            simp only [phiOf, List.getD_cons_zero, List.getD_cons_succ]
            refine stepV rfl ?_ rfl
            go_simp
          simp only [Act.put, List.setIfInBounds_toArray, List.set_cons_zero, List.set_cons_succ]
          refine ⟨?_, ?_⟩
          · intro wi hbi hd
            simp only [phiOf, List.getD_cons_zero, List.getD_cons_succ]
            refine stepV rfl ?_ rfl
            go_simp
          simp only [Act.put, List.setIfInBounds_toArray, List.set_cons_zero, List.set_cons_succ]
          refine ⟨?_, ?_⟩
          · intro wi hbi hd
            simp only [phiOf, List.getD_cons_zero, List.getD_cons_succ]
            simp only [DepsHold, Region.binds, phiOf, List.getD_cons_zero, List.getD_cons_succ, pv, forall_const, and_true] at hd
            obtain ⟨d3, d4⟩ := hd
            refine stepV rfl ?_ rfl
            go_simp
          simp only [Act.put, List.setIfInBounds_toArray, List.set_cons_zero, List.set_cons_succ]
          refine ⟨?_, ?_⟩
          · intro wi hbi hd
            simp only [phiOf, List.getD_cons_zero, List.getD_cons_succ]
            simp only [DepsHold, Region.binds, phiOf, List.getD_cons_zero, List.getD_cons_succ, pv, forall_const, and_true] at hd
            have d5 := hd; clear hd
            refine stepR rfl (v := .slice (some ⟨wi.heap.size, 0, none⟩) 1 1) (w' := wi.alloc (.cells #[.slice a k ca] 22)) ?_ (below_alloc _ _) ⟨_, _, rfl, hBa.out wi hbi⟩
            go_simp
          simp only [Act.put, List.setIfInBounds_toArray, List.set_cons_zero, List.set_cons_succ]
          refine ⟨?_, ?_⟩
          · intro wi hbi hd
            simp only [phiOf, List.getD_cons_zero, List.getD_cons_succ]
            simp only [DepsHold, Region.binds, phiOf, List.getD_cons_zero, List.getD_cons_succ, pv, forall_const, and_true] at hd
            obtain ⟨d6, d2⟩ := hd
            obtain ⟨x, cap, e, hx⟩ := d6
            refine stepC rfl (f := 9) (args := #[.slice (some x) 1 cap]) (w1 := wi) ?_ (Sum_one _ _ _ _ hx) ?_
            · go_simp
            · rintro e w' ⟨rfl, hb⟩; exact ⟨_, rfl, hb, rfl⟩
          simp only [Act.put, List.setIfInBounds_toArray, List.set_cons_zero, List.set_cons_succ]
          refine ⟨?_, ?_⟩
          · intro wi hbi hd
            simp only [phiOf, List.getD_cons_zero, List.getD_cons_succ]
            refine stepV rfl ?_ rfl
            go_simp
          simp only [Act.put, List.setIfInBounds_toArray, List.set_cons_zero, List.set_cons_succ]
          refine ⟨?_, ?_⟩
          · intro wi hbi hd
            simp only [phiOf, List.getD_cons_zero, List.getD_cons_succ]
            refine stepV rfl ?_ rfl
            go_simp
          simp only [Act.put, List.setIfInBounds_toArray, List.set_cons_zero, List.set_cons_succ]
          refine ⟨?_, ?_⟩
          · intro wi hbi hd
            simp only [phiOf, List.getD_cons_zero, List.getD_cons_succ]
            simp only [DepsHold, Region.binds, phiOf, List.getD_cons_zero, List.getD_cons_succ, pv, forall_const, and_true] at hd
            obtain ⟨d8, d9⟩ := hd
            refine stepV rfl (v := .slice (if cb = k then b else Option.map (fun x => x.add k) b) (lb.length - k) (cb - k)) ?_ (by rw [HD.out])
            go_simp
          simp only [Act.put, List.setIfInBounds_toArray, List.set_cons_zero, List.set_cons_succ]
          refine ⟨?_, ?_⟩
          · intro wi hbi hd
            simp only [phiOf, List.getD_cons_zero, List.getD_cons_succ]
            simp only [DepsHold, Region.binds, phiOf, List.getD_cons_zero, List.getD_cons_succ, pv, forall_const, and_true] at hd
            have d10 := hd; clear hd
            refine stepR rfl (v := .slice (some ⟨wi.heap.size, 0, none⟩) 1 1) (w' := wi.alloc (.cells #[.slice D (lb.length - k) (cb - k)] 22)) ?_ (below_alloc _ _) ⟨_, _, rfl, hBb.out wi hbi⟩
            go_simp
          simp only [Act.put, List.setIfInBounds_toArray, List.set_cons_zero, List.set_cons_succ]
          refine ⟨?_, ?_⟩
          · intro wi hbi hd
            simp only [phiOf, List.getD_cons_zero, List.getD_cons_succ]
            simp only [DepsHold, Region.binds, phiOf, List.getD_cons_zero, List.getD_cons_succ, pv, forall_const, and_true] at hd
            obtain ⟨d11, d7⟩ := hd
            obtain ⟨x, cap, e, hx⟩ := d11
            refine stepC rfl (f := 9) (args := #[.slice (some x) 1 cap]) (w1 := wi) ?_ (Sum_one _ _ _ _ hx) ?_
            · go_simp
            · rintro e w' ⟨rfl, hb⟩; exact ⟨_, rfl, hb, rfl⟩
          simp only [Act.put, List.setIfInBounds_toArray, List.set_cons_zero, List.set_cons_succ]
          refine ⟨?_, ?_⟩
          · intro wi hbi hd
            simp only [phiOf, List.getD_cons_zero, List.getD_cons_succ]
            refine stepV rfl ?_ rfl
            go_simp
          simp only [Act.put, List.setIfInBounds_toArray, List.set_cons_zero, List.set_cons_succ]
          refine ⟨?_, ?_⟩
          · intro wi hbi hd
            simp only [phiOf, List.getD_cons_zero, List.getD_cons_succ]
            simp only [DepsHold, Region.binds, phiOf, List.getD_cons_zero, List.getD_cons_succ, pv, forall_const, and_true] at hd
            have d13 := hd; clear hd
            refine stepV rfl ?_ rfl
            go_simp
          simp only [Act.put, List.setIfInBounds_toArray, List.set_cons_zero, List.set_cons_succ]
          refine ⟨?_, ?_⟩
          · intro wi hbi hd
            simp only [phiOf, List.getD_cons_zero, List.getD_cons_succ]
            refine stepV rfl ?_ rfl
            go_simp
          simp only [Act.put, List.setIfInBounds_toArray, List.set_cons_zero, List.set_cons_succ]
          refine ⟨?_, ?_⟩
          · intro wi hbi hd
            simp only [phiOf, List.getD_cons_zero, List.getD_cons_succ]
            simp only [DepsHold, Region.binds, phiOf, List.getD_cons_zero, List.getD_cons_succ, pv, forall_const, and_true] at hd
            obtain ⟨d14, d15⟩ := hd
            refine stepV rfl ?_ rfl
            go_simp
          simp only [Act.put, List.setIfInBounds_toArray, List.set_cons_zero, List.set_cons_succ]
          refine ⟨?_, ?_⟩
          · intro wi hbi hd
            simp only [phiOf, List.getD_cons_zero, List.getD_cons_succ]
            simp only [DepsHold, Region.binds, phiOf, List.getD_cons_zero, List.getD_cons_succ, pv, forall_const, and_true] at hd
            obtain ⟨d7, d12, d16, d12'⟩ := hd
            refine stepC rfl (f := 11) (args := #[.int .u32 (c32 (sum (la.take k))), .int .u32 (c32 (sum (lb.drop k))), .int .i64 (lb.length - k)]) (w1 := wi) ?_ (Join_any _ _ _ (by omega) _) ?_
            · go_simp
            · rintro e w' ⟨rfl, rfl⟩; exact ⟨_, rfl, Below.refl _ _, congrArg (fun x => Value.int .u32 (c32 x)) hTj⟩
          simp only [Act.put, List.setIfInBounds_toArray, List.set_cons_zero, List.set_cons_succ]
          refine ⟨?_, ?_⟩
          · intro wi hbi hd
            simp only [phiOf, List.getD_cons_zero, List.getD_cons_succ]
            simp only [DepsHold, Region.binds, phiOf, List.getD_cons_zero, List.getD_cons_succ, pv, forall_const, and_true] at hd
            obtain ⟨d2, d17⟩ := hd
            refine stepV rfl ?_ rfl
            go_simp
          simp only [Act.put, List.setIfInBounds_toArray, List.set_cons_zero, List.set_cons_succ]
          refine ⟨?_, ?_⟩
          · intro wi hbi hd
            simp only [phiOf, List.getD_cons_zero, List.getD_cons_succ]
            simp only [DepsHold, Region.binds, phiOf, List.getD_cons_zero, List.getD_cons_succ, pv, forall_const, and_true] at hd
            obtain ⟨d18, d17⟩ := hd
            refine stepV rfl ?_ rfl
            go_simp
          simp only [Act.put, List.setIfInBounds_toArray, List.set_cons_zero, List.set_cons_succ]
          refine ⟨?_, ?_⟩
          · intro wi hbi hd
            simp only [phiOf, List.getD_cons_zero, List.getD_cons_succ]
            simp only [DepsHold, Region.binds, phiOf, List.getD_cons_zero, List.getD_cons_succ, pv, forall_const, and_true] at hd
            have d19 := hd; clear hd
            refine stepV (by simp [Region.wanted, yielded, d19]) ?_ rfl
            go_simp
          simp only [Act.put, List.setIfInBounds_toArray, List.set_cons_zero, List.set_cons_succ]
          refine ⟨?_, ?_⟩
          · intro wi hbi hd
            simp only [phiOf, List.getD_cons_zero, List.getD_cons_succ]
            simp only [DepsHold, Region.binds, phiOf, List.getD_cons_zero, List.getD_cons_succ, pv, forall_const, and_true] at hd
            have d19 := hd; clear hd
            refine stepV (by simp [Region.wanted, yielded, d19]) ?_ rfl
            go_simp
          simp only [Act.put, List.setIfInBounds_toArray, List.set_cons_zero, List.set_cons_succ]
          refine ⟨?_, ?_⟩
          · intro wi hbi hd
            simp only [phiOf, List.getD_cons_zero, List.getD_cons_succ]
            simp only [DepsHold, Region.binds, phiOf, List.getD_cons_zero, List.getD_cons_succ, pv, forall_const, and_true] at hd
            obtain ⟨d21, d19, d19'⟩ := hd
            refine stepC (by simp [Region.wanted, yielded, d19]) (f := 8) (args := #[.slice x6 T.length c6]) (w1 := wi) ?_ (refSum_any _ _ T _ (hB6.below hbi) (by omega)) ?_
            · go_simp
            · rintro e w' ⟨rfl, rfl⟩; exact ⟨_, rfl, Below.refl _ _, rfl⟩
          simp only [Act.put, List.setIfInBounds_toArray, List.set_cons_zero, List.set_cons_succ]
          refine ⟨?_, ?_⟩
          · intro wi hbi hd
            simp only [phiOf, List.getD_cons_zero, List.getD_cons_succ]
            simp only [DepsHold, Region.binds, phiOf, List.getD_cons_zero, List.getD_cons_succ, pv, forall_const, and_true] at hd
            obtain ⟨d20, d22, d22', d19⟩ := hd
            refine stepC (by simp [Region.wanted, yielded, d19]) (f := 10) (args := #[.slice x6 T.length c6, .int .u32 (c32 (sum T))]) (w1 := wi) ?_ (Holds_any _ _ T _ _ (hB6.below hbi) (by omega)) ?_
            · go_simp
            · rintro e w' ⟨rfl, hb⟩; exact ⟨_, rfl, hb, (by simp : Value.bool (decide (sum T = sum T)) = .bool true)⟩
          simp only [Act.put, List.setIfInBounds_toArray, List.set_cons_zero, List.set_cons_succ]
          refine ⟨?_, ?_⟩
          · intro wi hbi hd
            simp only [phiOf, List.getD_cons_zero, List.getD_cons_succ]
            simp only [DepsHold, Region.binds, phiOf, List.getD_cons_zero, List.getD_cons_succ, pv, forall_const, and_true] at hd
            obtain ⟨d19, d23⟩ := hd
            refine stepV rfl ?_ rfl
            go_simp
          simp only [Act.put, List.setIfInBounds_toArray, List.set_cons_zero, List.set_cons_succ]
          refine ⟨?_, ?_⟩
          · intro wi hbi hd
            simp only [phiOf, List.getD_cons_zero, List.getD_cons_succ]
            simp only [DepsHold, Region.binds, phiOf, List.getD_cons_zero, List.getD_cons_succ, pv, forall_const, and_true] at hd
            obtain ⟨d24, d23⟩ := hd
            refine stepV rfl ?_ rfl
            go_simp
          simp only [Act.put, List.setIfInBounds_toArray, List.set_cons_zero, List.set_cons_succ]
          refine ⟨?_, ?_⟩
          · intro wi hbi hd
            simp only [phiOf, List.getD_cons_zero, List.getD_cons_succ]
            simp only [DepsHold, Region.binds, phiOf, List.getD_cons_zero, List.getD_cons_succ, pv, forall_const, and_true] at hd
            obtain ⟨d25, d25'⟩ := hd
            refine stepC (by simp [Region.wanted, yielded, d25]) (f := 7) (args := #[]) (w1 := wi) ?_ (known_any _) ?_
            · go_simp
            · rintro e w' ⟨rfl, hb⟩; exact ⟨_, rfl, hb, rfl⟩
          simp only [Act.put, List.setIfInBounds_toArray, List.set_cons_zero, List.set_cons_succ]
          refine ⟨?_, ?_⟩
          · intro wi hbi hd
            simp only [phiOf, List.getD_cons_zero, List.getD_cons_succ]
            simp only [DepsHold, Region.binds, phiOf, List.getD_cons_zero, List.getD_cons_succ, pv, forall_const, and_true] at hd
            obtain ⟨d25, d26⟩ := hd
            refine stepV rfl ?_ rfl
            go_simp
          simp only [Act.put, List.setIfInBounds_toArray, List.set_cons_zero, List.set_cons_succ]
          refine ⟨?_, ?_⟩
          · intro wi hbi hd
            simp only [phiOf, List.getD_cons_zero, List.getD_cons_succ]
            simp only [DepsHold, Region.binds, phiOf, List.getD_cons_zero, List.getD_cons_succ, pv, forall_const, and_true] at hd
            obtain ⟨d27, d26, d0, d1, d2, d3, d4, d5, d6, d7, d8, d9, d10, d11, d12, d13, d14, d15, d16, d17, d18, d19, d20, d21, d22, d23, d24, d25, d26', d27'⟩ := hd
            refine stepV rfl ?_ rfl
            go_simp
          trivial
        · intro vs w7 hb7 hall
          have h28 : vs 28 = .bool true := AllHold.get 29 0 28 hall (by decide)
          simp only [putAll, Act.put, List.setIfInBounds_toArray, List.set_cons_zero, List.set_cons_succ]
          rw [h28]
          clear hall h28
          go_wp2
          go_ret
          exact ⟨rfl, belT hbel6 hb7⟩
end Go.Proofs.Ytfheeanpmcgajaa

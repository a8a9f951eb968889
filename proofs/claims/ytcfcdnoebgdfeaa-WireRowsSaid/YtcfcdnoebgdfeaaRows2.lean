/- WireRows: the walk. -/
import Derived.Test.YtcfcdnoebgdfeaaHex
import Derived.Test.YtcfcdnoebgdfeaaRJoin
import Derived.Test.YtcfcdnoebgdfeaaWeighs
import Derived.Test.YtcfcdnoebgdfeaaWalks2
namespace Go.Proofs.Ytcfcdnoebgdfeaa
open Go.RowKit WireM

theorem BBs_three {w : World} {a b c : Option Addr} {ca cb cc n : Nat} {l m k : List UInt8} (hn : n = w.heap.size) (h : Bs w a l) (h' : Bs w b m) (h'' : Bs w c k) (hl : l.length ≤ 3000) (hm : m.length ≤ 3000) (hk : k.length ≤ 3000) (hna : a = none → ca = 0) (hnb : b = none → cb = 0) (hnc : c = none → cc = 0) :
    BBs (w.alloc (.cells #[.slice a l.length ca, .slice b m.length cb, .slice c k.length cc] 23)) (some ⟨n, 0, none⟩) [l, m, k] := by
  subst hn
  exact ⟨fun _ => ⟨_, _, rfl⟩, fun b' o e i hi => by
    obtain ⟨rfl, rfl, _⟩ := e
    have : i = 0 ∨ i = 1 ∨ i = 2 := by simp at hi; omega
    rcases this with rfl | rfl | rfl
    · exact ⟨a, ca, by rw [cell_of_row _ _ _ _ _ _ (heap_alloc_new _ _)]; rfl, h.below (below_alloc _ _), by simp; omega, hna⟩
    · exact ⟨b, cb, by rw [cell_of_row _ _ _ _ _ _ (heap_alloc_new _ _)]; rfl, h'.below (below_alloc _ _), by simp; omega, hnb⟩
    · exact ⟨c, cc, by rw [cell_of_row _ _ _ _ _ _ (heap_alloc_new _ _)]; rfl, h''.below (below_alloc _ _), by simp; omega, hnc⟩⟩
theorem rows_out (a b c : Option Addr) (ca cb cc n1 n2 n3 : Nat) (at_ : Int) (w : World) (h : 3000 < n1 ∨ 3000 < n2 ∨ 3000 < n3) (h1 : n1 ≤ 9223372036854775807) (h2 : n2 ≤ 9223372036854775807) (h3 : n3 ≤ 9223372036854775807) :
    Calls Try.prog 9 #[.slice a n1 ca, .slice b n2 cb, .slice c n3 cc, .int .i64 at_] w fun e w' => e = .returned (.bool true) ∧ Below w.heap.size w w' := by
  by_cases c1 : 3000 < n1
  · clear h
    go_enter Try.func9, Try.ntmps9
    go_wp2_with (go_at_call 13; refine (known_any _).mono ?_; rintro e w1 ⟨rfl, hb1⟩)
    go_ret
    exact ⟨rfl, hb1⟩
  · by_cases c2 : 3000 < n2
    · clear h
      go_enter Try.func9, Try.ntmps9
      go_wp2_with (go_at_call 13; refine (known_any _).mono ?_; rintro e w1 ⟨rfl, hb1⟩)
      go_ret
      exact ⟨rfl, hb1⟩
    · have c3 : 3000 < n3 := by omega
      clear h
      go_enter Try.func9, Try.ntmps9
      go_wp2_with (go_at_call 13; refine (known_any _).mono ?_; rintro e w1 ⟨rfl, hb1⟩)
      go_ret
      exact ⟨rfl, hb1⟩
/-- wire's Join as a slice -/
theorem wJoin (x : Option Addr) (cap n : Nat) (L : List (List UInt8)) (T : List UInt8) (hn : L.length = n) (hT : L.flatten = T) (w : World) (h : BBs w x L) (hs : T.length ≤ 100000) (hL : L.length ≤ 1000) :
    Calls Try.prog 27 #[.slice x n cap] w fun e w' => (∃ a c, e = .returned (.slice a T.length c) ∧ OwnB w' w.heap.size (.slice a T.length c) T ∧ Bs w' a T) ∧ Below w.heap.size w w' := by
  subst hn
  refine (Join_any x cap L w h (by omega) (by rw [hT]; omega)).mono ?_
  rintro e w' ⟨hb, v, rfl, ho⟩
  rw [hT] at ho
  obtain ⟨a, c, rfl, hB, _⟩ := ho.form3
  exact ⟨⟨a, c, rfl, ho, hB⟩, hb⟩
theorem Hex_at (a : Option Addr) (cap : Nat) (l : List UInt8) (H : List UInt8) (hH : hexL l = H) (w : World) (h : Bs w a l) (hl : l.length ≤ 100000) :
    Calls Try.prog 31 #[.slice a l.length cap] w fun e w' => e = .returned (.string (str H)) ∧ Below w.heap.size w w' := by
  have := Hex_any a cap l w h (by omega)
  rwa [hH] at this
set_option maxRecDepth 100000 in
set_option maxHeartbeats 6400000 in
theorem rows_in (a b c : Option Addr) (ca cb cc : Nat) (la lb lc : List UInt8) (at_ : Int) (w : World) (hA : Bs w a la) (hB : Bs w b lb) (hC : Bs w c lc) (hna : a = none → ca = 0) (hnb : b = none → cb = 0) (hnc : c = none → cc = 0)
    (h1 : la.length ≤ 3000) (h2 : lb.length ≤ 3000) (h3 : lc.length ≤ 3000) (hi1 : -9223372036854775808 ≤ at_) (hi2 : at_ ≤ 9223372036854775807) :
    Calls Try.prog 9 #[.slice a la.length ca, .slice b lb.length cb, .slice c lc.length cc, .int .i64 at_] w fun e w' => e = .returned (.bool true) ∧ Below w.heap.size w w' := by
  obtain ⟨T, hT⟩ : ∃ T, la ++ (lb ++ lc) = T := ⟨_, rfl⟩
  have hfl : [la, lb, lc].flatten = T := by rw [← hT]; simp
  have hTl : T.length ≤ 9000 := by rw [← hT]; simp; omega
  have hnil : ([] : List (List UInt8)).flatten = [] := rfl
  have HBB := Lib.hid (fun w' (h : Below w.heap.size w w') => BBs_three (w := w') (n := w'.heap.size) (ca := ca) (cb := cb) (cc := cc) rfl (hA.below h) (hB.below h) (hC.below h) h1 h2 h3 hna hnb hnc)
  have HJ := Lib.hid (fun x w' => wJoin x 3 3 [la, lb, lc] T rfl hfl w')
  have HA := Lib.hid hA
  have HB := Lib.hid hB
  have HC := Lib.hid hC
  obtain ⟨ha, hha⟩ : ∃ x, hexL la = x := ⟨_, rfl⟩
  obtain ⟨hb, hhb⟩ : ∃ x, hexL lb = x := ⟨_, rfl⟩
  obtain ⟨hc, hhc⟩ : ∃ x, hexL lc = x := ⟨_, rfl⟩
  obtain ⟨ht, hht⟩ : ∃ x, hexL T = x := ⟨_, rfl⟩
  have e1 : str ha ++ str hb = str (ha ++ hb) := str_append ha hb
  have e2 : str (ha ++ hb) ++ str hc = str ht := by rw [str_append, ← hht, ← hT, ← hha, ← hhb, ← hhc, hexL_append, hexL_append, List.append_assoc]
  have s1 : ¬ 9223372036854775807 < (str ha).size + (str hb).size := by rw [str_size, str_size, ← hha, ← hhb, hexL_length, hexL_length]; omega
  have s2 : ¬ 9223372036854775807 < (str (ha ++ hb)).size + (str hc).size := by rw [str_size, str_size, List.length_append, ← hha, ← hhb, ← hhc, hexL_length, hexL_length, hexL_length]; omega
  have XA := Lib.hid (Hex_at a ca la ha hha)
  have XB := Lib.hid (Hex_at b cb lb hb hhb)
  have XC := Lib.hid (Hex_at c cc lc hc hhc)
  have XT := Lib.hid (fun x d => Hex_at x d T ht hht)
  have HE1 := Lib.hid e1
  have HE2 := Lib.hid e2
  have HS1 := Lib.hid s1
  have HS2 := Lib.hid s2
  have HT := Lib.hid hT
  clear hT hfl hA hB hC hha hhb hhc hht e1 e2 s1 s2 hna hnb hnc
  have hR := refJoin_any (some ⟨w.heap.size, 0, none⟩) 3 [la, lb, lc] (w.alloc (.cells #[.slice a la.length ca, .slice b lb.length cb, .slice c lc.length cc] 23)) (HBB.out w (Below.refl _ _)) (by simp) (by simp; omega)
  have hfl : [la, lb, lc].flatten = T := by rw [← HT.out]; simp
  rw [hfl] at hR
  clear hfl
  go_enter Try.func9, Try.ntmps9
  go_wp2_with fail
  refine hR.mono ?_
  rintro e w1 ⟨hb1', g, rfl, hown1⟩
  have hb1 : Below w.heap.size w w1 := belT (below_alloc _ _) hb1'
  have hgw : w.heap.size ≤ g ∧ g < w1.heap.size := by
    obtain ⟨x, d, e, _, _, _, hx⟩ := hown1.form3
    cases e
    obtain ⟨g', e, h1, h2⟩ := hx _ rfl
    cases e
    simp at h1
    omega
  have HB1 := Lib.hid hown1.bs
  clear hR hown1 hb1'
  have KT : ∀ w', Below w1.heap.size w1 w' → (convert 23 9 (.slice (some ⟨g, 0, none⟩) T.length T.length)).run Try.prog w' = .ok (.string (str T)) w' := fun w' h => conv_str _ _ T w' (HB1.out.below h)
  have HKT := Lib.hid KT
  clear KT
  have KF : ∀ w', Below w1.drew.heap.size w1.drew w' → (convert 23 9 (.slice (some ⟨g, 0, none⟩) T.length T.length)).run Try.prog w' = .ok (.string (str T)) w' := fun w' h => HKT.out w' (belT (Below.refl _ _).drew h)
  have q0 : Below w1.heap.size w1 w1.drew := (Below.refl _ _).drew
  have HQ0 := Lib.hid q0
  clear q0
  go_wp2_with fail
  refine seq_start 31 [false, false, false, false, false, false, false, false, false, false, false, false, false, false, false, false, false, false, false, false, false, false, false, false, false, false, false, false, false, false, false] (by kernel_rfl) rfl rfl ?_
  refine seq_take 0 (v := ?_) rfl (by kernel_rfl) (fun _ _ _ h => h) (Or.inl ⟨by rfl, fun w' hb => ?_⟩) ?_
  rotate_left
  · have kf := KF w' hb
    go_simp
    with_reducible rfl
  simp only [Act.put, List.setIfInBounds_toArray, List.set_cons_zero, List.set_cons_succ]
  refine seq_take 1 (v := ?_) rfl (by kernel_rfl) (fun _ _ _ h => h) (Or.inl ⟨by rfl, fun w' hb => ?_⟩) ?_
  rotate_left
  · have kf := KF w' hb
    go_simp
    with_reducible rfl
  simp only [Act.put, List.setIfInBounds_toArray, List.set_cons_zero, List.set_cons_succ]
  refine seq_take 2 (v := ?_) rfl (by kernel_rfl) (fun _ _ _ h => h) (Or.inl ⟨by rfl, fun w' hb => ?_⟩) ?_
  rotate_left
  · have kf := KF w' hb
    go_simp
    with_reducible rfl
  simp only [Act.put, List.setIfInBounds_toArray, List.set_cons_zero, List.set_cons_succ]
  refine seq_take 6 (v := ?_) rfl (by kernel_rfl) (fun _ _ _ h => h) (Or.inl ⟨by rfl, fun w' hb => ?_⟩) ?_
  rotate_left
  · have kf := KF w' hb
    go_simp
    with_reducible rfl
  simp only [Act.put, List.setIfInBounds_toArray, List.set_cons_zero, List.set_cons_succ]
  refine seq_take 7 (v := ?_) rfl (by kernel_rfl) (fun _ _ _ h => h) (Or.inl ⟨by rfl, fun w' hb => ?_⟩) ?_
  rotate_left
  · have kf := KF w' hb
    go_simp
    with_reducible rfl
  simp only [Act.put, List.setIfInBounds_toArray, List.set_cons_zero, List.set_cons_succ]
  refine seq_do 3 rfl (by kernel_rfl) (fun K hK => ?_)
  go_simp
  refine hK.out _ _ (below_alloc _ _) ?_
  clear hK K
  simp only [List.set_cons_zero, List.set_cons_succ]
  have HQ1 := Lib.hid (belT HQ0.out (below_alloc _ (.cells #[.slice a la.length ca, .slice b lb.length cb, .slice c lc.length cc] 23)))
  replace KF : True := trivial
  replace KF := fun (w' : World) (h : Below (w1.drew.alloc (.cells #[.slice a la.length ca, .slice b lb.length cb, .slice c lc.length cc] 23)).heap.size (w1.drew.alloc (.cells #[.slice a la.length ca, .slice b lb.length cb, .slice c lc.length cc] 23)) w') => HKT.out w' (belT HQ1.out h)
  refine seq_do 4 rfl (by kernel_rfl) (fun K hK => ?_)
  go_simp
  refine (HJ.out _ _ (HBB.out _ (belT hb1 HQ0.out)) (by omega) (by simp)).mono ?_
  rintro e w2 ⟨⟨x2, c2, rfl, _, hB2⟩, hb2⟩
  refine hK.out _ _ hb2 ?_
  clear hK K
  simp only [List.set_cons_zero, List.set_cons_succ]
  have HQ2 := Lib.hid (belT HQ1.out hb2)
  replace KF : ∀ w', Below w2.heap.size w2 w' → (convert 23 9 (.slice (some ⟨g, 0, none⟩) T.length T.length)).run Try.prog w' = .ok (.string (str T)) w' ∧ (convert 23 9 (.slice x2 T.length c2)).run Try.prog w' = .ok (.string (str T)) w' := fun w' h => ⟨HKT.out w' (belT HQ2.out h), conv_str _ _ T w' (hB2.below h)⟩
  refine seq_take 5 (v := ?_) rfl (by kernel_rfl) (fun _ _ _ h => h) (Or.inl ⟨by rfl, fun w' hb => ?_⟩) ?_
  rotate_left
  · have kf := KF w' hb
    go_simp
    with_reducible rfl
  simp only [Act.put, List.setIfInBounds_toArray, List.set_cons_zero, List.set_cons_succ]
  refine seq_take 8 (v := ?_) rfl (by kernel_rfl) (fun _ _ _ h => h) (Or.inl ⟨by rfl, fun w' hb => ?_⟩) ?_
  rotate_left
  · have kf := KF w' hb
    go_simp
    with_reducible rfl
  simp only [Act.put, List.setIfInBounds_toArray, List.set_cons_zero, List.set_cons_succ]
  refine seq_take 9 (v := ?_) rfl (by kernel_rfl) (fun _ _ _ h => h) (Or.inl ⟨by rfl, fun w' hb => ?_⟩) ?_
  rotate_left
  · have kf := KF w' hb
    go_simp
    with_reducible rfl
  simp only [Act.put, List.setIfInBounds_toArray, List.set_cons_zero, List.set_cons_succ]
  refine seq_take 10 (v := ?_) rfl (by kernel_rfl) (fun _ _ _ h => h) (Or.inl ⟨by rfl, fun w' hb => ?_⟩) ?_
  rotate_left
  · have kf := KF w' hb
    go_simp
    with_reducible rfl
  simp only [Act.put, List.setIfInBounds_toArray, List.set_cons_zero, List.set_cons_succ]
  refine seq_take 11 (v := ?_) rfl (by kernel_rfl) (fun _ _ _ h => h) (Or.inl ⟨by rfl, fun w' hb => ?_⟩) ?_
  rotate_left
  · have kf := KF w' hb
    go_simp
    with_reducible rfl
  simp only [Act.put, List.setIfInBounds_toArray, List.set_cons_zero, List.set_cons_succ]
  refine seq_take 12 (v := ?_) rfl (by kernel_rfl) (fun _ _ _ h => h) (Or.inl ⟨by rfl, fun w' hb => ?_⟩) ?_
  rotate_left
  · have kf := KF w' hb
    go_simp
    with_reducible rfl
  simp only [Act.put, List.setIfInBounds_toArray, List.set_cons_zero, List.set_cons_succ]
  refine seq_take 16 (v := ?_) rfl (by kernel_rfl) (fun _ _ _ h => h) (Or.inl ⟨by rfl, fun w' hb => ?_⟩) ?_
  rotate_left
  · have kf := KF w' hb
    go_simp
    with_reducible rfl
  simp only [Act.put, List.setIfInBounds_toArray, List.set_cons_zero, List.set_cons_succ]
  refine seq_take 18 (v := ?_) rfl (by kernel_rfl) (fun _ _ _ h => h) (Or.inl ⟨by rfl, fun w' hb => ?_⟩) ?_
  rotate_left
  · have kf := KF w' hb
    go_simp
    with_reducible rfl
  simp only [Act.put, List.setIfInBounds_toArray, List.set_cons_zero, List.set_cons_succ]
  refine seq_take 21 (v := ?_) rfl (by kernel_rfl) (fun _ _ _ h => h) (Or.inl ⟨by rfl, fun w' hb => ?_⟩) ?_
  rotate_left
  · have kf := KF w' hb
    go_simp
    with_reducible rfl
  simp only [Act.put, List.setIfInBounds_toArray, List.set_cons_zero, List.set_cons_succ]
  refine seq_do 13 rfl (by kernel_rfl) (fun K hK => ?_)
  go_simp
  refine hK.out _ _ (below_alloc _ _) ?_
  clear hK K
  simp only [List.set_cons_zero, List.set_cons_succ]
  have HQ3 := Lib.hid (belT HQ2.out (below_alloc _ (.cells #[.slice a la.length ca, .slice b lb.length cb, .slice c lc.length cc] 23)))
  replace KF := fun (w' : World) (h : Below (w2.alloc (.cells #[.slice a la.length ca, .slice b lb.length cb, .slice c lc.length cc] 23)).heap.size (w2.alloc (.cells #[.slice a la.length ca, .slice b lb.length cb, .slice c lc.length cc] 23)) w') => HKT.out w' (belT HQ3.out h)
  refine seq_do 14 rfl (by kernel_rfl) (fun K hK => ?_)
  go_simp
  refine (HJ.out _ _ (HBB.out _ (belT hb1 HQ2.out)) (by omega) (by simp)).mono ?_
  rintro e w3 ⟨⟨x3, c3, rfl, _, hB3⟩, hb3⟩
  refine hK.out _ _ hb3 ?_
  clear hK K
  simp only [List.set_cons_zero, List.set_cons_succ]
  have HQ4 := Lib.hid (belT HQ3.out hb3)
  replace KF : ∀ w', Below w3.heap.size w3 w' → True := fun _ _ => trivial
  refine seq_do 15 rfl (by kernel_rfl) (fun K hK => ?_)
  go_simp
  refine (XT.out _ _ _ hB3 (by omega)).mono ?_
  rintro e w4 ⟨rfl, hb4⟩
  refine hK.out _ _ hb4 ?_
  clear hK K
  simp only [List.set_cons_zero, List.set_cons_succ]
  have HQ5 := Lib.hid (belT HQ4.out hb4)
  replace KF : ∀ w', Below w4.heap.size w4 w' → True := fun _ _ => trivial
  refine seq_do 17 rfl (by kernel_rfl) (fun K hK => ?_)
  go_simp
  refine (XA.out _ (HA.out.below (belT hb1 HQ5.out)) (by omega)).mono ?_
  rintro e w5 ⟨rfl, hb5⟩
  refine hK.out _ _ hb5 ?_
  clear hK K
  simp only [List.set_cons_zero, List.set_cons_succ]
  have HQ6 := Lib.hid (belT HQ5.out hb5)
  replace KF : ∀ w', Below w5.heap.size w5 w' → True := fun _ _ => trivial
  refine seq_do 19 rfl (by kernel_rfl) (fun K hK => ?_)
  go_simp
  refine (XB.out _ (HB.out.below (belT hb1 HQ6.out)) (by omega)).mono ?_
  rintro e w6 ⟨rfl, hb6⟩
  refine hK.out _ _ hb6 ?_
  clear hK K
  simp only [List.set_cons_zero, List.set_cons_succ]
  have HQ7 := Lib.hid (belT HQ6.out hb6)
  replace KF : ∀ w', Below w6.heap.size w6 w' → True := fun _ _ => trivial
  have e1 := HE1.out
  have s1 := HS1.out
  refine seq_take 20 (v := ?_) rfl (by kernel_rfl) (fun _ _ _ h => h) (Or.inl ⟨by rfl, fun w' hb => ?_⟩) ?_
  rotate_left
  · have kf := KF w' hb
    go_simp
    with_reducible rfl
  simp only [Act.put, List.setIfInBounds_toArray, List.set_cons_zero, List.set_cons_succ]
  refine seq_do 22 rfl (by kernel_rfl) (fun K hK => ?_)
  go_simp
  refine (XC.out _ (HC.out.below (belT hb1 HQ7.out)) (by omega)).mono ?_
  rintro e w7 ⟨rfl, hb7⟩
  refine hK.out _ _ hb7 ?_
  clear hK K
  simp only [List.set_cons_zero, List.set_cons_succ]
  have HQ8 := Lib.hid (belT HQ7.out hb7)
  replace KF : ∀ w', Below w7.heap.size w7 w' → True := fun _ _ => trivial
  have e2 := HE2.out
  have s2 := HS2.out
  refine seq_take 23 (v := ?_) rfl (by kernel_rfl) (fun _ _ _ h => h) (Or.inl ⟨by rfl, fun w' hb => ?_⟩) ?_
  rotate_left
  · have kf := KF w' hb
    go_simp
    with_reducible rfl
  simp only [Act.put, List.setIfInBounds_toArray, List.set_cons_zero, List.set_cons_succ]
  refine seq_take 24 (v := ?_) rfl (by kernel_rfl) (fun _ _ _ h => h) (Or.inl ⟨by rfl, fun w' hb => ?_⟩) ?_
  rotate_left
  · have kf := KF w' hb
    go_simp
    with_reducible rfl
  simp only [Act.put, List.setIfInBounds_toArray, List.set_cons_zero, List.set_cons_succ]
  refine seq_take 25 (v := ?_) rfl (by kernel_rfl) (fun _ _ _ h => h) (Or.inl ⟨by rfl, fun w' hb => ?_⟩) ?_
  rotate_left
  · have kf := KF w' hb
    go_simp
    with_reducible rfl
  simp only [Act.put, List.setIfInBounds_toArray, List.set_cons_zero, List.set_cons_succ]
  refine seq_take 26 (v := ?_) rfl (by kernel_rfl) (fun _ _ _ h => h) (Or.inl ⟨by rfl, fun w' hb => ?_⟩) ?_
  rotate_left
  · have kf := KF w' hb
    go_simp
    with_reducible rfl
  simp only [Act.put, List.setIfInBounds_toArray, List.set_cons_zero, List.set_cons_succ]
  refine seq_do 27 rfl (by kernel_rfl) (fun K hK => ?_)
  go_simp
  refine (wJoin none 0 0 [] [] rfl rfl _ ⟨fun h => absurd rfl h, fun b o e => by cases e⟩ (by simp) (by simp)).mono ?_
  rintro e w8 ⟨⟨x8, c8, rfl, _, _⟩, hb8⟩
  refine hK.out _ _ hb8 ?_
  clear hK K
  simp only [List.set_cons_zero, List.set_cons_succ]
  have HQ9 := Lib.hid (belT HQ8.out hb8)
  replace KF : ∀ w', Below w8.heap.size w8 w' → True := fun _ _ => trivial
  refine seq_take 28 (v := ?_) rfl (by kernel_rfl) (fun _ _ _ h => h) (Or.inl ⟨by rfl, fun w' hb => ?_⟩) ?_
  rotate_left
  · have kf := KF w' hb
    go_simp
    with_reducible rfl
  simp only [Act.put, List.setIfInBounds_toArray, List.set_cons_zero, List.set_cons_succ]
  refine seq_take 29 (v := ?_) rfl (by kernel_rfl) (fun _ _ _ h => h) (Or.inl ⟨by rfl, fun w' hb => ?_⟩) ?_
  rotate_left
  · have kf := KF w' hb
    go_simp
    with_reducible rfl
  simp only [Act.put, List.setIfInBounds_toArray, List.set_cons_zero, List.set_cons_succ]
  refine seq_take 30 (v := ?_) rfl (by kernel_rfl) (fun _ _ _ h => h) (Or.inl ⟨by rfl, fun w' hb => ?_⟩) ?_
  rotate_left
  · have kf := KF w' hb
    go_simp
    with_reducible rfl
  simp only [Act.put, List.setIfInBounds_toArray, List.set_cons_zero, List.set_cons_succ]
  refine seq_end (by kernel_rfl) ?_
  have hbw : Below w.heap.size w w8 := belT hb1 HQ9.out
  have hB8 := HB1.out.below HQ9.out
  have hg8 : g < w8.heap.size := Nat.lt_of_lt_of_le hgw.2 HQ9.out.size
  have HB8 := Lib.hid hB8
  clear KF HQ0 HQ1 HQ2 HQ3 HQ4 HQ5 HQ6 HQ7 HQ8 HQ9 HKT HB1 HJ HBB XA XB XC XT HE1 HE2 HS1 HS2 e1 e2 s1 s2 hB8 hb1 HA HB HC
  by_cases c1 : at_ < 0
  · go_wp2_with (go_at_call 13; refine (known_any _).mono ?_; rintro e w9 ⟨rfl, hb9⟩)
    go_ret
    exact ⟨rfl, belT hbw hb9⟩
  · by_cases c2 : (T.length : Int) < at_
    · go_wp2_with (go_at_call 13; refine (known_any _).mono ?_; rintro e w9 ⟨rfl, hb9⟩)
      go_ret
      exact ⟨rfl, belT hbw hb9⟩
    · obtain ⟨k, rfl⟩ : ∃ k : Nat, at_ = (k : Int) := ⟨at_.toNat, by omega⟩
      have hkT : k ≤ T.length := by omega
      have hkI : (k : Int) ≤ (T.length : Int) := by omega
      have hl2 : ([] : List UInt8).length + T.length ≤ 140737488355328 := by simp; omega
      have HN := Lib.hid (OwnB.nil w8 w8.heap.size)
      clear c1 c2
      go_wp2_with (at_builtin; refine wpList_append_b rfl (.const (.slice none 0 0)) (.tmp 72) rfl w8.heap.size _ [] rfl HN.out (some ⟨g, 0, none⟩) T T.length T.length rfl rfl HB8.out (fun e => by cases e) hl2 (Nat.le_refl _) ?_; intro v10 w9 hown10 hg10; rw [List.nil_append] at hown10; have hb9 := below_grown hg10; clear hg10; obtain ⟨a10, c10, rfl, hB10, hc10, hn10, hx10⟩ := hown10.form3)
      have hbw9 := belT hbw hb9
      have HB10 := Lib.hid hB10
      have HO10 := Lib.hid hown10
      have HX10 := Lib.hid hx10
      have hck : c10 = k ∨ (c10 ≠ k ∧ ∃ g10, a10 = some ⟨g10, 0, none⟩) := by
        by_cases e : c10 = k
        · exact .inl e
        · refine .inr ⟨e, ?_⟩
          cases a10 with
          | none => have := hn10 rfl; omega
          | some x => obtain ⟨g', rfl, _⟩ := hx10 x rfl; exact ⟨g', rfl⟩
      have hwJ := fun x w' => wJoin x 2 2 [T.take k, T.drop k] T rfl (by simp) w'
      have hdr := hB10.dropL (c := c10) k hc10
      have hxor := fun (u : UInt8) => xor_u8 u 255
      have HWJ := Lib.hid hwJ
      have kc : (k : Int) ≤ (c10 : Int) := by omega
      have kc2 : k ≤ c10 := by omega
      have k0 : (0 : Int) ≤ (k : Int) := by omega
      have HXOR := Lib.hid hxor
      have HN10 := Lib.hid hn10
      clear HN hB10 hown10 hx10 hwJ hxor hn10
      rcases hck with rfl | ⟨hne, g10, rfl⟩
      · rw [if_pos rfl] at hdr
        have hlc : T.length = c10 := by omega
        have hBB := fun w' (h : Below w9.heap.size w9 w') => BBs_two (w := w') (n := w'.heap.size) (ca := c10) (cb := 0) rfl ((HB10.out.below h).takeL c10) (hdr.below h) (by simp; omega) (by simp; omega) HN10.out (fun _ => rfl)
        have e1 : (T.take c10).length = c10 := by simp; omega
        have e2 : (T.drop c10).length = 0 := by simp; omega
        rw [e1, e2] at hBB
        have z1 : T.length - c10 = 0 := by omega
        have HD := Lib.hid hBB
        have KF : ∀ w', Below w9.drew.heap.size w9.drew w' → True := fun _ _ => trivial
        have hlt2 : ¬ ((c10 : Int) < (c10 : Int)) := by omega
        clear hdr hBB e1 e2 hlc
        go_wp2_with fail
        refine seq_start 9 [false, false, false, false, false, false, false, false, false] (by kernel_rfl) rfl rfl ?_
        refine seq_take 0 (v := ?_) rfl (by kernel_rfl) (fun _ _ _ h => h) (Or.inl ⟨by rfl, fun w' hb => ?_⟩) ?_
        rotate_left
        · have kf := KF w' hb
          go_simp
          with_reducible rfl
        simp only [Act.put, List.setIfInBounds_toArray, List.set_cons_zero, List.set_cons_succ]
        refine seq_take 1 (v := ?_) rfl (by kernel_rfl) (fun _ _ _ h => h) (Or.inl ⟨by rfl, fun w' hb => ?_⟩) ?_
        rotate_left
        · have kf := KF w' hb
          go_simp
          with_reducible rfl
        simp only [Act.put, List.setIfInBounds_toArray, List.set_cons_zero, List.set_cons_succ]
        refine seq_take 2 (v := ?_) rfl (by kernel_rfl) (fun _ _ _ h => h) (Or.inl ⟨by rfl, fun w' hb => ?_⟩) ?_
        rotate_left
        · have kf := KF w' hb
          go_simp
          with_reducible rfl
        simp only [Act.put, List.setIfInBounds_toArray, List.set_cons_zero, List.set_cons_succ]
        refine seq_take 3 (v := ?_) rfl (by kernel_rfl) (fun _ _ _ h => h) (Or.inl ⟨by rfl, fun w' hb => ?_⟩) ?_
        rotate_left
        · have kf := KF w' hb
          go_simp
          with_reducible rfl
        simp only [Act.put, List.setIfInBounds_toArray, List.set_cons_zero, List.set_cons_succ]
        refine seq_take 4 (v := ?_) rfl (by kernel_rfl) (fun _ _ _ h => h) (Or.inl ⟨by rfl, fun w' hb => ?_⟩) ?_
        rotate_left
        · have kf := KF w' hb
          go_simp
          with_reducible rfl
        simp only [Act.put, List.setIfInBounds_toArray, List.set_cons_zero, List.set_cons_succ]
        refine seq_take 5 (v := ?_) rfl (by kernel_rfl) (fun _ _ _ h => h) (Or.inl ⟨by rfl, fun w' hb => ?_⟩) ?_
        rotate_left
        · have kf := KF w' hb
          go_simp
          with_reducible rfl
        simp only [Act.put, List.setIfInBounds_toArray, List.set_cons_zero, List.set_cons_succ]
        refine seq_do 6 rfl (by kernel_rfl) (fun K hK => ?_)
        go_simp
        refine hK.out _ _ (below_alloc _ _) ?_
        clear hK K
        simp only [List.set_cons_zero, List.set_cons_succ]
        replace KF : ∀ w', Below (w9.drew.alloc (.cells #[.slice a10 c10 c10, .slice a10 0 0] 23)).heap.size (w9.drew.alloc (.cells #[.slice a10 c10 c10, .slice a10 0 0] 23)) w' → True := fun _ _ => trivial
        refine seq_do 7 rfl (by kernel_rfl) (fun K hK => ?_)
        go_simp
        refine (HWJ.out _ _ (HD.out _ (Below.refl _ _).drew) (by omega) (by simp)).mono ?_
        rintro e w10 ⟨⟨x11, c11, rfl, hown11, hB11⟩, hb10⟩
        refine hK.out _ _ hb10 ?_
        clear hK K
        simp only [List.set_cons_zero, List.set_cons_succ]
        replace KF : ∀ w', Below w10.heap.size w10 w' → True := fun _ _ => trivial
        refine seq_take 8 (v := ?_) rfl (by kernel_rfl) (fun _ _ _ h => h) (Or.inl ⟨by rfl, fun w' hb => ?_⟩) ?_
        rotate_left
        · have kf := KF w' hb
          go_simp
          with_reducible rfl
        simp only [Act.put, List.setIfInBounds_toArray, List.set_cons_zero, List.set_cons_succ]
        refine seq_end (by kernel_rfl) ?_
        obtain ⟨_, _, e11, _, _, _, hx11⟩ := hown11.form3
        cases e11
        have HX11 : Hid (∀ x, x11 = some x → ∃ g', x = ⟨g', 0, none⟩ ∧ w9.heap.size < g') := fun x e => by
          obtain ⟨g', h1, h2, _⟩ := hx11 x e
          simp at h2
          exact ⟨g', h1, by omega⟩
        have hb910 : Below w9.heap.size w9 w10 := belT (belT (Below.refl _ _).drew (below_alloc _ _)) hb10
        have hbw10 := belT hbw9 hb910
        have HS10 := Lib.hid (And.intro (HO10.out.below hb910) (And.intro hB11 (And.intro ((HB8.out.below hb9).below hb910) hbw10)))
        have hg9 : g < w9.heap.size := Nat.lt_of_lt_of_le hg8 hb9.size
        have hs8 : w.heap.size ≤ w8.heap.size := hbw.size
        clear hb10 hown11 hB11 hx11 hb910 HO10 HB10 HWJ HD HB8 KF
        go_wp2_with fail
        go_loopw [12] (fun i wr => ∃ (j : Nat) (X : List UInt8), j ≤ T.length ∧ i = .int .i64 j ∧ Hid (X.length = T.length) ∧ OwnB wr w8.heap.size (.slice a10 T.length c10) X ∧ Bs wr x11 T ∧ Bs wr (some ⟨g, 0, none⟩) T ∧ Below w.heap.size w wr) (fun i _ => T.length - (intOf i).toNat)
        case atStart => exact ⟨0, T, by omega, rfl, rfl, HS10.out.1, HS10.out.2.1, HS10.out.2.2.1, HS10.out.2.2.2⟩
        case round =>
          clear HS10
          obtain ⟨j, X, hj, rfl, HXL, hown, hBx, hBg, hbr⟩ := hrel
          by_cases hlt : j < T.length
          · obtain ⟨gg, cg, eg, _⟩ := hown.head HXL.out (by omega)
            obtain ⟨g', e', hg1, hg2⟩ := HX10.out ⟨gg, 0, none⟩ (by simp only [Value.slice.injEq] at eg; exact eg.1)
            have e'' : gg = g' := by simpa using e'
            subst e''
            simp only [Value.slice.injEq, true_and] at eg
            obtain ⟨ea, ec⟩ := eg
            subst ea
            have hxl : j < X.length := by have := HXL.out; omega
            obtain ⟨hc, hfz⟩ := hown.cell HXL.out.symm j hxl
            obtain ⟨u, hu⟩ : ∃ u, X[j] = u := ⟨_, rfl⟩
            rw [hu] at hc
            have hst := hown.set HXL.out.symm j hxl (u ^^^ 255)
            have hx : bits .xor .u8 (u.toNat : Int) 255 = ((u ^^^ 255).toNat : Int) := HXOR.out u
            have HST := Lib.hid hst
            have HBX := Lib.hid hBx
            have HBG := Lib.hid hBg
            clear hu hst hown hBx hBg
            go_wp2
            go_roundw
            case rel =>
              exact ⟨j + 1, _, by omega, by go_num, by have := HXL.out; show _ = _; rw [List.length_set]; exact this, HST.out.1, HBX.out.grown HST.out.2 (fun b o s e => by obtain ⟨g2, h1, h2⟩ := HX11.out _ e; cases h1; omega), HBG.out.grown HST.out.2 (fun b o s e => by cases e; omega), hbr.grown HST.out.2 hbr.size (fun k hk => by cases hk; omega)⟩
            case measure => simp [intOf]; omega
          · have k1 := conv_str x11 c11 T wr hBx
            have k2 := conv_str (some ⟨g, 0, none⟩) T.length T wr hBg
            clear hown hBx hBg
            go_wp2_with (go_at_call 13; refine (known_any _).mono ?_; rintro e w12 ⟨rfl, hb12⟩)
            go_ret
            exact ⟨rfl, belT hbr hb12⟩
      · rw [if_neg hne, Option.map_some, Addr.add_mid, Nat.zero_add] at hdr
        have hBB := fun w' (h : Below w9.heap.size w9 w') => BBs_two (w := w') (n := w'.heap.size) (ca := c10) (cb := c10 - k) rfl ((HB10.out.below h).takeL k) (hdr.below h) (by simp; omega) (by simp; omega) (fun e => by cases e) (fun e => by cases e)
        have e1 : (T.take k).length = k := by simp; omega
        have e2 : (T.drop k).length = T.length - k := by simp
        rw [e1, e2] at hBB
        have HD := Lib.hid hBB
        have KF : ∀ w', Below w9.drew.heap.size w9.drew w' → True := fun _ _ => trivial
        clear hdr hBB e1 e2
        go_wp2_with fail
        refine seq_start 9 [false, false, false, false, false, false, false, false, false] (by kernel_rfl) rfl rfl ?_
        refine seq_take 0 (v := ?_) rfl (by kernel_rfl) (fun _ _ _ h => h) (Or.inl ⟨by rfl, fun w' hb => ?_⟩) ?_
        rotate_left
        · have kf := KF w' hb
          go_simp
          with_reducible rfl
        simp only [Act.put, List.setIfInBounds_toArray, List.set_cons_zero, List.set_cons_succ]
        refine seq_take 1 (v := ?_) rfl (by kernel_rfl) (fun _ _ _ h => h) (Or.inl ⟨by rfl, fun w' hb => ?_⟩) ?_
        rotate_left
        · have kf := KF w' hb
          go_simp
          with_reducible rfl
        simp only [Act.put, List.setIfInBounds_toArray, List.set_cons_zero, List.set_cons_succ]
        refine seq_take 2 (v := ?_) rfl (by kernel_rfl) (fun _ _ _ h => h) (Or.inl ⟨by rfl, fun w' hb => ?_⟩) ?_
        rotate_left
        · have kf := KF w' hb
          go_simp
          with_reducible rfl
        simp only [Act.put, List.setIfInBounds_toArray, List.set_cons_zero, List.set_cons_succ]
        refine seq_take 3 (v := ?_) rfl (by kernel_rfl) (fun _ _ _ h => h) (Or.inl ⟨by rfl, fun w' hb => ?_⟩) ?_
        rotate_left
        · have kf := KF w' hb
          go_simp
          with_reducible rfl
        simp only [Act.put, List.setIfInBounds_toArray, List.set_cons_zero, List.set_cons_succ]
        refine seq_take 4 (v := ?_) rfl (by kernel_rfl) (fun _ _ _ h => h) (Or.inl ⟨by rfl, fun w' hb => ?_⟩) ?_
        rotate_left
        · have kf := KF w' hb
          go_simp
          with_reducible rfl
        simp only [Act.put, List.setIfInBounds_toArray, List.set_cons_zero, List.set_cons_succ]
        refine seq_take 5 (v := ?_) rfl (by kernel_rfl) (fun _ _ _ h => h) (Or.inl ⟨by rfl, fun w' hb => ?_⟩) ?_
        rotate_left
        · have kf := KF w' hb
          go_simp
          with_reducible rfl
        simp only [Act.put, List.setIfInBounds_toArray, List.set_cons_zero, List.set_cons_succ]
        refine seq_do 6 rfl (by kernel_rfl) (fun K hK => ?_)
        go_simp
        refine hK.out _ _ (below_alloc _ _) ?_
        clear hK K
        simp only [List.set_cons_zero, List.set_cons_succ]
        replace KF : ∀ w', Below (w9.drew.alloc (.cells #[.slice (some ⟨g10, 0, none⟩) k c10, .slice (some ⟨g10, k, none⟩) (T.length - k) (c10 - k)] 23)).heap.size (w9.drew.alloc (.cells #[.slice (some ⟨g10, 0, none⟩) k c10, .slice (some ⟨g10, k, none⟩) (T.length - k) (c10 - k)] 23)) w' → True := fun _ _ => trivial
        refine seq_do 7 rfl (by kernel_rfl) (fun K hK => ?_)
        go_simp
        refine (HWJ.out _ _ (HD.out _ (Below.refl _ _).drew) (by omega) (by simp)).mono ?_
        rintro e w10 ⟨⟨x11, c11, rfl, hown11, hB11⟩, hb10⟩
        refine hK.out _ _ hb10 ?_
        clear hK K
        simp only [List.set_cons_zero, List.set_cons_succ]
        replace KF : ∀ w', Below w10.heap.size w10 w' → True := fun _ _ => trivial
        refine seq_take 8 (v := ?_) rfl (by kernel_rfl) (fun _ _ _ h => h) (Or.inl ⟨by rfl, fun w' hb => ?_⟩) ?_
        rotate_left
        · have kf := KF w' hb
          go_simp
          with_reducible rfl
        simp only [Act.put, List.setIfInBounds_toArray, List.set_cons_zero, List.set_cons_succ]
        refine seq_end (by kernel_rfl) ?_
        obtain ⟨_, _, e11, _, _, _, hx11⟩ := hown11.form3
        cases e11
        have HX11 : Hid (∀ x, x11 = some x → ∃ g', x = ⟨g', 0, none⟩ ∧ w9.heap.size < g') := fun x e => by
          obtain ⟨g', h1, h2, _⟩ := hx11 x e
          simp at h2
          exact ⟨g', h1, by omega⟩
        have hb910 : Below w9.heap.size w9 w10 := belT (belT (Below.refl _ _).drew (below_alloc _ _)) hb10
        have hbw10 := belT hbw9 hb910
        have HS10 := Lib.hid (And.intro (HO10.out.below hb910) (And.intro hB11 (And.intro ((HB8.out.below hb9).below hb910) hbw10)))
        have hg9 : g < w9.heap.size := Nat.lt_of_lt_of_le hg8 hb9.size
        have hs8 : w.heap.size ≤ w8.heap.size := hbw.size
        clear hb10 hown11 hB11 hx11 hb910 HO10 HB10 HWJ HD HB8 KF
        go_wp2_with fail
        go_loopw [12] (fun i wr => ∃ (j : Nat) (X : List UInt8), j ≤ T.length ∧ i = .int .i64 j ∧ Hid (X.length = T.length) ∧ OwnB wr w8.heap.size (.slice (some ⟨g10, 0, none⟩) T.length c10) X ∧ Bs wr x11 T ∧ Bs wr (some ⟨g, 0, none⟩) T ∧ Below w.heap.size w wr) (fun i _ => T.length - (intOf i).toNat)
        case atStart => exact ⟨0, T, by omega, rfl, rfl, HS10.out.1, HS10.out.2.1, HS10.out.2.2.1, HS10.out.2.2.2⟩
        case round =>
          clear HS10
          obtain ⟨j, X, hj, rfl, HXL, hown, hBx, hBg, hbr⟩ := hrel
          by_cases hlt : j < T.length
          · obtain ⟨gg, cg, eg, _⟩ := hown.head HXL.out (by omega)
            obtain ⟨g', e', hg1, hg2⟩ := HX10.out ⟨gg, 0, none⟩ (by simp only [Value.slice.injEq] at eg; exact eg.1)
            have e'' : gg = g' := by simpa using e'
            subst e''
            simp only [Value.slice.injEq, true_and] at eg
            obtain ⟨ea, ec⟩ := eg
            simp at ea; subst ea
            have hxl : j < X.length := by have := HXL.out; omega
            obtain ⟨hc, hfz⟩ := hown.cell HXL.out.symm j hxl
            obtain ⟨u, hu⟩ : ∃ u, X[j] = u := ⟨_, rfl⟩
            rw [hu] at hc
            have hst := hown.set HXL.out.symm j hxl (u ^^^ 255)
            have hx : bits .xor .u8 (u.toNat : Int) 255 = ((u ^^^ 255).toNat : Int) := HXOR.out u
            have HST := Lib.hid hst
            have HBX := Lib.hid hBx
            have HBG := Lib.hid hBg
            clear hu hst hown hBx hBg
            go_wp2
            go_roundw
            case rel =>
              exact ⟨j + 1, _, by omega, by go_num, by have := HXL.out; show _ = _; rw [List.length_set]; exact this, HST.out.1, HBX.out.grown HST.out.2 (fun b o s e => by obtain ⟨g2, h1, h2⟩ := HX11.out _ e; cases h1; omega), HBG.out.grown HST.out.2 (fun b o s e => by cases e; omega), hbr.grown HST.out.2 hbr.size (fun k hk => by cases hk; omega)⟩
            case measure => simp [intOf]; omega
          · have k1 := conv_str x11 c11 T wr hBx
            have k2 := conv_str (some ⟨g, 0, none⟩) T.length T wr hBg
            clear hown hBx hBg
            go_wp2_with (go_at_call 13; refine (known_any _).mono ?_; rintro e w12 ⟨rfl, hb12⟩)
            go_ret
            exact ⟨rfl, belT hbr hb12⟩
theorem rows_any (a b c : Option Addr) (ca cb cc : Nat) (la lb lc : List UInt8) (at_ : Int) (w : World) (hA : Bs w a la) (hB : Bs w b lb) (hC : Bs w c lc) (hna : a = none → ca = 0) (hnb : b = none → cb = 0) (hnc : c = none → cc = 0)
    (h1 : la.length ≤ 9223372036854775807) (h2 : lb.length ≤ 9223372036854775807) (h3 : lc.length ≤ 9223372036854775807) (hi1 : -9223372036854775808 ≤ at_) (hi2 : at_ ≤ 9223372036854775807) :
    Calls Try.prog 9 #[.slice a la.length ca, .slice b lb.length cb, .slice c lc.length cc, .int .i64 at_] w fun e w' => e = .returned (.bool true) ∧ Below w.heap.size w w' := by
  by_cases h : 3000 < la.length ∨ 3000 < lb.length ∨ 3000 < lc.length
  · exact rows_out a b c ca cb cc _ _ _ at_ w h h1 h2 h3
  · exact rows_in a b c ca cb cc la lb lc at_ w hA hB hC hna hnb hnc (by omega) (by omega) (by omega) hi1 hi2
end Go.Proofs.Ytcfcdnoebgdfeaa

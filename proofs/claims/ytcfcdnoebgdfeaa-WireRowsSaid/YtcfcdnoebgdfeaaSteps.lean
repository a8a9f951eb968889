/- WireSteps: the walk. -/
import Derived.Test.YtcfcdnoebgdfeaaOrders
namespace Go.Proofs.Ytcfcdnoebgdfeaa
open Go.RowKit WireM

theorem Rd.kept {w w' : World} {base top g g' : Nat} {l : List UInt8} {p : Int} (h : Rd w base top g l p) (hg : w.grownBy w' (some g')) (hd : g' < base ∨ top ≤ g') : Rd w' base top g l p := by
  obtain ⟨b, cap, hc, hne, hown, h1, h2⟩ := h.cells
  have hu := h.up
  have hl := h.lt
  exact ⟨hu, hl, b, cap, (hg.block _ (Array.getElem?_eq_some_iff.1 hc).1 (by simp; omega)).trans hc, hne, hown.kept hg (.inr (by simp [Value.ownBlock]; omega)), h1, h2⟩
theorem Rd.below {w w' : World} {base top g : Nat} {l : List UInt8} {p : Int} (h : Rd w base top g l p) (hb : Below w.heap.size w w') : Rd w' base top g l p := by
  obtain ⟨b, cap, hc, hne, hown, h1, h2⟩ := h.cells
  exact ⟨h.up, h.lt, b, cap, (hb.block _ (Array.getElem?_eq_some_iff.1 hc).1).trans hc, hne, hown.below hb, h1, h2⟩
theorem Got.keep {w w' : World} {base top g g' : Nat} {a : Option Addr} {m : List UInt8} (h : Got w base top g a m) (hg : w.grownBy w' (some g')) (hd : g' = g ∨ g' < base ∨ top ≤ g') : Got w' base top g a m :=
  ⟨h.bs.grown hg (fun b o s e => by have := h.away b o s e; omega), h.nn, h.away⟩
theorem Got.below {w w' : World} {base top g : Nat} {a : Option Addr} {m : List UInt8} (h : Got w base top g a m) (hb : Below w.heap.size w w') : Got w' base top g a m :=
  ⟨h.bs.below hb, h.nn, h.away⟩
theorem Bytes_at (base top g : Nat) (l : List UInt8) (p n q : Int) (X : List UInt8) (hq : stepAt l p n = q) (hX : gotAt l p n = X) (w : World) (h : Rd w base top g l p) (hl : l.length ≤ 140737488355328) (hp : p ≤ l.length) :
    Calls Try.prog 26 #[.pointer (some ⟨g, 0, none⟩), .int .i64 n] w fun e w' => ∃ a, e = .returned (.slice a X.length X.length) ∧ Got w' base top g a X ∧ Rd w' base top g l q ∧ w.grownBy w' (some g) := by
  refine (Bytes_any base top g l p n w h hl hp).mono ?_
  rintro e w' ⟨⟨a, h1, h2⟩, h3⟩
  rw [hX] at h1 h2
  rw [hq] at h3
  exact ⟨a, h1, h2, h3⟩
theorem Number_at (base top g : Nat) (l : List UInt8) (p n q : Int) (N : Nat) (hq : stepAt l p (szOf n) = q) (hN : numAt l p n = N) (w : World) (h : Rd w base top g l p) (hl : l.length ≤ 140737488355328) (hp : p ≤ l.length) :
    Calls Try.prog 28 #[.pointer (some ⟨g, 0, none⟩), .int .i64 n] w fun e w' => e = .returned (.int .u64 (N : Int)) ∧ Rd w' base top g l q ∧ w.grownBy w' (some g) := by
  refine (Number_any base top g l p n w h hl hp).mono ?_
  rintro e w' ⟨h1, h3⟩
  rw [hN] at h1
  rw [hq] at h3
  exact ⟨h1, h3⟩
theorem Failed_at (base top g : Nat) (l : List UInt8) (p : Int) (z : Bool) (hz : decide (p < 0) = z) (w : World) (h : Rd w base top g l p) :
    Calls Try.prog 21 #[.pointer (some ⟨g, 0, none⟩)] w fun e w' => e = .returned (.bool z) ∧ w = w' := by
  have := Failed_any base top g l p w h
  rwa [hz] at this
theorem Left_at (base top g : Nat) (l : List UInt8) (p v : Int) (hv : leftAt l p = v) (w : World) (h : Rd w base top g l p) (hl : l.length ≤ 140737488355328) (hp : p ≤ l.length) :
    Calls Try.prog 20 #[.pointer (some ⟨g, 0, none⟩)] w fun e w' => e = .returned (.int .i64 v) ∧ Look w base top g l p w' := by
  have := Left_any base top g l p w h hl hp
  rwa [hv] at this
/-- three readers of the same bytes -/
structure Tri (w0 w : World) (b1 t1 g1 b2 t2 g2 b3 t3 g3 : Nat) (l : List UInt8) (p1 p2 p3 : Int) : Prop where
  below : Below w0.heap.size w0 w
  r1 : Rd w b1 t1 g1 l p1
  r2 : Rd w b2 t2 g2 l p2
  r3 : Rd w b3 t3 g3 l p3
  o0 : w0.heap.size ≤ b1
  o1 : t1 ≤ b2
  o2 : t2 ≤ b3
variable {w0 w w' : World} {b1 t1 g1 b2 t2 g2 b3 t3 g3 : Nat} {l : List UInt8} {p1 p2 p3 q : Int}
theorem Tri.s1 (h : Tri w0 w b1 t1 g1 b2 t2 g2 b3 t3 g3 l p1 p2 p3) (r : Rd w' b1 t1 g1 l q) (hg : w.grownBy w' (some g1)) : Tri w0 w' b1 t1 g1 b2 t2 g2 b3 t3 g3 l q p2 p3 := by
  have a1 := h.r1.up; have a2 := h.r1.lt; have a3 := h.r2.up; have a4 := h.r2.lt; have a5 := h.o0; have a6 := h.o1; have a7 := h.o2
  exact ⟨below_grow h.below h.below.size hg (by omega), r, h.r2.kept hg (by omega), h.r3.kept hg (by omega), h.o0, h.o1, h.o2⟩
theorem Tri.s2 (h : Tri w0 w b1 t1 g1 b2 t2 g2 b3 t3 g3 l p1 p2 p3) (r : Rd w' b2 t2 g2 l q) (hg : w.grownBy w' (some g2)) : Tri w0 w' b1 t1 g1 b2 t2 g2 b3 t3 g3 l p1 q p3 := by
  have a1 := h.r1.up; have a2 := h.r1.lt; have a3 := h.r2.up; have a4 := h.r2.lt; have a5 := h.o0; have a6 := h.o1; have a7 := h.o2
  exact ⟨below_grow h.below h.below.size hg (by omega), h.r1.kept hg (by omega), r, h.r3.kept hg (by omega), h.o0, h.o1, h.o2⟩
theorem Tri.s3 (h : Tri w0 w b1 t1 g1 b2 t2 g2 b3 t3 g3 l p1 p2 p3) (r : Rd w' b3 t3 g3 l q) (hg : w.grownBy w' (some g3)) : Tri w0 w' b1 t1 g1 b2 t2 g2 b3 t3 g3 l p1 p2 q := by
  have a1 := h.r1.up; have a2 := h.r1.lt; have a3 := h.r2.up; have a4 := h.r2.lt; have a5 := h.o0; have a6 := h.o1; have a7 := h.o2; have a8 := h.r3.up
  exact ⟨below_grow h.below h.below.size hg (by omega), h.r1.kept hg (by omega), h.r2.kept hg (by omega), r, h.o0, h.o1, h.o2⟩
theorem Tri.ext (h : Tri w0 w b1 t1 g1 b2 t2 g2 b3 t3 g3 l p1 p2 p3) (hb : Below w.heap.size w w') : Tri w0 w' b1 t1 g1 b2 t2 g2 b3 t3 g3 l p1 p2 p3 :=
  ⟨belT h.below hb, h.r1.below hb, h.r2.below hb, h.r3.below hb, h.o0, h.o1, h.o2⟩
theorem step_two (l : List UInt8) (n m : Nat) : stepAt l (stepAt l 0 n) m = stepAt l 0 ((n : Int) + (m : Int)) ∧ gotAt l 0 n ++ gotAt l (stepAt l 0 n) m = if n + m ≤ l.length then gotAt l 0 ((n : Int) + (m : Int)) else gotAt l 0 n := by
  by_cases h : n ≤ l.length
  · have e : stepAt l 0 (n : Int) = n := by simp [stepAt, h]
    rw [e]
    by_cases h2 : n + m ≤ l.length
    · rw [if_pos h2]
      refine ⟨by unfold stepAt; rw [if_neg (by omega), if_pos (by omega), if_neg (by omega), if_pos (by omega)]; omega, ?_⟩
      unfold gotAt
      rw [if_pos (by omega), if_pos (by omega), if_pos (by omega)]
      have : ((n : Int) + (m : Int)).toNat = n + m := by omega
      rw [this]
      simp [List.take_add]
    · rw [if_neg h2]
      refine ⟨by unfold stepAt; rw [if_neg (by omega), if_neg (by omega), if_neg (by omega), if_neg (by omega)], ?_⟩
      have : gotAt l (n : Int) m = [] := by unfold gotAt; rw [if_neg (by omega)]
      rw [this, List.append_nil]
  · have e : stepAt l 0 (n : Int) = -1 := by simp [stepAt, h]
    rw [e, if_neg (by omega)]
    refine ⟨by unfold stepAt; rw [if_pos (by omega), if_neg (by omega), if_neg (by omega)], ?_⟩
    have : gotAt l (-1) m = [] := by unfold gotAt; rw [if_neg (by omega)]
    rw [this, List.append_nil]
theorem szOf_yes (n : Int) (h : 0 < n ∧ n ≤ 8) : szOf n = n := by unfold szOf; rw [if_pos h]
theorem szOf_no (n : Int) (h : ¬ (0 < n ∧ n ≤ 8)) : szOf n = -1 := by unfold szOf; rw [if_neg h]
theorem num_bad (l : List UInt8) (n : Nat) (h : n < 1 ∨ 8 < n ∨ l.length < n) : stepAt l 0 (szOf (n : Int)) = -1 ∧ numAt l 0 (n : Int) = 0 := by
  have key : ∀ k : Int, (k < 0 ∨ (l.length : Int) < k) → stepAt l 0 k = -1 ∧ gotAt l 0 k = [] := fun k hk => by
    unfold stepAt gotAt
    rw [if_neg (by omega), if_neg (by omega), if_neg (by omega)]; exact ⟨rfl, rfl⟩
  have : szOf (n : Int) < 0 ∨ (l.length : Int) < szOf (n : Int) := by
    by_cases hh : 0 < (n : Int) ∧ (n : Int) ≤ 8
    · rw [szOf_yes _ hh]; omega
    · rw [szOf_no _ hh]; omega
  obtain ⟨e1, e2⟩ := key _ this
  refine ⟨e1, ?_⟩
  unfold numAt; rw [e2]; rfl
theorem num_good (l : List UInt8) (n : Nat) (h1 : 1 ≤ n) (h2 : n ≤ 8) (h3 : n ≤ l.length) : stepAt l 0 (szOf (n : Int)) = n ∧ numAt l 0 (n : Int) = val (l.take n) := by
  rw [numAt, szOf_yes _ (by omega)]
  unfold stepAt gotAt
  rw [if_neg (by omega), if_pos (by omega), if_pos (by omega)]
  exact ⟨by omega, by simp⟩
theorem steps_out (a : Option Addr) (ca : Nat) (l : List UInt8) (n m : Int) (w : World) (h : 9000 < l.length ∨ n < 0 ∨ m < 0 ∨ 9000 < n ∨ 9000 < m) (h1 : l.length ≤ 9223372036854775807) :
    Calls Try.prog 7 #[.slice a l.length ca, .int .i64 n, .int .i64 m] w fun e w' => e = .returned (.bool true) ∧ Below w.heap.size w w' := by
  by_cases c1 : 9000 < l.length
  · clear h
    go_enter Try.func7, Try.ntmps7
    go_wp2_with (go_at_call 13; refine (known_any _).mono ?_; rintro e w1 ⟨rfl, hb1⟩)
    go_ret
    exact ⟨rfl, hb1⟩
  · by_cases c2 : n < 0
    · clear h
      go_enter Try.func7, Try.ntmps7
      go_wp2_with (go_at_call 13; refine (known_any _).mono ?_; rintro e w1 ⟨rfl, hb1⟩)
      go_ret
      exact ⟨rfl, hb1⟩
    · by_cases c3 : m < 0
      · clear h
        go_enter Try.func7, Try.ntmps7
        go_wp2_with (go_at_call 13; refine (known_any _).mono ?_; rintro e w1 ⟨rfl, hb1⟩)
        go_ret
        exact ⟨rfl, hb1⟩
      · by_cases c4 : 9000 < n
        · clear h
          go_enter Try.func7, Try.ntmps7
          go_wp2_with (go_at_call 13; refine (known_any _).mono ?_; rintro e w1 ⟨rfl, hb1⟩)
          go_ret
          exact ⟨rfl, hb1⟩
        · have c5 : 9000 < m := by omega
          clear h
          go_enter Try.func7, Try.ntmps7
          go_wp2_with (go_at_call 13; refine (known_any _).mono ?_; rintro e w1 ⟨rfl, hb1⟩)
          go_ret
          exact ⟨rfl, hb1⟩
set_option maxHeartbeats 6400000 in
theorem steps_in (a : Option Addr) (ca : Nat) (l : List UInt8) (n m : Nat) (w : World) (hA : Bs w a l) (hca : l.length ≤ ca) (hna : a = none → ca = 0) (h1 : l.length ≤ 9000) (hn : n ≤ 9000) (hm : m ≤ 9000) :
    Calls Try.prog 7 #[.slice a l.length ca, .int .i64 n, .int .i64 m] w fun e w' => e = .returned (.bool true) ∧ Below w.heap.size w w' := by
  have HR := Lib.hid (fun w' (h : Below w.heap.size w w') => Read_any a ca l w' (hA.below h) hna (by omega))
  have hl : l.length ≤ 140737488355328 := by omega
  obtain ⟨hst, hgt⟩ := step_two l n m
  obtain ⟨P, hP⟩ : ∃ P, stepAt l 0 ((n : Int) + (m : Int)) = P := ⟨_, rfl⟩
  obtain ⟨Q, hQ⟩ : ∃ Q, stepAt l 0 (n : Int) = Q := ⟨_, rfl⟩
  obtain ⟨X, hX⟩ : ∃ X, gotAt l 0 ((n : Int) + (m : Int)) = X := ⟨_, rfl⟩
  obtain ⟨Y1, hY1⟩ : ∃ X, gotAt l 0 (n : Int) = X := ⟨_, rfl⟩
  rw [hQ] at hst hgt
  obtain ⟨Y2, hY2⟩ : ∃ X, gotAt l Q (m : Int) = X := ⟨_, rfl⟩
  rw [hY1, hY2, hX] at hgt
  rw [hP] at hst
  have hPl : P ≤ l.length := by rw [← hP]; exact stepAt_le _ _ _ (by omega)
  have hQl : Q ≤ l.length := by rw [← hQ]; exact stepAt_le _ _ _ (by omega)
  have hPd : decide (P < 0) = decide ((l.length : Int) < (n : Int) + (m : Int)) := by
    rw [← hP, decide_eq_decide]; unfold stepAt; rw [if_neg (by omega)]; split <;> omega
  have hl1 : Y1.length ≤ 9000 := by rw [← hY1]; exact gotAt_len _ _ _ _ (by omega)
  have hl2 : Y2.length ≤ 9000 := by rw [← hY2]; exact gotAt_len _ _ _ _ (by omega)
  have HP := Lib.hid hP
  have HQ := Lib.hid hQ
  have HX := Lib.hid hX
  have HY1 := Lib.hid hY1
  have HY2 := Lib.hid hY2
  have HS := Lib.hid hst
  have HGT := Lib.hid hgt
  have HPD := Lib.hid hPd
  have HA := Lib.hid hA
  clear hP hQ hX hY1 hY2 hst hgt hPd hA
  go_enter Try.func7, Try.ntmps7
  go_wp2_with fail
  refine (HR.out _ (Below.refl _ _)).mono ?_
  rintro e w1 ⟨⟨g1, rfl, r1⟩, hb1⟩
  go_wp2_with fail
  refine (HR.out _ hb1).mono ?_
  rintro e w2 ⟨⟨g2, rfl, r2⟩, hb2⟩
  go_wp2_with fail
  refine (HR.out _ (belT hb1 hb2)).mono ?_
  rintro e w3 ⟨⟨g3, rfl, r3⟩, hb3⟩
  have T : Tri w w3 w.heap.size w1.heap.size g1 w1.heap.size w2.heap.size g2 w2.heap.size w3.heap.size g3 l 0 0 0 :=
    ⟨belT (belT hb1 hb2) hb3, (r1.below hb2).below hb3, r2.below hb3, r3, Nat.le_refl _, Nat.le_refl _, Nat.le_refl _⟩
  clear r1 r2 r3 hb1 hb2 hb3 HR
  obtain ⟨t1, ht1⟩ : ∃ t, w1.heap.size = t := ⟨_, rfl⟩
  obtain ⟨t2, ht2⟩ : ∃ t, w2.heap.size = t := ⟨_, rfl⟩
  obtain ⟨t3, ht3⟩ : ∃ t, w3.heap.size = t := ⟨_, rfl⟩
  rw [ht1, ht2, ht3] at T
  clear ht1 ht2 ht3
  go_wp2_with fail
  refine (Bytes_at _ _ _ l 0 ((n : Int) + (m : Int)) P X HP.out HX.out _ T.r1 hl (by omega)).mono ?_
  rintro e w4 ⟨a4, rfl, G4, R4, gr4⟩
  have T4 := T.s1 R4 gr4
  clear T R4 gr4
  go_wp2_with fail
  refine (Bytes_at _ _ _ l 0 (n : Int) Q Y1 HQ.out HY1.out _ T4.r2 hl (by omega)).mono ?_
  rintro e w5 ⟨a5, rfl, G5, R5, gr5⟩
  have T5 := T4.s2 R5 gr5
  have G45 := G4.keep gr5 (.inr (.inr (by have := T4.o1; have := T4.r2.up; omega)))
  clear T4 R5 gr5 G4
  go_wp2_with fail
  refine (Bytes_at _ _ _ l Q (m : Int) P Y2 HS.out HY2.out _ T5.r2 hl hQl).mono ?_
  rintro e w6 ⟨a6, rfl, G6, R6, gr6⟩
  have T6 := T5.s2 R6 gr6
  have G46 := G45.keep gr6 (.inr (.inr (by have := T5.o1; have := T5.r2.up; omega)))
  have G56 := G5.keep gr6 (.inl rfl)
  clear T5 R6 gr6 G45 G5
  have hBB := BBs_two (w := w6) (n := w6.heap.size) (ca := Y1.length) (cb := Y2.length) rfl G56.bs G6.bs (by omega) (by omega) G56.nn G6.nn
  have hJ := Join_any (some ⟨w6.heap.size, 0, none⟩) 2 [Y1, Y2] _ hBB (by simp) (by simp; omega)
  have hfl : [Y1, Y2].flatten = Y1 ++ Y2 := by simp
  rw [hfl] at hJ
  clear hBB hfl
  have hG2 := HGT.out
  obtain ⟨Y, hY⟩ : ∃ Y, Y1 ++ Y2 = Y := ⟨_, rfl⟩
  have hYl : Y.length ≤ 18000 := by rw [← hY, List.length_append]; omega
  rw [hY] at hJ hG2
  have HG2 := Lib.hid hG2
  clear hY HGT hG2
  go_wp2_with fail
  refine hJ.mono ?_
  rintro e w7 ⟨hb7, v, rfl, ho⟩
  obtain ⟨a7, c7, rfl, hB7, hc7, _⟩ := ho.form
  have T7 := (T6.ext (below_alloc _ _)).ext hb7
  have G47 := (G46.below (below_alloc _ _)).below hb7
  clear hJ T6 G46 G56 G6 ho hb7
  have good3 : (n < 1 ∨ 8 < n ∨ (1 ≤ n ∧ n ≤ 8 ∧ l.length < n)) ∨ (1 ≤ n ∧ n ≤ 8 ∧ n ≤ l.length) := by omega
  by_cases hok : n + m ≤ l.length
  · have F1 := fun w' (r : Rd w' w.heap.size t1 g1 l P) => Failed_at _ _ _ l P false (by rw [HPD.out]; simp; omega) w' r
    have F2 := fun w' (r : Rd w' t1 t2 g2 l P) => Failed_at _ _ _ l P false (by rw [HPD.out]; simp; omega) w' r
    have hd : decide ((l.length : Int) < (n : Int) + (m : Int)) = false := by simp; omega
    have hYX : Y = X := by have := HG2.out; rwa [if_pos hok] at this
    subst hYX
    have k1 := conv_N a4 Y.length Y.length Y rfl w7 G47.bs
    have k2 := conv_N a7 c7 Y.length Y rfl w7 hB7
    have L1 := fun w' (r : Rd w' w.heap.size t1 g1 l P) => Left_at _ _ _ l P _ rfl w' r hl hPl
    have L2 := fun w' (r : Rd w' t1 t2 g2 l P) => Left_at _ _ _ l P _ rfl w' r hl hPl
    obtain ⟨V, hV⟩ : ∃ V, leftAt l P = V := ⟨_, rfl⟩
    rw [hV] at L1 L2
    have hVV : (V != V) = false := by simp
    have HF1 := Lib.hid F1
    have HF2 := Lib.hid F2
    have HL1 := Lib.hid L1
    have HL2 := Lib.hid L2
    clear hV F1 F2 L1 L2 hok G47 hB7 hc7
    go_wp2_with (first | (go_at_call 21; (with_reducible refine (HF1.out _ T7.r1).mono ?_); rintro e w' ⟨rfl, rfl⟩) | (go_at_call 21; (with_reducible refine (HF2.out _ T7.r2).mono ?_); rintro e w' ⟨rfl, rfl⟩) | (go_at_call 20; (with_reducible refine (HL1.out _ T7.r1).mono ?_); rintro e w8 ⟨rfl, r8, g8⟩; have T8 := T7.s1 r8 g8; clear T7 r8 g8) | (go_at_call 20; (with_reducible refine (HL2.out _ T8.r2).mono ?_); rintro e w9 ⟨rfl, r9, g9⟩; have T7 := T8.s2 r9 g9; clear T8 r9 g9))
    clear k1 k2
    rcases good3 with hbad | ⟨g31, g32, g33⟩
    · obtain ⟨hst3, hnm3⟩ := num_bad l n (by omega)
      have N3 := Number_at _ _ _ l 0 (n : Int) (-1) 0 hst3 hnm3 _ T7.r3 hl (by omega)
      clear hst3 hnm3
      refine N3.mono ?_
      rintro e wa ⟨rfl, ra, ga⟩
      have Ta := T7.s3 ra ga
      clear T7 ra ga N3
      have hF3 := Failed_at _ _ _ l (-1) true (by decide) wa Ta.r3
      rcases hbad with hbad | hbad | ⟨hbad, hbad2, hbad3⟩
      all_goals
        go_wp2_with (first | (go_at_call 21; refine hF3.mono ?_; rintro e w' ⟨rfl, rfl⟩) | (go_at_call 13; refine (known_any _).mono ?_; rintro e wb ⟨rfl, hbb⟩))
        go_ret
        exact ⟨rfl, belT Ta.below hbb⟩
    · obtain ⟨hst3, hnm3⟩ := num_good l n g31 g32 g33
      have hlen3 : (l.take n).length = n := by simp; omega
      have hval3 : val (l.take n) < 18446744073709551616 := Nat.lt_of_lt_of_le (val_lt _) (pow_le8 _ (by rw [hlen3]; omega))
      have G3 := Lib.hid (fun w' (h : Below w.heap.size w w') => by
        have := Get_any a ca (l.take n) w' ((HA.out.below h).takeL n) (by rw [hlen3]; omega) (by rw [hlen3]; omega) (by rw [hlen3]; omega)
        rw [hlen3] at this
        exact this)
      have hleft3 : leftAt l (n : Int) = (l.length : Int) - n := by unfold leftAt; rw [if_neg (by omega)]
      have L3 := Lib.hid (fun w' (r : Rd w' t2 t3 g3 l (n : Int)) => Left_at _ _ _ l (n : Int) _ hleft3 w' r hl (by omega))
      have N3 := Number_at _ _ _ l 0 (n : Int) n _ hst3 hnm3 _ T7.r3 hl (by omega)
      obtain ⟨N, hN⟩ : ∃ N, val (l.take n) = N := ⟨_, rfl⟩
      rw [hN] at N3 G3 hval3
      have hNN : ((N : Int) == (N : Int)) = true := by simp
      have hLL : (((l.length : Int) - n) == ((l.length : Int) - n)) = true := by simp
      have hni : (n : Int) ≤ (l.length : Int) := by omega
      have hnc : n ≤ ca := by omega
      clear hst3 hnm3 hN hlen3 hleft3
      refine N3.mono ?_
      rintro e wa ⟨rfl, ra, ga⟩
      have Ta := T7.s3 ra ga
      clear T7 ra ga N3
      go_wp2_with (go_at_call 14; refine (G3.out _ Ta.below).mono ?_; rintro e w' ⟨rfl, rfl⟩)
      go_wp2_with (first | (go_at_call 12; refine (num_any _ _).mono ?_; rintro e w' ⟨rfl, rfl⟩) | (go_at_call 20; refine (L3.out _ Ta.r3).mono ?_; rintro e wb ⟨rfl, rb, gb⟩; have Tb := Ta.s3 rb gb) | (go_at_call 13; refine (known_any _).mono ?_; rintro e wc ⟨rfl, hbc⟩))
      go_ret
      exact ⟨rfl, belT Tb.below hbc⟩
  · have F1 := fun w' (r : Rd w' w.heap.size t1 g1 l P) => Failed_at _ _ _ l P true (by rw [HPD.out]; simp; omega) w' r
    have F2 := fun w' (r : Rd w' t1 t2 g2 l P) => Failed_at _ _ _ l P true (by rw [HPD.out]; simp; omega) w' r
    have hd : decide ((l.length : Int) < (n : Int) + (m : Int)) = true := by simp; omega
    have HF1 := Lib.hid F1
    have HF2 := Lib.hid F2
    clear F1 F2 hok G47 hB7 hc7
    have k1 : True := trivial
    have k2 : True := trivial
    go_wp2_with (first | (go_at_call 21; (with_reducible refine (HF1.out _ T7.r1).mono ?_); rintro e w' ⟨rfl, rfl⟩) | (go_at_call 21; (with_reducible refine (HF2.out _ T7.r2).mono ?_); rintro e w' ⟨rfl, rfl⟩))
    clear k1 k2
    rcases good3 with hbad | ⟨g31, g32, g33⟩
    · obtain ⟨hst3, hnm3⟩ := num_bad l n (by omega)
      have N3 := Number_at _ _ _ l 0 (n : Int) (-1) 0 hst3 hnm3 _ T7.r3 hl (by omega)
      clear hst3 hnm3
      refine N3.mono ?_
      rintro e wa ⟨rfl, ra, ga⟩
      have Ta := T7.s3 ra ga
      clear T7 ra ga N3
      have hF3 := Failed_at _ _ _ l (-1) true (by decide) wa Ta.r3
      rcases hbad with hbad | hbad | ⟨hbad, hbad2, hbad3⟩
      all_goals
        go_wp2_with (first | (go_at_call 21; refine hF3.mono ?_; rintro e w' ⟨rfl, rfl⟩) | (go_at_call 13; refine (known_any _).mono ?_; rintro e wb ⟨rfl, hbb⟩))
        go_ret
        exact ⟨rfl, belT Ta.below hbb⟩
    · obtain ⟨hst3, hnm3⟩ := num_good l n g31 g32 g33
      have hlen3 : (l.take n).length = n := by simp; omega
      have hval3 : val (l.take n) < 18446744073709551616 := Nat.lt_of_lt_of_le (val_lt _) (pow_le8 _ (by rw [hlen3]; omega))
      have G3 := Lib.hid (fun w' (h : Below w.heap.size w w') => by
        have := Get_any a ca (l.take n) w' ((HA.out.below h).takeL n) (by rw [hlen3]; omega) (by rw [hlen3]; omega) (by rw [hlen3]; omega)
        rw [hlen3] at this
        exact this)
      have hleft3 : leftAt l (n : Int) = (l.length : Int) - n := by unfold leftAt; rw [if_neg (by omega)]
      have L3 := Lib.hid (fun w' (r : Rd w' t2 t3 g3 l (n : Int)) => Left_at _ _ _ l (n : Int) _ hleft3 w' r hl (by omega))
      have N3 := Number_at _ _ _ l 0 (n : Int) n _ hst3 hnm3 _ T7.r3 hl (by omega)
      obtain ⟨N, hN⟩ : ∃ N, val (l.take n) = N := ⟨_, rfl⟩
      rw [hN] at N3 G3 hval3
      have hNN : ((N : Int) == (N : Int)) = true := by simp
      have hLL : (((l.length : Int) - n) == ((l.length : Int) - n)) = true := by simp
      have hni : (n : Int) ≤ (l.length : Int) := by omega
      have hnc : n ≤ ca := by omega
      clear hst3 hnm3 hN hlen3 hleft3
      refine N3.mono ?_
      rintro e wa ⟨rfl, ra, ga⟩
      have Ta := T7.s3 ra ga
      clear T7 ra ga N3
      go_wp2_with (go_at_call 14; refine (G3.out _ Ta.below).mono ?_; rintro e w' ⟨rfl, rfl⟩)
      go_wp2_with (first | (go_at_call 12; refine (num_any _ _).mono ?_; rintro e w' ⟨rfl, rfl⟩) | (go_at_call 20; refine (L3.out _ Ta.r3).mono ?_; rintro e wb ⟨rfl, rb, gb⟩; have Tb := Ta.s3 rb gb) | (go_at_call 13; refine (known_any _).mono ?_; rintro e wc ⟨rfl, hbc⟩))
      go_ret
      exact ⟨rfl, belT Tb.below hbc⟩
theorem steps_any (a : Option Addr) (ca : Nat) (l : List UInt8) (n m : Int) (w : World) (hA : Bs w a l) (hca : l.length ≤ ca) (hna : a = none → ca = 0) (h1 : l.length ≤ 9223372036854775807) :
    Calls Try.prog 7 #[.slice a l.length ca, .int .i64 n, .int .i64 m] w fun e w' => e = .returned (.bool true) ∧ Below w.heap.size w w' := by
  by_cases h : 9000 < l.length ∨ n < 0 ∨ m < 0 ∨ 9000 < n ∨ 9000 < m
  · exact steps_out a ca l n m w h h1
  · obtain ⟨n', rfl⟩ : ∃ k : Nat, n = (k : Int) := ⟨n.toNat, by omega⟩
    obtain ⟨m', rfl⟩ : ∃ k : Nat, m = (k : Int) := ⟨m.toNat, by omega⟩
    exact steps_in a ca l n' m' w hA hca hna (by omega) (by omega) (by omega)
end Go.Proofs.Ytcfcdnoebgdfeaa

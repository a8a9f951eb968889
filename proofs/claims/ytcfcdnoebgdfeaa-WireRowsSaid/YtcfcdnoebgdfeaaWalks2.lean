/- WireWalks: the walk. -/
import Derived.Test.YtcfcdnoebgdfeaaAlike
namespace Go.Proofs.Ytcfcdnoebgdfeaa
open Go.RowKit WireM

/-- steps that came in -/
structure StepsIn (w : World) (a : Option Addr) (S : List (Int × Int)) : Prop where
  addr : S ≠ [] → ∃ b o, a = some ⟨b, o, none⟩
  cell : ∀ b o, a = some ⟨b, o, none⟩ → ∀ i (h : i < S.length), w.cell? ⟨b, o + i * 2, none⟩ = some (.int .i64 S[i].1) ∧ w.cell? ⟨b, o + i * 2 + 1, none⟩ = some (.int .i64 S[i].2)
theorem StepsIn.belowB {w0 w : World} {a : Option Addr} {S : List (Int × Int)} (h : StepsIn w0 a S) (hb : Below w0.heap.size w0 w) : StepsIn w a S :=
  ⟨h.addr, fun b o e i hi => ⟨Below.cellSome hb (h.cell b o e i hi).1, Below.cellSome hb (h.cell b o e i hi).2⟩⟩
theorem OwnB.form2 {w : World} {base : Nat} {v : Value} {l : List UInt8} (h : OwnB w base v l) : (v = .slice none 0 0 ∧ l = []) ∨ ∃ g cap, v = .slice (some ⟨g, 0, none⟩) l.length cap ∧ Bs w (some ⟨g, 0, none⟩) l ∧ l.length ≤ cap ∧ base ≤ g ∧ g < w.heap.size := by
  obtain ⟨a, cap, e, hB, hc, hx⟩ := h.form
  rcases h.2 with ⟨rfl, h0⟩ | ⟨g, cap', cur, rfl, hb, hg, hr⟩
  · exact .inl ⟨rfl, List.eq_nil_of_length_eq_zero h0⟩
  · simp only [Value.slice.injEq, true_and] at e
    obtain ⟨rfl, rfl⟩ := e
    exact .inr ⟨g, cap', rfl, hB, hc, hb, lt_of_block hg⟩
theorem OwnB.form3 {w : World} {base : Nat} {v : Value} {l : List UInt8} (h : OwnB w base v l) : ∃ a cap, v = .slice a l.length cap ∧ Bs w a l ∧ l.length ≤ cap ∧ (a = none → cap = 0) ∧ (∀ x, a = some x → ∃ g, x = ⟨g, 0, none⟩ ∧ base ≤ g ∧ g < w.heap.size) := by
  obtain ⟨a, cap, e, hB, hc, hx⟩ := h.form
  refine ⟨a, cap, e, hB, hc, fun e' => ?_, hx⟩
  subst e'
  rcases h.2 with ⟨h', h0⟩ | ⟨g, cap', cur, h', _⟩
  · rw [h'] at e; simp at e; exact e.2.symm
  · rw [h'] at e; simp at e
theorem zero_step (l : List UInt8) (k : Nat) (h : k < l.length) : (List.replicate k (0 : UInt8) ++ l.drop k).set k 0 = List.replicate (k + 1) 0 ++ l.drop (k + 1) := by
  rw [List.set_append_right _ _ (by simp), List.length_replicate, Nat.sub_self, List.drop_eq_getElem_cons h, List.set_cons_zero, List.replicate_succ', List.append_assoc]
  rfl
theorem Two.other {w0 w w' : World} {B1 T1 g1 B2 T2 g2 g' : Nat} {l : List UInt8} {p q : Int} (h : Two w0 w B1 T1 g1 B2 T2 g2 l p q) (hg : w.grownBy w' (some g')) (h0 : w0.heap.size ≤ g') (h1 : g' < B1) : Two w0 w' B1 T1 g1 B2 T2 g2 l p q := by
  have a1 := h.r.up; have a2 := h.r.lt; have a6 := h.o1
  exact ⟨below_grow h.below h.below.size hg h0, h.r.kept hg (.inl h1), h.r'.kept hg (.inl (by omega)), h.o0, h.o1⟩
theorem rest_zero (l : List UInt8) : restAt l 0 = l := by simp [restAt]
theorem walks_out (a s : Option Addr) (ca cs : Nat) (l : List UInt8) (k : Nat) (w : World) (h : 9000 < l.length ∨ 300 < k) (h1 : l.length ≤ 9223372036854775807) (h2 : k ≤ 9223372036854775807) :
    Calls Try.prog 6 #[.slice a l.length ca, .slice s k cs] w fun e w' => e = .returned (.bool true) ∧ Below w.heap.size w w' := by
  rcases Nat.lt_or_ge 9000 l.length with h' | h'
  · clear h
    go_enter Try.func6, Try.ntmps6
    go_wp2_with (go_at_call 13; refine (known_any _).mono ?_; rintro e w1 ⟨rfl, hb1⟩)
    go_ret
    exact ⟨rfl, hb1⟩
  · have h'' : 300 < k := by omega
    clear h
    go_enter Try.func6, Try.ntmps6
    go_wp2_with (go_at_call 13; refine (known_any _).mono ?_; rintro e w1 ⟨rfl, hb1⟩)
    go_ret
    exact ⟨rfl, hb1⟩
set_option maxRecDepth 100000 in
set_option maxHeartbeats 3200000 in
theorem walks_in (a s : Option Addr) (ca cs : Nat) (l : List UInt8) (S : List (Int × Int)) (w : World) (hA : Bs w a l) (hna : a = none → ca = 0) (hS : StepsIn w s S) (h1 : l.length ≤ 9000) (h2 : S.length ≤ 300) :
    Calls Try.prog 6 #[.slice a l.length ca, .slice s S.length cs] w fun e w' => e = .returned (.bool true) ∧ Below w.heap.size w w' := by
  have hl : l.length ≤ 140737488355328 := by omega
  have hl2 : ([] : List UInt8).length + l.length ≤ 140737488355328 := by simp; omega
  have HA := Lib.hid hA
  have HS := Lib.hid hS
  have hnil := fun (w' : World) (b : Nat) => OwnB.nil w' b
  have HN := Lib.hid hnil
  clear hA hS hnil
  go_enter Try.func6, Try.ntmps6
  go_wp2_with (at_builtin; refine wpList_append_b rfl (.const (.slice none 0 0)) (.tmp 21) rfl w.heap.size _ [] rfl (HN.out w w.heap.size) a l l.length ca rfl rfl HA.out hna hl2 (Nat.le_refl _) ?_; intro v1 w1 hown1 hg1; rw [List.nil_append] at hown1; have hb1 := below_grown hg1; clear hg1; obtain ⟨a1, c1, rfl, hB1, hc1, hn1, hx1⟩ := hown1.form3)
  refine (Read_any a1 c1 l w1 hB1 hn1 (by omega)).mono ?_
  rintro e w2 ⟨⟨g, rfl, r2⟩, hb2⟩
  have hb12 := belT hb1 hb2
  have hs2 := hb12.size
  have HA2 := Lib.hid (HA.out.below hb12)
  clear hB1
  go_wp2_with (at_builtin; refine wpList_append_b rfl (.const (.slice none 0 0)) (.tmp 25) rfl w2.heap.size _ [] rfl (HN.out w2 w2.heap.size) a l l.length ca rfl rfl HA2.out hna hl2 (Nat.le_refl _) ?_; intro v3 w3 hown3 hg3; rw [List.nil_append] at hown3; have hb3 := below_grown hg3; clear hg3; obtain ⟨a3, c3, rfl, hB3, hc3, hn3, hx3⟩ := hown3.form3)
  have T : Two w (w3.alloc (.cells #[.slice a3 l.length c3, .bool false] 42)) w1.heap.size w2.heap.size g w2.heap.size (w3.heap.size + 1) w3.heap.size l 0 0 := by
    refine ⟨belT (belT hb12 hb3) (below_alloc _ _), (r2.below hb3).below (below_alloc _ _), ⟨hb3.size, by omega, a3, l.length, c3, by simpa using heap_alloc_new w3 (.cells #[.slice a3 l.length c3, .bool false] 42), by rw [rest_zero], hc3, hn3, by rw [rest_zero]; exact hB3.below (below_alloc _ _), fun b o s e => ?_, fun x e => ?_⟩, hb1.size, Nat.le_refl _⟩
    · obtain ⟨g', e', h3, h4⟩ := hx3 _ e
      cases e'; exact ⟨h3, by omega, by omega⟩
    · obtain ⟨g', rfl, _⟩ := hx3 _ e; rfl
  have hown : OwnB (w3.alloc (.cells #[.slice a3 l.length c3, .bool false] 42)) w.heap.size (.slice a1 l.length c1) l := ((hown1.below hb2).below hb3).below (below_alloc _ _)
  have hx := fun (x : Addr) (e : a1 = some x) => hx1 x e
  have HX := Lib.hid hx
  obtain ⟨B1, hBB1⟩ : ∃ B, w1.heap.size = B := ⟨_, rfl⟩
  obtain ⟨B2, hBB2⟩ : ∃ B, w2.heap.size = B := ⟨_, rfl⟩
  obtain ⟨g2, hgg2⟩ : ∃ B, w3.heap.size = B := ⟨_, rfl⟩
  rw [hBB1, hBB2, hgg2] at T
  rw [hBB1] at HX
  have HT := Lib.hid T
  have HO := Lib.hid hown
  have HL := Lib.hid (Eq.refl l.length)
  clear hx T hown hB3 hx3 hn3 hown3 hown1 r2 hx1 hn1 HA2 HL
  rw [hgg2]
  have HW := Lib.hid hgg2
  clear hBB1 hBB2 hgg2
  go_wp2_with fail
  go_loopw [8] (fun i wr => ∃ k : Nat, k ≤ l.length ∧ i = .int .i64 k ∧ Two w wr B1 B2 g B2 (g2 + 1) g2 l 0 0 ∧ OwnB wr w.heap.size (.slice a1 l.length c1) (List.replicate k 0 ++ l.drop k)) (fun i _ => l.length - (intOf i).toNat)
  case atStart => exact ⟨0, by omega, rfl, HT.out, HO.out⟩
  case round =>
    obtain ⟨k, hk, rfl, T, hown⟩ := hrel
    by_cases hlt : k < l.length
    · obtain ⟨ga, e1, e2, e3⟩ : ∃ ga, a1 = some ⟨ga, 0, none⟩ ∧ w.heap.size ≤ ga ∧ ga < B1 := by
        cases a1 with
        | none =>
          obtain ⟨b, o, e⟩ := hown.bs.addr (by simp; omega)
          cases e
        | some x =>
          obtain ⟨ga, rfl, e2, e3⟩ := HX.out x rfl
          exact ⟨ga, rfl, e2, e3⟩
      subst e1
      have hlen : (List.replicate k (0 : UInt8) ++ l.drop k).length = l.length := by simp; omega
      obtain ⟨hc, hfz⟩ := hown.cell hlen.symm k (by rw [hlen]; omega)
      obtain ⟨c0, hc0⟩ : ∃ c0, (List.replicate k (0 : UInt8) ++ l.drop k)[k]'(by rw [hlen]; omega) = c0 := ⟨_, rfl⟩
      rw [hc0] at hc
      have hst := hown.set hlen.symm k (by rw [hlen]; omega) 0
      rw [zero_step l k hlt] at hst
      have HST := Lib.hid hst
      have HTK := Lib.hid T
      clear hc0 hst hown hlen T
      go_wp2
      go_roundw
      case rel => exact ⟨k + 1, by omega, by go_num, HTK.out.other HST.out.2 e2 e3, HST.out.1⟩
      case measure => simp [intOf]; omega
    · clear hown
      have HT := Lib.hid T
      clear T HX HO HN HA
      go_wp2_with fail
      go_loopw [9, 10, 11] (fun i _ _ wr => ∃ k : Nat, ∃ p : Int, k ≤ S.length ∧ i = .int .i64 k ∧ p ≤ l.length ∧ Two w wr B1 B2 g B2 (g2 + 1) g2 l p p) (fun i _ _ _ => S.length - (intOf i).toNat)
      case atStart => exact ⟨0, 0, by omega, rfl, by omega, HT.out⟩
      case round =>
        clear HT
        obtain ⟨k, p, hk, rfl, hpl, T⟩ := hrel
        by_cases hlt : k < S.length
        · obtain ⟨b, o, rfl⟩ := HS.out.addr (by intro e; rw [e] at hlt; simp at hlt)
          obtain ⟨kd, hkd⟩ : ∃ x, S[k].1 = x := ⟨_, rfl⟩
          obtain ⟨nd, hnd⟩ : ∃ x, S[k].2 = x := ⟨_, rfl⟩
          have HC := Lib.hid (fun w' (h : Below w.heap.size w w') => (HS.out.belowB h).cell b o rfl k hlt)
          rw [hkd, hnd] at HC
          obtain ⟨L0, hL0⟩ : ∃ x, leftAt l p = x := ⟨_, rfl⟩
          obtain ⟨z0, hz0⟩ : ∃ x, decide (p < 0) = x := ⟨_, rfl⟩
          have CL0 := Left_at B1 B2 g l p L0 hL0 _ T.r hl hpl
          have CF0 := Lib.hid (fun w' r => Failed_at B1 B2 g l p z0 hz0 w' r)
          have HZ0 := Lib.hid hz0
          have HL0 := Lib.hid hL0
          clear hkd hnd hz0 hL0
          go_wp2_with fail
          refine CL0.mono ?_
          rintro e w4 ⟨rfl, r4, h4⟩
          replace T := T.s1 r4 h4
          clear CL0 r4 h4
          go_wp2_with (go_at_call 21; refine (CF0.out _ T.r).mono ?_; rintro e w5 ⟨rfl, rfl⟩)
          clear CF0
          have KF : ∀ w' : World, Below w.heap.size w w' → w'.cell? ⟨b, o + k * 2, none⟩ = some (.int .i64 kd) ∧ w'.cell? ⟨b, o + k * 2 + 1, none⟩ = some (.int .i64 nd) := fun w' h => HC.out w' h
          have hki : (k : Int) < (S.length : Int) := by omega
          have hk0 : (0 : Int) ≤ (k : Int) := by omega
          cases z0 with
            | true =>
              have hpn : p < 0 := by have := HZ0.out; simpa using this
              refine seqS_start (fun w' : World => Below w.heap.size w w') 46 [false, false, false, false, false, false, false, false, false, false, false, false, false, false, false, false, false, false, false, false, false, false, false, false, false, false, false, false, false, false, false, false, false, false, false, false, false, false, false, false, false, false, false, false, false, false] (by kernel_rfl) rfl rfl (T.below.drew) ?_
              refine seqS_take 0 (v := ?_) rfl (by kernel_rfl) (fun _ _ _ h => h) (Or.inl ⟨by rfl, fun w' hb => ?_⟩) ?_
              rotate_left
              · have kf := KF w' hb
                go_simp
                with_reducible rfl
              simp only [Act.put, List.setIfInBounds_toArray, List.set_cons_zero, List.set_cons_succ]
              refine seqS_take 1 (v := ?_) rfl (by kernel_rfl) (fun _ _ _ h => h) (Or.inl ⟨by rfl, fun w' hb => ?_⟩) ?_
              rotate_left
              · have kf := KF w' hb
                go_simp
                with_reducible rfl
              simp only [Act.put, List.setIfInBounds_toArray, List.set_cons_zero, List.set_cons_succ]
              refine seqS_take 2 (v := ?_) rfl (by kernel_rfl) (fun _ _ _ h => h) (Or.inl ⟨by rfl, fun w' hb => ?_⟩) ?_
              rotate_left
              · have kf := KF w' hb
                go_simp
                with_reducible rfl
              simp only [Act.put, List.setIfInBounds_toArray, List.set_cons_zero, List.set_cons_succ]
              refine seqS_take 3 (v := ?_) rfl (by kernel_rfl) (fun _ _ _ h => h) (Or.inl ⟨by rfl, fun w' hb => ?_⟩) ?_
              rotate_left
              · have kf := KF w' hb
                go_simp
                with_reducible rfl
              simp only [Act.put, List.setIfInBounds_toArray, List.set_cons_zero, List.set_cons_succ]
              refine seqS_take 4 (v := ?_) rfl (by kernel_rfl) (fun _ _ _ h => h) (Or.inl ⟨by rfl, fun w' hb => ?_⟩) ?_
              rotate_left
              · have kf := KF w' hb
                go_simp
                with_reducible rfl
              simp only [Act.put, List.setIfInBounds_toArray, List.set_cons_zero, List.set_cons_succ]
              refine seqS_take 5 (v := ?_) rfl (by kernel_rfl) (fun _ _ _ h => h) (Or.inl ⟨by rfl, fun w' hb => ?_⟩) ?_
              rotate_left
              · have kf := KF w' hb
                go_simp
                with_reducible rfl
              simp only [Act.put, List.setIfInBounds_toArray, List.set_cons_zero, List.set_cons_succ]
              refine seqS_do 6 rfl (by kernel_rfl) (fun K hK => ?_)
              go_simp
              refine (alike_any (T.ext (Below.refl _ _).drew) hl hpl kd nd).mono ?_
              rintro e w5 ⟨rfl, p', hp1, hp2, hp3, T⟩
              obtain ⟨L1, hL1⟩ : ∃ x, leftAt l p' = x := ⟨_, rfl⟩
              obtain ⟨V, hV⟩ : ∃ x, endAt l p' = x := ⟨_, rfl⟩
              obtain ⟨z, hz⟩ : ∃ x, decide (p' < 0) = x := ⟨_, rfl⟩
              have CL := Lib.hid (fun w' r => Left_at B1 B2 g l p' L1 hL1 w' r hl hp1)
              have CF := Lib.hid (fun w' r => Failed_at B1 B2 g l p' z hz w' r)
              have CE := Lib.hid (fun w' (r : Rd w' B1 B2 g l p') => End_any B1 B2 g l p' w' r hl hp1)
              have CRL := Lib.hid (fun w' (r : RRd w' B2 (g2 + 1) g2 l p') => RLeft_any B2 (g2 + 1) g2 l p' w' r hp1)
              have CRE := Lib.hid (fun w' (r : RRd w' B2 (g2 + 1) g2 l p') => REnd_any B2 (g2 + 1) g2 l p' w' r hp1)
              have hp3' := hp3
              rw [hL1] at hp3' CRL
              have hLL : leftAt l p = L0 := HL0.out
              rw [hLL] at hp3'
              rw [hV] at CE CRE
              have e1 : (L1 != L1) = false := by simp
              have e2 : (V != V) = false := by simp
              have e3 : (z != z) = false := by simp
              have e4 : decide (L0 < L1) = false := by simp; omega
              have hzt : z = true := by rw [← hz]; simpa using hp2 hpn
              subst hzt
              have HZ := Lib.hid hz
              clear hz hL1 hV hp3
              refine hK.out (fun w' : World => Two w w' B1 B2 g B2 (g2 + 1) g2 l p' p') _ _ (fun _ h => h.below) T ?_
              clear hK K
              simp only [List.set_cons_zero, List.set_cons_succ]
              replace KF : ∀ w' : World, Two w w' B1 B2 g B2 (g2 + 1) g2 l p' p' → w'.cell? ⟨g2, 1, none⟩ = some (.bool true) := fun w' h => by
                obtain ⟨_, _, _, hh, _⟩ := h.r'.cells
                rw [cell_of_row _ _ _ _ _ _ hh, ← HZ.out]; rfl
              refine seqS_take 7 (v := ?_) rfl (by kernel_rfl) (fun _ _ _ h => h) (Or.inl ⟨by rfl, fun w' hb => ?_⟩) ?_
              rotate_left
              · have kf := KF w' hb
                go_simp
                with_reducible rfl
              simp only [Act.put, List.setIfInBounds_toArray, List.set_cons_zero, List.set_cons_succ]
              refine seqS_take 8 (v := ?_) rfl (by kernel_rfl) (fun _ _ _ h => h) (Or.inl ⟨by rfl, fun w' hb => ?_⟩) ?_
              rotate_left
              · have kf := KF w' hb
                go_simp
                with_reducible rfl
              simp only [Act.put, List.setIfInBounds_toArray, List.set_cons_zero, List.set_cons_succ]
              refine seqS_take 9 (v := ?_) rfl (by kernel_rfl) (fun _ _ _ h => h) (Or.inl ⟨by rfl, fun w' hb => ?_⟩) ?_
              rotate_left
              · have kf := KF w' hb
                go_simp
                with_reducible rfl
              simp only [Act.put, List.setIfInBounds_toArray, List.set_cons_zero, List.set_cons_succ]
              refine seqS_take 11 (v := ?_) rfl (by kernel_rfl) (fun _ _ _ h => h) (Or.inl ⟨by rfl, fun w' hb => ?_⟩) ?_
              rotate_left
              · have kf := KF w' hb
                go_simp
                with_reducible rfl
              simp only [Act.put, List.setIfInBounds_toArray, List.set_cons_zero, List.set_cons_succ]
              refine seqS_do 10 rfl (by kernel_rfl) (fun K hK => ?_)
              go_simp
              refine (CL.out _ T.r).mono ?_
              rintro e w6 ⟨rfl, r6, h6⟩
              replace T := T.s1 r6 h6
              refine hK.out (fun w' : World => Two w w' B1 B2 g B2 (g2 + 1) g2 l p' p') _ _ (fun _ h => h) T ?_
              clear hK K
              simp only [List.set_cons_zero, List.set_cons_succ]
              refine seqS_do 12 rfl (by kernel_rfl) (fun K hK => ?_)
              go_simp
              refine (CRL.out _ T.r').mono ?_
              rintro e w6 ⟨rfl, rfl⟩
              refine hK.out (fun w' : World => Two w w' B1 B2 g B2 (g2 + 1) g2 l p' p') _ _ (fun _ h => h) T ?_
              clear hK K
              simp only [List.set_cons_zero, List.set_cons_succ]
              refine seqS_take 13 (v := ?_) rfl (by kernel_rfl) (fun _ _ _ h => h) (Or.inl ⟨by rfl, fun w' hb => ?_⟩) ?_
              rotate_left
              · have kf := KF w' hb
                go_simp
                with_reducible rfl
              simp only [Act.put, List.setIfInBounds_toArray, List.set_cons_zero, List.set_cons_succ]
              refine seqS_take 14 (v := ?_) rfl (by kernel_rfl) (fun _ _ _ h => h) (Or.inl ⟨by rfl, fun w' hb => ?_⟩) ?_
              rotate_left
              · have kf := KF w' hb
                go_simp
                with_reducible rfl
              simp only [Act.put, List.setIfInBounds_toArray, List.set_cons_zero, List.set_cons_succ]
              refine seqS_take 15 (v := ?_) rfl (by kernel_rfl) (fun _ _ _ h => h) (Or.inl ⟨by rfl, fun w' hb => ?_⟩) ?_
              rotate_left
              · have kf := KF w' hb
                go_simp
                with_reducible rfl
              simp only [Act.put, List.setIfInBounds_toArray, List.set_cons_zero, List.set_cons_succ]
              refine seqS_take 16 (v := ?_) rfl (by kernel_rfl) (fun _ _ _ h => h) (Or.inl ⟨by rfl, fun w' hb => ?_⟩) ?_
              rotate_left
              · have kf := KF w' hb
                go_simp
                with_reducible rfl
              simp only [Act.put, List.setIfInBounds_toArray, List.set_cons_zero, List.set_cons_succ]
              refine seqS_take 18 (v := ?_) rfl (by kernel_rfl) (fun _ _ _ h => h) (Or.inl ⟨by rfl, fun w' hb => ?_⟩) ?_
              rotate_left
              · have kf := KF w' hb
                go_simp
                with_reducible rfl
              simp only [Act.put, List.setIfInBounds_toArray, List.set_cons_zero, List.set_cons_succ]
              refine seqS_take 19 (v := ?_) rfl (by kernel_rfl) (fun _ _ _ h => h) (Or.inl ⟨by rfl, fun w' hb => ?_⟩) ?_
              rotate_left
              · have kf := KF w' hb
                go_simp
                with_reducible rfl
              simp only [Act.put, List.setIfInBounds_toArray, List.set_cons_zero, List.set_cons_succ]
              refine seqS_take 20 (v := ?_) rfl (by kernel_rfl) (fun _ _ _ h => h) (Or.inl ⟨by rfl, fun w' hb => ?_⟩) ?_
              rotate_left
              · have kf := KF w' hb
                go_simp
                with_reducible rfl
              simp only [Act.put, List.setIfInBounds_toArray, List.set_cons_zero, List.set_cons_succ]
              refine seqS_take 21 (v := ?_) rfl (by kernel_rfl) (fun _ _ _ h => h) (Or.inl ⟨by rfl, fun w' hb => ?_⟩) ?_
              rotate_left
              · have kf := KF w' hb
                go_simp
                with_reducible rfl
              simp only [Act.put, List.setIfInBounds_toArray, List.set_cons_zero, List.set_cons_succ]
              refine seqS_do 17 rfl (by kernel_rfl) (fun K hK => ?_)
              go_simp
              refine (CF.out _ T.r).mono ?_
              rintro e w6 ⟨rfl, rfl⟩
              refine hK.out (fun w' : World => Two w w' B1 B2 g B2 (g2 + 1) g2 l p' p') _ _ (fun _ h => h) T ?_
              clear hK K
              simp only [List.set_cons_zero, List.set_cons_succ]
              refine seqS_take 22 (v := ?_) rfl (by kernel_rfl) (fun _ _ _ h => h) (Or.inl ⟨by rfl, fun w' hb => ?_⟩) ?_
              rotate_left
              · have kf := KF w' hb
                go_simp
                with_reducible rfl
              simp only [Act.put, List.setIfInBounds_toArray, List.set_cons_zero, List.set_cons_succ]
              refine seqS_take 23 (v := ?_) rfl (by kernel_rfl) (fun _ _ _ h => h) (Or.inl ⟨by rfl, fun w' hb => ?_⟩) ?_
              rotate_left
              · have kf := KF w' hb
                go_simp
                with_reducible rfl
              simp only [Act.put, List.setIfInBounds_toArray, List.set_cons_zero, List.set_cons_succ]
              refine seqS_take 24 (v := ?_) rfl (by kernel_rfl) (fun _ _ _ h => h) (Or.inl ⟨by rfl, fun w' hb => ?_⟩) ?_
              rotate_left
              · have kf := KF w' hb
                go_simp
                with_reducible rfl
              simp only [Act.put, List.setIfInBounds_toArray, List.set_cons_zero, List.set_cons_succ]
              refine seqS_take 25 (v := ?_) rfl (by kernel_rfl) (fun _ _ _ h => h) (Or.inl ⟨by rfl, fun w' hb => ?_⟩) ?_
              rotate_left
              · have kf := KF w' hb
                go_simp
                with_reducible rfl
              simp only [Act.put, List.setIfInBounds_toArray, List.set_cons_zero, List.set_cons_succ]
              refine seqS_take 28 (v := ?_) rfl (by kernel_rfl) (fun _ _ _ h => h) (Or.inl ⟨by rfl, fun w' hb => ?_⟩) ?_
              rotate_left
              · have kf := KF w' hb
                go_simp
                with_reducible rfl
              simp only [Act.put, List.setIfInBounds_toArray, List.set_cons_zero, List.set_cons_succ]
              refine seqS_do 26 rfl (by kernel_rfl) (fun K hK => ?_)
              go_simp
              refine (CE.out _ T.r).mono ?_
              rintro e w6 ⟨rfl, r6, h6⟩
              replace T := T.s1 r6 h6
              refine hK.out (fun w' : World => Two w w' B1 B2 g B2 (g2 + 1) g2 l p' p') _ _ (fun _ h => h) T ?_
              clear hK K
              simp only [List.set_cons_zero, List.set_cons_succ]
              refine seqS_do 27 rfl (by kernel_rfl) (fun K hK => ?_)
              go_simp
              go_at_call 12
              refine (num_any _ _).mono ?_
              rintro e w6 ⟨rfl, rfl⟩
              refine hK.out (fun w' : World => Two w w' B1 B2 g B2 (g2 + 1) g2 l p' p') _ _ (fun _ h => h) T ?_
              clear hK K
              simp only [List.set_cons_zero, List.set_cons_succ]
              refine seqS_do 29 rfl (by kernel_rfl) (fun K hK => ?_)
              go_simp
              refine (CRE.out _ T.r').mono ?_
              rintro e w6 ⟨rfl, rfl⟩
              refine hK.out (fun w' : World => Two w w' B1 B2 g B2 (g2 + 1) g2 l p' p') _ _ (fun _ h => h) T ?_
              clear hK K
              simp only [List.set_cons_zero, List.set_cons_succ]
              refine seqS_take 30 (v := ?_) rfl (by kernel_rfl) (fun _ _ _ h => h) (Or.inl ⟨by rfl, fun w' hb => ?_⟩) ?_
              rotate_left
              · have kf := KF w' hb
                go_simp
                with_reducible rfl
              simp only [Act.put, List.setIfInBounds_toArray, List.set_cons_zero, List.set_cons_succ]
              refine seqS_take 31 (v := ?_) rfl (by kernel_rfl) (fun _ _ _ h => h) (Or.inl ⟨by rfl, fun w' hb => ?_⟩) ?_
              rotate_left
              · have kf := KF w' hb
                go_simp
                with_reducible rfl
              simp only [Act.put, List.setIfInBounds_toArray, List.set_cons_zero, List.set_cons_succ]
              refine seqS_take 32 (v := ?_) rfl (by kernel_rfl) (fun _ _ _ h => h) (Or.inl ⟨by rfl, fun w' hb => ?_⟩) ?_
              rotate_left
              · have kf := KF w' hb
                go_simp
                with_reducible rfl
              simp only [Act.put, List.setIfInBounds_toArray, List.set_cons_zero, List.set_cons_succ]
              refine seqS_take 33 (v := ?_) rfl (by kernel_rfl) (fun _ _ _ h => h) (Or.inl ⟨by rfl, fun w' hb => ?_⟩) ?_
              rotate_left
              · have kf := KF w' hb
                go_simp
                with_reducible rfl
              simp only [Act.put, List.setIfInBounds_toArray, List.set_cons_zero, List.set_cons_succ]
              refine seqS_take 35 (v := ?_) rfl (by kernel_rfl) (fun _ _ _ h => h) (Or.inl ⟨by rfl, fun w' hb => ?_⟩) ?_
              rotate_left
              · have kf := KF w' hb
                go_simp
                with_reducible rfl
              simp only [Act.put, List.setIfInBounds_toArray, List.set_cons_zero, List.set_cons_succ]
              refine seqS_do 34 rfl (by kernel_rfl) (fun K hK => ?_)
              go_simp
              refine (CL.out _ T.r).mono ?_
              rintro e w6 ⟨rfl, r6, h6⟩
              replace T := T.s1 r6 h6
              refine hK.out (fun w' : World => Two w w' B1 B2 g B2 (g2 + 1) g2 l p' p') _ _ (fun _ h => h) T ?_
              clear hK K
              simp only [List.set_cons_zero, List.set_cons_succ]
              refine seqS_take 36 (v := ?_) rfl (by kernel_rfl) (fun _ _ _ h => h) (Or.inl ⟨by rfl, fun w' hb => ?_⟩) ?_
              rotate_left
              · have kf := KF w' hb
                go_simp
                with_reducible rfl
              simp only [Act.put, List.setIfInBounds_toArray, List.set_cons_zero, List.set_cons_succ]
              refine seqS_take 37 (v := ?_) rfl (by kernel_rfl) (fun _ _ _ h => h) (Or.inl ⟨by rfl, fun w' hb => ?_⟩) ?_
              rotate_left
              · have kf := KF w' hb
                go_simp
                with_reducible rfl
              simp only [Act.put, List.setIfInBounds_toArray, List.set_cons_zero, List.set_cons_succ]
              refine seqS_take 38 (v := ?_) rfl (by kernel_rfl) (fun _ _ _ h => h) (Or.inl ⟨by rfl, fun w' hb => ?_⟩) ?_
              rotate_left
              · have kf := KF w' hb
                go_simp
                with_reducible rfl
              simp only [Act.put, List.setIfInBounds_toArray, List.set_cons_zero, List.set_cons_succ]
              refine seqS_take 39 (v := ?_) rfl (by kernel_rfl) (fun _ _ _ h => h) (Or.inl ⟨by rfl, fun w' hb => ?_⟩) ?_
              rotate_left
              · have kf := KF w' hb
                go_simp
                with_reducible rfl
              simp only [Act.put, List.setIfInBounds_toArray, List.set_cons_zero, List.set_cons_succ]
              refine seqS_take 40 (v := ?_) rfl (by kernel_rfl) (fun _ _ _ h => h) (Or.inl ⟨by rfl, fun w' hb => ?_⟩) ?_
              rotate_left
              · have kf := KF w' hb
                go_simp
                with_reducible rfl
              simp only [Act.put, List.setIfInBounds_toArray, List.set_cons_zero, List.set_cons_succ]
              refine seqS_take 41 (v := ?_) rfl (by kernel_rfl) (fun _ _ _ h => h) (Or.inl ⟨by rfl, fun w' hb => ?_⟩) ?_
              rotate_left
              · have kf := KF w' hb
                go_simp
                with_reducible rfl
              simp only [Act.put, List.setIfInBounds_toArray, List.set_cons_zero, List.set_cons_succ]
              refine seqS_do 42 rfl (by kernel_rfl) (fun K hK => ?_)
              go_simp
              refine (CF.out _ T.r).mono ?_
              rintro e w6 ⟨rfl, rfl⟩
              refine hK.out (fun w' : World => Two w w' B1 B2 g B2 (g2 + 1) g2 l p' p') _ _ (fun _ h => h) T ?_
              clear hK K
              simp only [List.set_cons_zero, List.set_cons_succ]
              refine seqS_take 43 (v := ?_) rfl (by kernel_rfl) (fun _ _ _ h => h) (Or.inl ⟨by rfl, fun w' hb => ?_⟩) ?_
              rotate_left
              · have kf := KF w' hb
                go_simp
                with_reducible rfl
              simp only [Act.put, List.setIfInBounds_toArray, List.set_cons_zero, List.set_cons_succ]
              refine seqS_take 44 (v := ?_) rfl (by kernel_rfl) (fun _ _ _ h => h) (Or.inl ⟨by rfl, fun w' hb => ?_⟩) ?_
              rotate_left
              · have kf := KF w' hb
                go_simp
                with_reducible rfl
              simp only [Act.put, List.setIfInBounds_toArray, List.set_cons_zero, List.set_cons_succ]
              refine seqS_take 45 (v := ?_) rfl (by kernel_rfl) (fun _ _ _ h => h) (Or.inl ⟨by rfl, fun w' hb => ?_⟩) ?_
              rotate_left
              · have kf := KF w' hb
                go_simp
                with_reducible rfl
              simp only [Act.put, List.setIfInBounds_toArray, List.set_cons_zero, List.set_cons_succ]
              refine seqS_end (by kernel_rfl) (fun hEnd => ?_)
              go_wp2_with fail
              go_roundw
              case rel => exact ⟨k + 1, p', by omega, by go_num, hp1, T⟩
              case measure => simp [intOf]; omega
            | false =>
              refine seqS_start (fun w' : World => Below w.heap.size w w') 46 [false, false, false, false, false, false, false, false, false, false, false, false, false, false, false, false, false, false, false, false, false, false, false, false, false, false, false, false, false, false, false, false, false, false, false, false, false, false, false, false, false, false, false, false, false, false] (by kernel_rfl) rfl rfl (T.below.drew) ?_
              refine seqS_take 0 (v := ?_) rfl (by kernel_rfl) (fun _ _ _ h => h) (Or.inl ⟨by rfl, fun w' hb => ?_⟩) ?_
              rotate_left
              · have kf := KF w' hb
                go_simp
                with_reducible rfl
              simp only [Act.put, List.setIfInBounds_toArray, List.set_cons_zero, List.set_cons_succ]
              refine seqS_take 1 (v := ?_) rfl (by kernel_rfl) (fun _ _ _ h => h) (Or.inl ⟨by rfl, fun w' hb => ?_⟩) ?_
              rotate_left
              · have kf := KF w' hb
                go_simp
                with_reducible rfl
              simp only [Act.put, List.setIfInBounds_toArray, List.set_cons_zero, List.set_cons_succ]
              refine seqS_take 2 (v := ?_) rfl (by kernel_rfl) (fun _ _ _ h => h) (Or.inl ⟨by rfl, fun w' hb => ?_⟩) ?_
              rotate_left
              · have kf := KF w' hb
                go_simp
                with_reducible rfl
              simp only [Act.put, List.setIfInBounds_toArray, List.set_cons_zero, List.set_cons_succ]
              refine seqS_take 3 (v := ?_) rfl (by kernel_rfl) (fun _ _ _ h => h) (Or.inl ⟨by rfl, fun w' hb => ?_⟩) ?_
              rotate_left
              · have kf := KF w' hb
                go_simp
                with_reducible rfl
              simp only [Act.put, List.setIfInBounds_toArray, List.set_cons_zero, List.set_cons_succ]
              refine seqS_take 4 (v := ?_) rfl (by kernel_rfl) (fun _ _ _ h => h) (Or.inl ⟨by rfl, fun w' hb => ?_⟩) ?_
              rotate_left
              · have kf := KF w' hb
                go_simp
                with_reducible rfl
              simp only [Act.put, List.setIfInBounds_toArray, List.set_cons_zero, List.set_cons_succ]
              refine seqS_take 5 (v := ?_) rfl (by kernel_rfl) (fun _ _ _ h => h) (Or.inl ⟨by rfl, fun w' hb => ?_⟩) ?_
              rotate_left
              · have kf := KF w' hb
                go_simp
                with_reducible rfl
              simp only [Act.put, List.setIfInBounds_toArray, List.set_cons_zero, List.set_cons_succ]
              refine seqS_do 6 rfl (by kernel_rfl) (fun K hK => ?_)
              go_simp
              refine (alike_any (T.ext (Below.refl _ _).drew) hl hpl kd nd).mono ?_
              rintro e w5 ⟨rfl, p', hp1, hp2, hp3, T⟩
              obtain ⟨L1, hL1⟩ : ∃ x, leftAt l p' = x := ⟨_, rfl⟩
              obtain ⟨V, hV⟩ : ∃ x, endAt l p' = x := ⟨_, rfl⟩
              obtain ⟨z, hz⟩ : ∃ x, decide (p' < 0) = x := ⟨_, rfl⟩
              have CL := Lib.hid (fun w' r => Left_at B1 B2 g l p' L1 hL1 w' r hl hp1)
              have CF := Lib.hid (fun w' r => Failed_at B1 B2 g l p' z hz w' r)
              have CE := Lib.hid (fun w' (r : Rd w' B1 B2 g l p') => End_any B1 B2 g l p' w' r hl hp1)
              have CRL := Lib.hid (fun w' (r : RRd w' B2 (g2 + 1) g2 l p') => RLeft_any B2 (g2 + 1) g2 l p' w' r hp1)
              have CRE := Lib.hid (fun w' (r : RRd w' B2 (g2 + 1) g2 l p') => REnd_any B2 (g2 + 1) g2 l p' w' r hp1)
              have hp3' := hp3
              rw [hL1] at hp3' CRL
              have hLL : leftAt l p = L0 := HL0.out
              rw [hLL] at hp3'
              rw [hV] at CE CRE
              have e1 : (L1 != L1) = false := by simp
              have e2 : (V != V) = false := by simp
              have e3 : (z != z) = false := by simp
              have e4 : decide (L0 < L1) = false := by simp; omega
              have HZ := Lib.hid hz
              clear hz hL1 hV hp3
              refine hK.out (fun w' : World => Two w w' B1 B2 g B2 (g2 + 1) g2 l p' p') _ _ (fun _ h => h.below) T ?_
              clear hK K
              simp only [List.set_cons_zero, List.set_cons_succ]
              replace KF : ∀ w' : World, Two w w' B1 B2 g B2 (g2 + 1) g2 l p' p' → w'.cell? ⟨g2, 1, none⟩ = some (.bool z) := fun w' h => by
                obtain ⟨_, _, _, hh, _⟩ := h.r'.cells
                rw [cell_of_row _ _ _ _ _ _ hh, ← HZ.out]; rfl
              refine seqS_take 7 (v := ?_) rfl (by kernel_rfl) (fun _ _ _ h => h) (Or.inl ⟨by rfl, fun w' hb => ?_⟩) ?_
              rotate_left
              · have kf := KF w' hb
                go_simp
                with_reducible rfl
              simp only [Act.put, List.setIfInBounds_toArray, List.set_cons_zero, List.set_cons_succ]
              refine seqS_take 8 (v := ?_) rfl (by kernel_rfl) (fun _ _ _ h => h) (Or.inl ⟨by rfl, fun w' hb => ?_⟩) ?_
              rotate_left
              · have kf := KF w' hb
                go_simp
                with_reducible rfl
              simp only [Act.put, List.setIfInBounds_toArray, List.set_cons_zero, List.set_cons_succ]
              refine seqS_take 9 (v := ?_) rfl (by kernel_rfl) (fun _ _ _ h => h) (Or.inl ⟨by rfl, fun w' hb => ?_⟩) ?_
              rotate_left
              · have kf := KF w' hb
                go_simp
                with_reducible rfl
              simp only [Act.put, List.setIfInBounds_toArray, List.set_cons_zero, List.set_cons_succ]
              refine seqS_take 11 (v := ?_) rfl (by kernel_rfl) (fun _ _ _ h => h) (Or.inl ⟨by rfl, fun w' hb => ?_⟩) ?_
              rotate_left
              · have kf := KF w' hb
                go_simp
                with_reducible rfl
              simp only [Act.put, List.setIfInBounds_toArray, List.set_cons_zero, List.set_cons_succ]
              refine seqS_do 10 rfl (by kernel_rfl) (fun K hK => ?_)
              go_simp
              refine (CL.out _ T.r).mono ?_
              rintro e w6 ⟨rfl, r6, h6⟩
              replace T := T.s1 r6 h6
              refine hK.out (fun w' : World => Two w w' B1 B2 g B2 (g2 + 1) g2 l p' p') _ _ (fun _ h => h) T ?_
              clear hK K
              simp only [List.set_cons_zero, List.set_cons_succ]
              refine seqS_do 12 rfl (by kernel_rfl) (fun K hK => ?_)
              go_simp
              refine (CRL.out _ T.r').mono ?_
              rintro e w6 ⟨rfl, rfl⟩
              refine hK.out (fun w' : World => Two w w' B1 B2 g B2 (g2 + 1) g2 l p' p') _ _ (fun _ h => h) T ?_
              clear hK K
              simp only [List.set_cons_zero, List.set_cons_succ]
              refine seqS_take 13 (v := ?_) rfl (by kernel_rfl) (fun _ _ _ h => h) (Or.inl ⟨by rfl, fun w' hb => ?_⟩) ?_
              rotate_left
              · have kf := KF w' hb
                go_simp
                with_reducible rfl
              simp only [Act.put, List.setIfInBounds_toArray, List.set_cons_zero, List.set_cons_succ]
              refine seqS_take 14 (v := ?_) rfl (by kernel_rfl) (fun _ _ _ h => h) (Or.inl ⟨by rfl, fun w' hb => ?_⟩) ?_
              rotate_left
              · have kf := KF w' hb
                go_simp
                with_reducible rfl
              simp only [Act.put, List.setIfInBounds_toArray, List.set_cons_zero, List.set_cons_succ]
              refine seqS_take 15 (v := ?_) rfl (by kernel_rfl) (fun _ _ _ h => h) (Or.inl ⟨by rfl, fun w' hb => ?_⟩) ?_
              rotate_left
              · have kf := KF w' hb
                go_simp
                with_reducible rfl
              simp only [Act.put, List.setIfInBounds_toArray, List.set_cons_zero, List.set_cons_succ]
              refine seqS_take 16 (v := ?_) rfl (by kernel_rfl) (fun _ _ _ h => h) (Or.inl ⟨by rfl, fun w' hb => ?_⟩) ?_
              rotate_left
              · have kf := KF w' hb
                go_simp
                with_reducible rfl
              simp only [Act.put, List.setIfInBounds_toArray, List.set_cons_zero, List.set_cons_succ]
              refine seqS_take 18 (v := ?_) rfl (by kernel_rfl) (fun _ _ _ h => h) (Or.inl ⟨by rfl, fun w' hb => ?_⟩) ?_
              rotate_left
              · have kf := KF w' hb
                go_simp
                with_reducible rfl
              simp only [Act.put, List.setIfInBounds_toArray, List.set_cons_zero, List.set_cons_succ]
              refine seqS_take 19 (v := ?_) rfl (by kernel_rfl) (fun _ _ _ h => h) (Or.inl ⟨by rfl, fun w' hb => ?_⟩) ?_
              rotate_left
              · have kf := KF w' hb
                go_simp
                with_reducible rfl
              simp only [Act.put, List.setIfInBounds_toArray, List.set_cons_zero, List.set_cons_succ]
              refine seqS_take 20 (v := ?_) rfl (by kernel_rfl) (fun _ _ _ h => h) (Or.inl ⟨by rfl, fun w' hb => ?_⟩) ?_
              rotate_left
              · have kf := KF w' hb
                go_simp
                with_reducible rfl
              simp only [Act.put, List.setIfInBounds_toArray, List.set_cons_zero, List.set_cons_succ]
              refine seqS_take 21 (v := ?_) rfl (by kernel_rfl) (fun _ _ _ h => h) (Or.inl ⟨by rfl, fun w' hb => ?_⟩) ?_
              rotate_left
              · have kf := KF w' hb
                go_simp
                with_reducible rfl
              simp only [Act.put, List.setIfInBounds_toArray, List.set_cons_zero, List.set_cons_succ]
              refine seqS_do 17 rfl (by kernel_rfl) (fun K hK => ?_)
              go_simp
              refine (CF.out _ T.r).mono ?_
              rintro e w6 ⟨rfl, rfl⟩
              refine hK.out (fun w' : World => Two w w' B1 B2 g B2 (g2 + 1) g2 l p' p') _ _ (fun _ h => h) T ?_
              clear hK K
              simp only [List.set_cons_zero, List.set_cons_succ]
              refine seqS_take 22 (v := ?_) rfl (by kernel_rfl) (fun _ _ _ h => h) (Or.inl ⟨by rfl, fun w' hb => ?_⟩) ?_
              rotate_left
              · have kf := KF w' hb
                go_simp
                with_reducible rfl
              simp only [Act.put, List.setIfInBounds_toArray, List.set_cons_zero, List.set_cons_succ]
              refine seqS_take 23 (v := ?_) rfl (by kernel_rfl) (fun _ _ _ h => h) (Or.inl ⟨by rfl, fun w' hb => ?_⟩) ?_
              rotate_left
              · have kf := KF w' hb
                go_simp
                with_reducible rfl
              simp only [Act.put, List.setIfInBounds_toArray, List.set_cons_zero, List.set_cons_succ]
              refine seqS_take 24 (v := ?_) rfl (by kernel_rfl) (fun _ _ _ h => h) (Or.inl ⟨by rfl, fun w' hb => ?_⟩) ?_
              rotate_left
              · have kf := KF w' hb
                go_simp
                with_reducible rfl
              simp only [Act.put, List.setIfInBounds_toArray, List.set_cons_zero, List.set_cons_succ]
              refine seqS_take 25 (v := ?_) rfl (by kernel_rfl) (fun _ _ _ h => h) (Or.inl ⟨by rfl, fun w' hb => ?_⟩) ?_
              rotate_left
              · have kf := KF w' hb
                go_simp
                with_reducible rfl
              simp only [Act.put, List.setIfInBounds_toArray, List.set_cons_zero, List.set_cons_succ]
              refine seqS_take 28 (v := ?_) rfl (by kernel_rfl) (fun _ _ _ h => h) (Or.inl ⟨by rfl, fun w' hb => ?_⟩) ?_
              rotate_left
              · have kf := KF w' hb
                go_simp
                with_reducible rfl
              simp only [Act.put, List.setIfInBounds_toArray, List.set_cons_zero, List.set_cons_succ]
              refine seqS_do 26 rfl (by kernel_rfl) (fun K hK => ?_)
              go_simp
              refine (CE.out _ T.r).mono ?_
              rintro e w6 ⟨rfl, r6, h6⟩
              replace T := T.s1 r6 h6
              refine hK.out (fun w' : World => Two w w' B1 B2 g B2 (g2 + 1) g2 l p' p') _ _ (fun _ h => h) T ?_
              clear hK K
              simp only [List.set_cons_zero, List.set_cons_succ]
              refine seqS_do 27 rfl (by kernel_rfl) (fun K hK => ?_)
              go_simp
              go_at_call 12
              refine (num_any _ _).mono ?_
              rintro e w6 ⟨rfl, rfl⟩
              refine hK.out (fun w' : World => Two w w' B1 B2 g B2 (g2 + 1) g2 l p' p') _ _ (fun _ h => h) T ?_
              clear hK K
              simp only [List.set_cons_zero, List.set_cons_succ]
              refine seqS_do 29 rfl (by kernel_rfl) (fun K hK => ?_)
              go_simp
              refine (CRE.out _ T.r').mono ?_
              rintro e w6 ⟨rfl, rfl⟩
              refine hK.out (fun w' : World => Two w w' B1 B2 g B2 (g2 + 1) g2 l p' p') _ _ (fun _ h => h) T ?_
              clear hK K
              simp only [List.set_cons_zero, List.set_cons_succ]
              refine seqS_take 30 (v := ?_) rfl (by kernel_rfl) (fun _ _ _ h => h) (Or.inl ⟨by rfl, fun w' hb => ?_⟩) ?_
              rotate_left
              · have kf := KF w' hb
                go_simp
                with_reducible rfl
              simp only [Act.put, List.setIfInBounds_toArray, List.set_cons_zero, List.set_cons_succ]
              refine seqS_take 31 (v := ?_) rfl (by kernel_rfl) (fun _ _ _ h => h) (Or.inl ⟨by rfl, fun w' hb => ?_⟩) ?_
              rotate_left
              · have kf := KF w' hb
                go_simp
                with_reducible rfl
              simp only [Act.put, List.setIfInBounds_toArray, List.set_cons_zero, List.set_cons_succ]
              refine seqS_take 32 (v := ?_) rfl (by kernel_rfl) (fun _ _ _ h => h) (Or.inl ⟨by rfl, fun w' hb => ?_⟩) ?_
              rotate_left
              · have kf := KF w' hb
                go_simp
                with_reducible rfl
              simp only [Act.put, List.setIfInBounds_toArray, List.set_cons_zero, List.set_cons_succ]
              refine seqS_take 33 (v := ?_) rfl (by kernel_rfl) (fun _ _ _ h => h) (Or.inl ⟨by rfl, fun w' hb => ?_⟩) ?_
              rotate_left
              · have kf := KF w' hb
                go_simp
                with_reducible rfl
              simp only [Act.put, List.setIfInBounds_toArray, List.set_cons_zero, List.set_cons_succ]
              refine seqS_take 35 (v := ?_) rfl (by kernel_rfl) (fun _ _ _ h => h) (Or.inl ⟨by rfl, fun w' hb => ?_⟩) ?_
              rotate_left
              · have kf := KF w' hb
                go_simp
                with_reducible rfl
              simp only [Act.put, List.setIfInBounds_toArray, List.set_cons_zero, List.set_cons_succ]
              refine seqS_do 34 rfl (by kernel_rfl) (fun K hK => ?_)
              go_simp
              refine (CL.out _ T.r).mono ?_
              rintro e w6 ⟨rfl, r6, h6⟩
              replace T := T.s1 r6 h6
              refine hK.out (fun w' : World => Two w w' B1 B2 g B2 (g2 + 1) g2 l p' p') _ _ (fun _ h => h) T ?_
              clear hK K
              simp only [List.set_cons_zero, List.set_cons_succ]
              refine seqS_take 36 (v := ?_) rfl (by kernel_rfl) (fun _ _ _ h => h) (Or.inl ⟨by rfl, fun w' hb => ?_⟩) ?_
              rotate_left
              · have kf := KF w' hb
                go_simp
                with_reducible rfl
              simp only [Act.put, List.setIfInBounds_toArray, List.set_cons_zero, List.set_cons_succ]
              refine seqS_take 37 (v := ?_) rfl (by kernel_rfl) (fun _ _ _ h => h) (Or.inl ⟨by rfl, fun w' hb => ?_⟩) ?_
              rotate_left
              · have kf := KF w' hb
                go_simp
                with_reducible rfl
              simp only [Act.put, List.setIfInBounds_toArray, List.set_cons_zero, List.set_cons_succ]
              refine seqS_take 38 (v := ?_) rfl (by kernel_rfl) (fun _ _ _ h => h) (Or.inl ⟨by rfl, fun w' hb => ?_⟩) ?_
              rotate_left
              · have kf := KF w' hb
                go_simp
                with_reducible rfl
              simp only [Act.put, List.setIfInBounds_toArray, List.set_cons_zero, List.set_cons_succ]
              refine seqS_take 39 (v := ?_) rfl (by kernel_rfl) (fun _ _ _ h => h) (Or.inl ⟨by rfl, fun w' hb => ?_⟩) ?_
              rotate_left
              · have kf := KF w' hb
                go_simp
                with_reducible rfl
              simp only [Act.put, List.setIfInBounds_toArray, List.set_cons_zero, List.set_cons_succ]
              refine seqS_take 40 (v := ?_) rfl (by kernel_rfl) (fun _ _ _ h => h) (Or.inl ⟨by rfl, fun w' hb => ?_⟩) ?_
              rotate_left
              · have kf := KF w' hb
                go_simp
                with_reducible rfl
              simp only [Act.put, List.setIfInBounds_toArray, List.set_cons_zero, List.set_cons_succ]
              refine seqS_take 41 (v := undef) rfl (by kernel_rfl) (fun _ _ _ h => h) (Or.inr ⟨by rfl, rfl⟩) ?_
              simp only [Act.put, List.setIfInBounds_toArray, List.set_cons_zero, List.set_cons_succ]
              refine seqS_take 42 (v := undef) rfl (by kernel_rfl) (fun _ _ _ h => h) (Or.inr ⟨by rfl, rfl⟩) ?_
              simp only [Act.put, List.setIfInBounds_toArray, List.set_cons_zero, List.set_cons_succ]
              refine seqS_take 43 (v := undef) rfl (by kernel_rfl) (fun _ _ _ h => h) (Or.inr ⟨by rfl, rfl⟩) ?_
              simp only [Act.put, List.setIfInBounds_toArray, List.set_cons_zero, List.set_cons_succ]
              refine seqS_take 44 (v := ?_) rfl (by kernel_rfl) (fun _ _ _ h => h) (Or.inl ⟨by rfl, fun w' hb => ?_⟩) ?_
              rotate_left
              · have kf := KF w' hb
                go_simp
                with_reducible rfl
              simp only [Act.put, List.setIfInBounds_toArray, List.set_cons_zero, List.set_cons_succ]
              refine seqS_take 45 (v := ?_) rfl (by kernel_rfl) (fun _ _ _ h => h) (Or.inl ⟨by rfl, fun w' hb => ?_⟩) ?_
              rotate_left
              · have kf := KF w' hb
                go_simp
                with_reducible rfl
              simp only [Act.put, List.setIfInBounds_toArray, List.set_cons_zero, List.set_cons_succ]
              refine seqS_end (by kernel_rfl) (fun hEnd => ?_)
              go_wp2_with fail
              go_roundw
              case rel => exact ⟨k + 1, p', by omega, by go_num, hp1, T⟩
              case measure => simp [intOf]; omega
        · go_wp2_with (go_at_call 13; refine (known_any _).mono ?_; rintro e w5 ⟨rfl, hb5⟩)
          go_ret
          exact ⟨rfl, belT T.below hb5⟩
end Go.Proofs.Ytcfcdnoebgdfeaa

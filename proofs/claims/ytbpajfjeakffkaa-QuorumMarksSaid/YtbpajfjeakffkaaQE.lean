/- SortedFunc at places; Least. -/
import Derived.Test.YtbpajfjeakffkaaQD
import Derived.Test.YtbpajfjeakffkaaSortP
namespace Go.Proofs.Ytbpajfjeakffkaa
open Go.RowKit Go.Sort Go.Shelf

/-! ### the plain law -/
theorem lessP_irr (p : Pl) : lessP p p = false := by simp [lessP]
theorem less_iff (p q : Pl) : lessP p q = true ↔ p.1 < q.1 ∨ (p.1 = q.1 ∧ p.2 < q.2) := by simp [lessP]
theorem upto_iff (p q : Pl) : uptoP p q = true ↔ ¬ (q.1 < p.1 ∨ (q.1 = p.1 ∧ q.2 < p.2)) := by
  unfold uptoP
  have := less_iff q p
  cases h : lessP q p
  · exact ⟨fun _ h2 => (by have := this.2 h2; rw [h] at this; cases this), fun _ => rfl⟩
  · exact ⟨fun h2 => (by cases h2), fun h2 => absurd (this.1 h) h2⟩
theorem upto_trans {p q r : Pl} (h1 : uptoP p q = true) (h2 : uptoP q r = true) : uptoP p r = true := by
  rw [upto_iff] at *; omega
theorem upto_total (p q : Pl) : uptoP p q = true ∨ uptoP q p = true := by
  rw [upto_iff, upto_iff]; omega
theorem upto_refl (p : Pl) : uptoP p p = true := by rw [upto_iff]; omega
theorem upto_anti {p q : Pl} (h1 : uptoP p q = true) (h2 : uptoP q p = true) : p = q := by
  rw [upto_iff] at *
  obtain ⟨a, b⟩ := p
  obtain ⟨c, d⟩ := q
  simp only at h1 h2
  have : a = c ∧ b = d := by omega
  rw [this.1, this.2]
theorem not_upto {p q : Pl} (h : uptoP p q = false) : lessP q p = true := by unfold uptoP at h; simpa using h
theorem rbs_inv (l : List Pl) (kk : Int) : ∀ n, n ≤ l.length → (rbs l kk n < 0 → ∀ i (h : i < l.length), i < n → ¬ kk ≤ (haveN l l[i] : Int)) ∧
    (∀ m : Nat, rbs l kk n = (m : Int) → ∃ hm : m < l.length, kk ≤ (haveN l l[m] : Int) ∧ ∀ i (h : i < l.length), i < n → kk ≤ (haveN l l[i] : Int) → uptoP l[i] l[m] = true) := by
  intro n
  induction n with
  | zero =>
    intro _
    refine ⟨fun _ i _ h => by omega, fun m hm => ?_⟩
    have : rbs l kk 0 = -1 := rfl
    omega
  | succ n ih =>
    intro hn
    obtain ⟨ih1, ih2⟩ := ih (by omega)
    have hlt : n < l.length := by omega
    have hbd := rbs_bd l kk n
    have hstep : rbs l kk (n + 1) = if kk ≤ (haveN l (l.getD n (0, 0)) : Int) ∧ (rbs l kk n < 0 ∨ uptoP (l.getD (rbs l kk n).toNat (0, 0)) (l.getD n (0, 0)) = true) then (n : Int) else rbs l kk n := rfl
    rw [getD_at l n hlt] at hstep
    by_cases hc : kk ≤ (haveN l l[n] : Int) ∧ (rbs l kk n < 0 ∨ uptoP (l.getD (rbs l kk n).toNat (0, 0)) l[n] = true)
    · rw [if_pos hc] at hstep
      refine ⟨fun h => by omega, fun m hm => ?_⟩
      have hmn : m = n := by omega
      subst hmn
      refine ⟨hlt, hc.1, fun i hi hin he => ?_⟩
      by_cases hie : i = m
      · subst hie; exact upto_refl _
      · rcases hc.2 with h | h
        · exact absurd he (ih1 h i hi (by omega))
        · by_cases hneg : rbs l kk m < 0
          · exact absurd he (ih1 hneg i hi (by omega))
          · obtain ⟨q, hq⟩ : ∃ q : Nat, rbs l kk m = (q : Int) := ⟨(rbs l kk m).toNat, by omega⟩
            obtain ⟨hql, _, h3⟩ := ih2 q hq
            rw [hq, Int.toNat_natCast, getD_at l q hql] at h
            exact upto_trans (h3 i hi (by omega) he) h
    · rw [if_neg hc] at hstep
      rw [hstep]
      refine ⟨fun h i hi hin he => ?_, fun m hm => ?_⟩
      · by_cases hie : i = n
        · subst hie; exact hc ⟨he, .inl h⟩
        · exact ih1 h i hi (by omega) he
      · obtain ⟨hml, h2, h3⟩ := ih2 m hm
        refine ⟨hml, h2, fun i hi hin he => ?_⟩
        by_cases hie : i = n
        · subst hie
          rw [hm, Int.toNat_natCast, getD_at l m hml] at hc
          by_cases hu : uptoP l[m] l[i] = true
          · exact absurd ⟨he, .inr hu⟩ hc
          · rcases upto_total l[m] l[i] with h | h
            · exact absurd h hu
            · exact h
        · exact h3 i hi (by omega) he
/-- it is that one place -/
theorem rleast_is (l : List Pl) (kk : Int) (p : Pl) (h1 : 1 ≤ kk) (hp : p ∈ l) (hk : kk ≤ (haveN l p : Int)) (ha : ∀ q ∈ l, kk ≤ (haveN l q : Int) → uptoP q p = true) : rleast l kk = some p := by
  obtain ⟨i1, i2⟩ := rbs_inv l kk l.length (Nat.le_refl _)
  obtain ⟨j, hj, rfl⟩ := List.getElem_of_mem hp
  unfold rleast
  rw [if_neg (by omega)]
  by_cases hneg : rbs l kk l.length < 0
  · exact absurd hk (i1 hneg j hj hj)
  · rw [if_neg hneg]
    obtain ⟨q, hq⟩ : ∃ q : Nat, rbs l kk l.length = (q : Int) := ⟨(rbs l kk l.length).toNat, by have := rbs_bd l kk l.length; omega⟩
    obtain ⟨hql, h2, h3⟩ := i2 q hq
    rw [hq, Int.toNat_natCast, getD_at l q hql]
    exact congrArg some (upto_anti (ha _ (List.getElem_mem hql) h2) (h3 j hj hj hk))
theorem rleast_many (l : List Pl) (kk : Int) (h : (l.length : Int) < kk) : rleast l kk = none := by
  obtain ⟨i1, i2⟩ := rbs_inv l kk l.length (Nat.le_refl _)
  unfold rleast
  split
  · rfl
  · split
    · rfl
    · exfalso
      obtain ⟨q, hq⟩ : ∃ q : Nat, rbs l kk l.length = (q : Int) := ⟨(rbs l kk l.length).toNat, by have := rbs_bd l kk l.length; omega⟩
      obtain ⟨hql, h2, _⟩ := i2 q hq
      have := haveN_le l l[q]
      omega
theorem haveN_perm {l m : List Pl} (h : l.Perm m) (p : Pl) : haveN l p = haveN m p := (h.filter _).length_eq
/-- the k-th of a falling list -/
theorem falling_at (s : List Pl) (k : Nat) (hk : k < s.length) (hs : ∀ i j (hi : i < s.length) (hj : j < s.length), i < j → uptoP s[j] s[i] = true) :
    k + 1 ≤ haveN s s[k] ∧ ∀ q, k + 1 ≤ haveN s q → uptoP q s[k] = true := by
  constructor
  · have e : s = s.take (k + 1) ++ s.drop (k + 1) := by simp
    have h1 : haveN (s.take (k + 1)) s[k] = k + 1 := by
      unfold haveN
      rw [List.filter_eq_self.2]
      · simp; omega
      · intro x hx
        obtain ⟨i, hi, rfl⟩ := List.getElem_of_mem hx
        rw [List.getElem_take]
        by_cases hik : i = k
        · subst hik; exact upto_refl _
        · exact hs i k _ hk (by simp at hi; omega)
    have h2 : haveN s s[k] = haveN (s.take (k + 1)) s[k] + haveN (s.drop (k + 1)) s[k] := by
      unfold haveN
      rw [← List.length_append, ← List.filter_append, List.take_append_drop]
    omega
  · intro q hq
    cases hu : uptoP q s[k]
    · exfalso
      have hlt : lessP s[k] q = true := not_upto hu
      have h2 : haveN s q = haveN (s.take k) q + haveN (s.drop k) q := by
        unfold haveN
        rw [← List.length_append, ← List.filter_append, List.take_append_drop]
      have h3 : haveN (s.drop k) q = 0 := by
        unfold haveN
        rw [List.length_eq_zero_iff, List.filter_eq_nil_iff]
        intro x hx hux
        obtain ⟨i, hi, rfl⟩ := List.getElem_of_mem hx
        rw [List.getElem_drop] at hux
        have hx2 : uptoP (s[k + i]'(by simp at hi; omega)) s[k] = true := by
          by_cases h0 : i = 0
          · subst h0; exact upto_refl _
          · exact hs k (k + i) hk _ (by omega)
        rw [upto_trans hux hx2] at hu
        cases hu
      have h4 := haveN_le (s.take k) q
      have h5 : (s.take k).length ≤ k := List.length_take_le _ _
      omega
    · rfl

/-! ### the sort -/
def encP (p : Pl) : List Value := [.int .u64 p.1, .int .u64 p.2]
theorem ltOf_back (p q : Pl) : ltOf (fun x y : Pl => cmpP y x) p q = lessP q p := by unfold ltOf; exact cmpP_neg q p
theorem swo_back : SWO (ltOf fun x y : Pl => cmpP y x) where
  irrefl x := by rw [ltOf_back]; exact lessP_irr x
  trans x y z h1 h2 := by rw [ltOf_back, less_iff] at *; omega
  ntrans x y z h1 h2 := by
    rw [ltOf_back] at *
    have a := less_iff y x
    have b := less_iff z y
    have c := less_iff z x
    rw [h1] at a
    rw [h2] at b
    cases h : lessP z x
    · rfl
    · rw [h] at c
      have a' : ¬ (y.1 < x.1 ∨ (y.1 = x.1 ∧ y.2 < x.2)) := fun h => by have := a.2 h; cases this
      have b' : ¬ (z.1 < y.1 ∨ (z.1 = y.1 ∧ z.2 < y.2)) := fun h => by have := b.2 h; cases this
      have c' := c.1 rfl
      omega
theorem cmp_lays (blk off size : Nat) (w : World) : CmpLays Try.prog 37 #[] encP 2 (fun x y => cmpP y x) blk off size w :=
  fun _ _ _ _ x y => back37 x y _
theorem holds_of {w : World} {g : Nat} {L : List Pl} {cur : Array Value} {t : TypeId} (hg : w.heap[g]? = some (.cells cur t (0, 0))) (hc : ∀ i (h : i < L.length), w.cell? ⟨g, i * 2, none⟩ = some (.int .u64 (L[i].1 : Int)) ∧ w.cell? ⟨g, i * 2 + 1, none⟩ = some (.int .u64 (L[i].2 : Int))) :
    HoldsK encP 2 w g 0 L.toArray := by
  intro j hj
  rw [size_flatK, List.size_toArray] at hj
  rw [get_flatK _ _ _ _ (by simpa using hj), Nat.zero_add]
  refine ⟨?_, frozen_of_row _ _ _ _ _ hg⟩
  have hi : j / 2 < L.length := by omega
  have he : L.toArray[j / 2]! = L[j / 2] := by simp [hi]
  rw [he]
  obtain ⟨c1, c2⟩ := hc (j / 2) hi
  rcases Nat.mod_two_eq_zero_or_one j with h | h
  · rw [h, show (⟨g, j, none⟩ : Addr) = ⟨g, j / 2 * 2, none⟩ by congr 1; omega, c1]; rfl
  · rw [h, show (⟨g, j, none⟩ : Addr) = ⟨g, j / 2 * 2 + 1, none⟩ by congr 1; omega, c2]; rfl
theorem ps_of_holds {w : World} {g : Nat} {L : List Pl} (h : HoldsK encP 2 w g 0 L.toArray) : Ps w (some ⟨g, 0, none⟩) L := by
  refine ⟨fun _ => ⟨_, _, rfl⟩, fun b o e i hi => ?_⟩
  cases e
  have he : L.toArray[i]! = L[i] := by simp [hi]
  have f : ∀ r, r < 2 → w.cell? ⟨g, 0 + (i * 2 + r), none⟩ = some ((encP L[i])[r]!) := fun r hr => by
    have := (h (i * 2 + r) (by rw [size_flatK, List.size_toArray]; omega)).1
    rw [get_flatK _ _ _ _ (by rw [List.size_toArray]; omega), show (i * 2 + r) / 2 = i by omega, show (i * 2 + r) % 2 = r by omega, he] at this
    exact this
  have f0 := f 0 (by omega)
  have f1 := f 1 (by omega)
  rw [Nat.zero_add, Nat.add_zero] at f0
  rw [Nat.zero_add] at f1
  rw [Nat.zero_add]
  exact ⟨f0, f1⟩
theorem below_sortW {base g n : Nat} {w : World} {d : Array Pl} {os : Array Obj} (h : base ≤ g) (h2 : base ≤ w.heap.size) : RowKit.Below base w (sortWorldK encP 2 w g 0 n d os) := by
  unfold sortWorldK putRowK putRow
  refine ⟨rfl, rfl, rfl, ?_, fun k hk => ?_⟩
  · simp [grow, mapBlock, Sort.ahead]
  · show ((w.heap.modify g _) ++ os)[k]? = w.heap[k]?
    rw [Array.getElem?_append_left (by rw [Array.size_modify]; omega), Array.getElem?_modify, if_neg (by omega)]

/-- falling, and the same places -/
def Fall (l s : List Pl) : Prop := l.Perm s ∧ ∀ i j (hi : i < s.length) (hj : j < s.length), i < j → uptoP s[j] s[i] = true
theorem fall_of {l : List Pl} {d : Array Pl} (hp : PermIn 0 l.toArray.size l.toArray d) (hs : SortedIn (ltOf fun x y : Pl => cmpP y x) 0 l.toArray.size d) : Fall l d.toList ∧ d.size = l.length := by
  obtain ⟨h1, _, h3⟩ := hp
  have h1 : d.size = l.length := by simpa using h1
  rw [List.size_toArray] at h3 hs
  have e1 : (d.extract 0 l.length).toList = d.toList := by rw [← h1]; simp
  have e2 : (l.toArray.extract 0 l.length).toList = l := by simp
  rw [e1, e2] at h3
  refine ⟨⟨h3.symm, fun i j hi hj hij => ?_⟩, h1⟩
  have hi' : i < d.size := by simpa using hi
  have hj' : j < d.size := by simpa using hj
  have := hs i j (Nat.zero_le _) hij (by omega)
  rw [ltOf_back] at this
  have ei : d[i]! = d.toList[i] := by simp [hi']
  have ej : d[j]! = d.toList[j] := by simp [hj']
  rw [ei, ej] at this
  unfold uptoP
  rw [this]; rfl
theorem sortFn (blk cap : Nat) (L : List Pl) (w : World) (hH : HoldsK encP 2 w blk 0 L.toArray) (hblk : blk < w.heap.size) (hsz : L.length < 4611686018427387904) :
    Calls Try.prog 50 #[.slice (some ⟨blk, 0, none⟩) L.length cap, .func (.func 37) #[] #[]] w fun e w' => e = .returned (.tuple #[]) ∧ ∃ (s : List Pl), Fall L s ∧ s.length = L.length ∧ Ps w' (some ⟨blk, 0, none⟩) s ∧ ∀ base, base ≤ blk → base ≤ w.heap.size → RowKit.Below base w w' := by
  have eg : ∀ args w, (callFunc 37 args).run Try.prog w = .ok (.enter 37 args) w := enters_of Try.func37 (by kernel_rfl) rfl
  have hcon := AnyQ.slices_SortFunc sortP 2 Try.isAgg26 Try.sizeOf26 encP (fun _ => rfl) (fun x v hv => by simp [encP] at hv; rcases hv with rfl | rfl <;> rfl) (fun x y => cmpP y x) swo_back 37 #[] blk 0 cap L.toArray w eg (cmp_lays blk 0 _ w) hH hblk (by simpa using hsz)
  change Calls Try.prog 50 _ _ _ at hcon
  rw [List.size_toArray] at hcon
  refine hcon.mono ?_
  rintro e w' ⟨rfl, d', n, os, hp, hs, rfl⟩
  have hp' : PermIn 0 L.toArray.size L.toArray d' := by rw [List.size_toArray]; exact hp
  have hs' : SortedIn (ltOf fun x y : Pl => cmpP y x) 0 L.toArray.size d' := by rw [List.size_toArray]; exact hs
  obtain ⟨hf, hsz'⟩ := fall_of hp' hs'
  refine ⟨rfl, d'.toList, hf, by simpa using hsz', ?_, fun base h h2 => below_sortW h h2⟩
  have := holdsK_sortWorldK_c encP 2 w blk 0 L.toArray d' n os hH hblk (by simpa using hsz')
  exact ps_of_holds (by simpa using this)
set_option maxHeartbeats 1600000 in
theorem sortedFunc39 (Bs : Nat) (a : Option Addr) (cap : Nat) (L : List Pl) (h0 : 0 < L.length) (hreach : L.length ≤ 1000000000) (w : World) (hBs : Bs < w.heap.size) (hc : w.cell? ⟨Bs, 0, none⟩ = some (.slice a L.length cap)) (hL : Ps w a L) :
    Calls Try.prog 39 #[.func (.func 51) #[] #[.pointer (some ⟨Bs, 0, none⟩)], .func (.func 37) #[] #[]] w fun e w' => ∃ g c s, e = .returned (.slice (some ⟨g, 0, none⟩) L.length c) ∧ Fall L s ∧ s.length = L.length ∧ Ps w' (some ⟨g, 0, none⟩) s ∧ RowKit.Below w.heap.size w w' ∧ w.heap.size ≤ g ∧ L.length ≤ c := by
  have P := Lib.hid (collect46 Bs a cap L hreach w hBs hc hL)
  clear hc hL
  go_enter Try.func39, Try.ntmps39
  go_wp2_with fail
  refine P.out.mono ?_
  rintro e w1 ⟨v, rfl, hown, hb1⟩
  obtain ⟨a1, c1, rfl, hps, hcc, hx, hnil⟩ := hown.form
  obtain ⟨b1, o1, rfl⟩ := hps.ex h0
  obtain ⟨g, he, hg1, hg2⟩ := hx _ rfl
  cases he
  have hH : HoldsK encP 2 w1 b1 0 L.toArray := by
    rcases hown.2 with ⟨e, _⟩ | ⟨g', cap', cur, e, _, hgb, _⟩
    · cases e
    · cases e
      exact holds_of hgb (fun i hi => by have := hps.cell b1 0 rfl i hi; simpa using this)
  have Q := Lib.hid (sortFn b1 c1 L w1 hH hg2 (by omega))
  clear hown hH hps hnil hx P
  go_wp2_with fail
  refine Q.out.mono ?_
  rintro e w2 ⟨rfl, s, hf, hsl, hp2, hb2⟩
  go_wp2_with fail
  go_ret
  exact ⟨b1, c1, s, rfl, hf, hsl, hp2, hb1.trans (hb2 _ hg1 hb1.size), hg1, hcc⟩
set_option maxHeartbeats 1600000 in
theorem least22 (kk : Int) (a : Option Addr) (c : Nat) (l : List Pl) (hl : l.length ≤ 1000000000) (w : World) (h : Ps w a l) :
    Calls Try.prog 22 #[.int .i64 kk, .slice a l.length c] w fun e w' => e = .returned (optV (rleast l kk)) ∧ RowKit.Below w.heap.size w w' := by
  by_cases hk : 1 ≤ kk ∧ kk ≤ l.length
  · obtain ⟨k, rfl⟩ : ∃ k : Nat, kk = (k : Int) + 1 := ⟨(kk - 1).toNat, by omega⟩
    have hkl : k < l.length := by omega
    have hd1 : decide ((k : Int) + 1 < 1) = false := decide_eq_false (by omega)
    have hd2 : decide ((l.length : Int) < (k : Int) + 1) = false := decide_eq_false (by omega)
    have hB0 : RowKit.Below w.heap.size w (w.alloc (.cells #[.int .u64 0, .int .u64 0] 26)) := below_alloc' w
    have P := Lib.hid (fun W (hW : RowKit.Below w.heap.size w W) => sortedFunc39 W.heap.size a c l (by omega) hl (W.alloc (.cells #[.slice a l.length c] 53)) (by simp) (by rw [cell_of_row _ _ _ _ _ _ (heap_alloc_new W _)]; rfl) ((h.below hW).below ((RowKit.Below.refl _ _).alloc (Nat.le_refl _) _)))
    have hz0 : (w.alloc (.cells #[.int .u64 0, .int .u64 0] 26)).heap[w.heap.size]? = some (.cells #[.int .u64 0, .int .u64 0] 26 (0, 0)) := heap_alloc_new _ _
    obtain ⟨W, hW⟩ : ∃ W, w.alloc (.cells #[.int .u64 0, .int .u64 0] 26) = W := ⟨_, rfl⟩
    rw [hW] at hB0 hz0
    have HW := Lib.hid hW
    have hsz : w.heap.size < W.heap.size := (Array.getElem?_eq_some_iff.1 hz0).1
    clear hk hW h
    go_enter Try.func22, Try.ntmps22
    go_wp2_with fail
    rw [HW.out]
    refine (values40 _ _ _ _).mono ?_
    rintro e w1 ⟨rfl, rfl⟩
    go_wp2_with fail
    refine (P.out W hB0).mono ?_
    rintro e w2 ⟨g, c2, s, rfl, hf, hsl, hp, hb, hg, hcc⟩
    have hs39 : (W.alloc (.cells #[.slice a l.length c] 53)).heap.size = W.heap.size + 1 := by simp
    rw [hs39] at hg
    have hz2 : w2.heap[w.heap.size]? = some (.cells #[.int .u64 0, .int .u64 0] 26 (0, 0)) := by
      rw [hb.block _ (by rw [hs39]; omega), heap_alloc_old _ _ hsz]; exact hz0
    have hlow : RowKit.Below w.heap.size w w2 := hB0.trans (((RowKit.Below.refl _ _).alloc (Nat.le_refl _) _ : RowKit.Below W.heap.size W (W.alloc (.cells #[.slice a l.length c] 53))).mono hB0.size |>.trans (hb.mono (by rw [hs39]; omega)))
    obtain ⟨d1, d2⟩ := hp.cell g 0 rfl k (by omega)
    rw [Nat.zero_add] at d1 d2
    have HR : Hid (rleast l ((k : Int) + 1) = some (s[k]'(by omega))) := by
      obtain ⟨f1, f2⟩ := falling_at s k (by omega) hf.2
      refine rleast_is l _ _ (by omega) (hf.1.mem_iff.2 (List.getElem_mem _)) ?_ fun q hq hk => ?_
      · rw [haveN_perm hf.1]; omega
      · rw [haveN_perm hf.1] at hk; exact f2 q (by omega)
    obtain ⟨y, hy⟩ : ∃ y, s[k]'(by omega) = y := ⟨_, rfl⟩
    rw [hy] at d1 d2 HR
    clear hy hf hp P HW hb hB0 hz0 hs39
    go_wp2_with (refine wpList_store_row rfl 26 (.tmp 4) (.tmp 23) rfl w.heap.size #[.int .u64 (y.1 : Int), .int .u64 (y.2 : Int)] rfl rfl 26 #[.int .u64 0, .int .u64 0] hz2 (by rw [info26]; rfl) rfl (two_one _ _) ?_)
    refine bodyPost_ret (v := .tuple #[.agg #[.int .u64 (y.1 : Int), .int .u64 (y.2 : Int)], .bool true]) (by exact res45 _ rfl _ _ w.heap.size _ _ rfl rfl (load_set _ _ _ _ _ hz2)) (by rfl) ⟨?_, ?_⟩
    · rw [HR.out]; rfl
    · exact below_setRow hlow (Nat.le_refl _) _
  · have HR : Hid (rleast l kk = none) := by
      by_cases h1 : kk < 1
      · show _ = _; unfold rleast; rw [if_pos h1]
      · exact rleast_many l kk (by omega)
    have hz0 : (w.alloc (.cells #[.int .u64 0, .int .u64 0] 26)).heap[w.heap.size]? = some (.cells #[.int .u64 0, .int .u64 0] 26 (0, 0)) := heap_alloc_new _ _
    have HZ := Lib.hid hz0
    clear hz0
    by_cases h1 : kk < 1
    · have hd1 : decide (kk < 1) = true := decide_eq_true h1
      clear hk
      go_enter Try.func22, Try.ntmps22
      go_wp2_with fail
      refine bodyPost_ret (v := .tuple #[.agg #[.int .u64 0, .int .u64 0], .bool false]) (by exact res45 _ rfl _ _ w.heap.size _ _ rfl rfl (run_loadVar_row _ _ 26 26 _ (0, 0) _ HZ.out Try.underlying26 rfl (by rw [info26]; rfl))) (by rfl) ⟨?_, below_alloc' w⟩
      rw [HR.out]; rfl
    · have hd1 : decide (kk < 1) = false := decide_eq_false h1
      have hd2 : decide ((l.length : Int) < kk) = true := decide_eq_true (by omega)
      clear hk
      go_enter Try.func22, Try.ntmps22
      go_wp2_with fail
      refine bodyPost_ret (v := .tuple #[.agg #[.int .u64 0, .int .u64 0], .bool false]) (by exact res45 _ rfl _ _ w.heap.size _ _ rfl rfl (run_loadVar_row _ _ 26 26 _ (0, 0) _ HZ.out Try.underlying26 rfl (by rw [info26]; rfl))) (by rfl) ⟨?_, below_alloc' w⟩
      rw [HR.out]; rfl

end Go.Proofs.Ytbpajfjeakffkaa

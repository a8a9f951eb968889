/- What the reference's marks tell; both marks alike. -/
import Derived.Test.YtbpajfjeakffkaaQX
import Derived.Test.YtbpajfjeakffkaaQP
namespace Go.Proofs.Ytbpajfjeakffkaa
open Go.RowKit Go.Sort Go.Shelf
attribute [local go_sem] Oper.semAt_some

/-! ### plain -/
def ents (s : List Pl) (f : List Bool) : Nat → MapD
  | 0 => []
  | k + 1 => if f.getD k false = true then ents s f k ++ [((k : Int) + 1, s.getD k (0, 0))] else ents s f k
def en (s : List Pl) (f : List Bool) (k : Nat) : MapD := ents s f k
theorem en_yes (s : List Pl) (f : List Bool) (k : Nat) (h : f.getD k false = true) : en s f (k + 1) = en s f k ++ [((k : Int) + 1, s.getD k (0, 0))] := by
  show ents s f (k + 1) = _
  unfold ents
  rw [if_pos h]; rfl
theorem en_no (s : List Pl) (f : List Bool) (k : Nat) (h : f.getD k false = false) : en s f (k + 1) = en s f k := by
  show ents s f (k + 1) = _
  unfold ents
  rw [if_neg (by rw [h]; simp)]; rfl
theorem en_len (s : List Pl) (f : List Bool) (k : Nat) : (en s f k).length ≤ k := by
  induction k with
  | zero => exact Nat.le_refl _
  | succ k ih =>
    cases h : f.getD k false
    · rw [en_no s f k h]; omega
    · rw [en_yes s f k h, List.length_append]; simp; omega
theorem mem_en (s : List Pl) (f : List Bool) (k : Nat) (n : Int) (p : Pl) : (n, p) ∈ en s f k ↔ ∃ i, i < k ∧ f.getD i false = true ∧ n = (i : Int) + 1 ∧ p = s.getD i (0, 0) := by
  induction k with
  | zero => exact ⟨fun h => (by cases h), fun ⟨i, h, _⟩ => (by omega)⟩
  | succ k ih =>
    cases h : f.getD k false
    · rw [en_no s f k h, ih]
      constructor
      · rintro ⟨i, h1, h2, h3⟩; exact ⟨i, by omega, h2, h3⟩
      · rintro ⟨i, h1, h2, h3⟩
        have : i ≠ k := fun e => by subst e; rw [h] at h2; cases h2
        exact ⟨i, by omega, h2, h3⟩
    · rw [en_yes s f k h, List.mem_append, ih]
      constructor
      · rintro (⟨i, h1, h2, h3⟩ | h1)
        · exact ⟨i, by omega, h2, h3⟩
        · simp only [List.mem_singleton, Prod.mk.injEq] at h1
          exact ⟨k, by omega, h, h1.1, h1.2⟩
      · rintro ⟨i, h1, h2, h3, h4⟩
        by_cases hk : i = k
        · subst hk; right; rw [h3, h4]; simp
        · left; exact ⟨i, by omega, h2, h3, h4⟩
theorem en_sorted (s : List Pl) (f : List Bool) (k : Nat) : ((en s f k).map (·.1)).Pairwise (· < ·) ∧ ∀ x ∈ (en s f k).map (·.1), x ≤ (k : Int) := by
  induction k with
  | zero => exact ⟨List.Pairwise.nil, fun x hx => by cases hx⟩
  | succ k ih =>
    cases h : f.getD k false
    · rw [en_no s f k h]; exact ⟨ih.1, fun x hx => by have := ih.2 x hx; omega⟩
    · rw [en_yes s f k h, List.map_append]
      refine ⟨List.pairwise_append.2 ⟨ih.1, by simp, fun a ha b hb => ?_⟩, fun x hx => ?_⟩
      · simp at hb; have := ih.2 a ha; omega
      · rcases List.mem_append.1 hx with hx | hx
        · have := ih.2 x hx; omega
        · simp at hx; omega
/-- both marks show the same -/
def View (D : MapD) (s : List Pl) (f : List Bool) : Prop := ∀ n : Int, getM D n = if 1 ≤ n ∧ n ≤ 5 ∧ f.getD (n - 1).toNat false = true then some (s.getD (n - 1).toNat (0, 0)) else none
theorem getM_iff (D : MapD) (hd : (D.map (·.1)).Nodup) (n : Int) (p : Pl) : (n, p) ∈ D ↔ getM D n = some p := by
  constructor
  · intro h
    obtain ⟨j, hj, he⟩ := List.getElem_of_mem h
    rw [getM_some D n hd j hj (by rw [he]), he]
  · intro h
    unfold getM at h
    cases hf : D.find? (fun x => x.1 = n) with
    | none => rw [hf] at h; cases h
    | some x =>
      rw [hf] at h
      have h1 := List.mem_of_find?_eq_some hf
      have h2 := List.find?_some hf
      simp at h2 h
      subst h2 h
      exact h1
theorem View.perm {D : MapD} {s : List Pl} {f : List Bool} (hv : View D s f) (hd : (D.map (·.1)).Nodup) : D.Perm (en s f 5) := by
  have n1 : D.Nodup := (List.pairwise_map.1 hd).imp fun h e => h (by rw [e])
  have n2 : (en s f 5).Nodup := (List.pairwise_map.1 (en_sorted s f 5).1).imp fun h e => by rw [e] at h; omega
  refine (List.perm_ext_iff_of_nodup n1 n2).2 fun x => ?_
  obtain ⟨n, p⟩ := x
  rw [getM_iff D hd, mem_en, hv n]
  constructor
  · intro h
    by_cases hc : 1 ≤ n ∧ n ≤ 5 ∧ f.getD (n - 1).toNat false = true
    · rw [if_pos hc] at h
      cases h
      exact ⟨(n - 1).toNat, by omega, hc.2.2, by omega, rfl⟩
    · rw [if_neg hc] at h; cases h
  · rintro ⟨i, h1, h2, rfl, rfl⟩
    rw [show ((i : Int) + 1 - 1).toNat = i by omega, if_pos ⟨by omega, by omega, h2⟩]
theorem srt_of {L M : List Int} (h : L.Perm M) (hs : M.Pairwise (· < ·)) : srt L = M := by
  have p1 : (srt L).Perm M := (List.mergeSort_perm L _).trans h
  have s1 : (srt L).Pairwise (· ≤ ·) := by
    have := List.pairwise_mergeSort (le := fun x y : Int => decide (x ≤ y)) (fun a b c h1 h2 => by simp at *; omega) (fun a b => by simp; omega) L
    exact this.imp fun h => by simpa using h
  exact p1.eq_of_pairwise (fun a b _ _ h1 h2 => by omega) s1 (hs.imp fun h => by omega)
theorem mhave_law (l : List Pl) (kk : Int) (p : Pl) : mhave (rleast l kk) kk p = (decide (kk < 1) || decide (kk ≤ (haveN l p : Int))) := by
  unfold mhave
  by_cases hk : kk < 1
  · simp [hk]
  · have e : decide (kk < 1) = false := decide_eq_false hk
    rw [e, Bool.false_or, Bool.false_or]
    cases hr : rleast l kk with
    | none =>
      refine (decide_eq_false fun hle => ?_).symm
      obtain ⟨x, hx, _, hxk⟩ := have_least l p kk (by omega) hle
      obtain ⟨r, hr2⟩ : ∃ r, rleast l kk = some r := by
        have := haveN_le l x
        exact rleast_there (by omega) (by omega)
      rw [hr] at hr2; cases hr2
    | some y =>
      obtain ⟨_, _, h2, _⟩ := rleast_spec hr
      by_cases hle : kk ≤ (haveN l p : Int)
      · have := had_upto hr hle
        rw [decide_eq_true hle]
        exact this
      · rw [decide_eq_false hle]
        cases hu : uptoP p y with
        | false => exact hu
        | true =>
          exfalso
          have hmono : haveN l y ≤ haveN l p := by
            unfold haveN
            have : (l.filter (uptoP y)) = (l.filter (uptoP y)).filter (uptoP p) := by
              refine (List.filter_eq_self.2 fun x hx => ?_).symm
              exact upto_trans hu (List.mem_filter.1 hx).2
            rw [this]
            exact ((List.filter_sublist (l := l)).filter _).length_le
          omega
theorem getM_set (D : MapD) (hd : (D.map (·.1)).Nodup) (j : Nat) (hj : j < D.length) (n : Int) (hn : D[j].1 = n) (p : Pl) (m : Int) : getM (D.set j (n, p)) m = if m = n then some p else getM D m := by
  have hk : ((D.set j (n, p)).map (·.1)) = D.map (·.1) := by
    rw [List.map_set]
    apply List.ext_getElem
    · simp
    · intro i h1 h2
      rw [List.getElem_set]
      by_cases hij : j = i
      · subst hij; simp [hn]
      · rw [if_neg hij]
  have hd2 : ((D.set j (n, p)).map (·.1)).Nodup := by rw [hk]; exact hd
  by_cases hm : m = n
  · subst hm
    rw [if_pos rfl]
    exact (getM_iff _ hd2 _ _).1 (by rw [List.mem_iff_getElem]; exact ⟨j, by simpa using hj, by simp⟩)
  · rw [if_neg hm]
    have hiff : ∀ q, (m, q) ∈ D.set j (n, p) ↔ (m, q) ∈ D := fun q => by
      rw [List.mem_iff_getElem, List.mem_iff_getElem]
      constructor
      · rintro ⟨i, hi, he⟩
        rw [List.getElem_set] at he
        by_cases hij : j = i
        · rw [if_pos hij] at he; cases he; exact absurd rfl hm
        · rw [if_neg hij] at he; exact ⟨i, by simpa using hi, he⟩
      · rintro ⟨i, hi, he⟩
        refine ⟨i, by simpa using hi, ?_⟩
        rw [List.getElem_set]
        by_cases hij : j = i
        · subst hij; rw [he] at hn; exact absurd hn hm
        · rw [if_neg hij]; exact he
    cases h1 : getM D m with
    | none =>
      cases h2 : getM (D.set j (n, p)) m with
      | none => rfl
      | some q =>
        have := (getM_iff D hd m q).1 ((hiff q).1 ((getM_iff _ hd2 m q).2 h2))
        rw [h1] at this; cases this
    | some q => exact (getM_iff _ hd2 m q).1 ((hiff q).2 ((getM_iff D hd m q).2 h1))
theorem View.set {D : MapD} {s : List Pl} {f : List Bool} (hv : View D s f) (hd : (D.map (·.1)).Nodup) (hs : s.length = 5) {j : Nat} (hj : j < D.length) {n : Int} (hn : D[j].1 = n) (h1 : 1 ≤ n) (h5 : n ≤ 5) (p : Pl) (hf : f.getD (n - 1).toNat false = true) : View (D.set j (n, p)) (s.set (n - 1).toNat p) f := by
  intro m
  rw [getM_set D hd j hj n hn p m]
  by_cases hm : m = n
  · subst hm
    rw [if_pos rfl, if_pos ⟨h1, h5, hf⟩, List.getD_eq_getElem?_getD, List.getElem?_set_self (by omega)]; rfl
  · rw [if_neg hm, hv m]
    by_cases hc : 1 ≤ m ∧ m ≤ 5 ∧ f.getD (m - 1).toNat false = true
    · rw [if_pos hc, if_pos hc, List.getD_eq_getElem?_getD, List.getD_eq_getElem?_getD, List.getElem?_set_ne (by omega)]
    · rw [if_neg hc, if_neg hc]
theorem view_fresh (l : List Int) (hm : May l) : View (fresh l) (List.replicate 5 (0, 0)) (flagsOf l) := by
  intro n
  have hk : (fresh l).map (·.1) = l := by unfold fresh; rw [List.map_map]; exact List.map_id' l
  have hd : ((fresh l).map (·.1)).Nodup := by rw [hk]; exact hm.1
  by_cases hc : n ∈ l
  · have h15 := hm.2 n hc
    have hf : (flagsOf l).getD (n - 1).toNat false = true := by
      have hi : (n - 1).toNat < (flagsOf l).length := by rw [flagsOf_len]; omega
      rw [List.getD_eq_getElem?_getD, List.getElem?_eq_getElem hi, flagsOf_get]
      have : (((n - 1).toNat : Nat) : Int) + 1 = n := by omega
      rw [this]; simpa using hc
    rw [if_pos ⟨h15.1, h15.2, hf⟩]
    have : (List.replicate 5 ((0, 0) : Pl)).getD (n - 1).toNat (0, 0) = (0, 0) := by
      rw [List.getD_eq_getElem?_getD, List.getElem?_replicate]; split <;> rfl
    rw [this]
    exact (getM_iff _ hd n _).1 (by simp [fresh]; exact hc)
  · rw [getM_none (fresh l) n (fun x hx e => by simp [fresh] at hx; obtain ⟨y, hy, rfl⟩ := hx; exact hc (e ▸ hy)), if_neg]
    rintro ⟨h1, h5, hf⟩
    have hi : (n - 1).toNat < (flagsOf l).length := by rw [flagsOf_len]; omega
    rw [List.getD_eq_getElem?_getD, List.getElem?_eq_getElem hi, flagsOf_get] at hf
    have : (((n - 1).toNat : Nat) : Int) + 1 = n := by omega
    rw [this] at hf
    exact hc (by simpa using hf)

end Go.Proofs.Ytbpajfjeakffkaa

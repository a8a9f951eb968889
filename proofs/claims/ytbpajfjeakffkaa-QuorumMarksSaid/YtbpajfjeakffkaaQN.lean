/- Plain laws of the greatest and of the least that many have. -/
import Derived.Test.YtbpajfjeakffkaaQI
namespace Go.Proofs.Ytbpajfjeakffkaa

theorem below_many (l sub : List Pl) (h : sub.Sublist l) (p : Pl) (ha : ∀ x ∈ sub, uptoP p x = false) : sub.length + haveN l p ≤ l.length := by
  unfold haveN
  induction h with
  | slnil => simp
  | cons a h ih =>
    have := ih ha
    simp only [List.filter_cons, List.length_cons]
    split <;> simp <;> omega
  | cons_cons a h ih =>
    have h1 := ih (fun x hx => ha x (by simp [hx]))
    have h2 := ha a (by simp)
    simp only [List.filter_cons, List.length_cons, h2]
    simp
    omega
theorem least_of (m : List Pl) (hm : m ≠ []) : ∃ x ∈ m, ∀ y ∈ m, uptoP x y = true := by
  induction m with
  | nil => exact absurd rfl hm
  | cons a t ih =>
    by_cases ht : t = []
    · subst ht; exact ⟨a, by simp, fun y hy => by simp at hy; subst hy; exact upto_refl y⟩
    · obtain ⟨x, hx, hall⟩ := ih ht
      rcases upto_total a x with h | h
      · refine ⟨a, by simp, fun y hy => ?_⟩
        rcases List.mem_cons.1 hy with rfl | hy
        · exact upto_refl _
        · exact upto_trans h (hall y hy)
      · refine ⟨x, by simp [hx], fun y hy => ?_⟩
        rcases List.mem_cons.1 hy with rfl | hy
        · exact h
        · exact hall y hy
theorem have_least (l : List Pl) (q : Pl) (kk : Int) (h1 : 1 ≤ kk) (h : kk ≤ (haveN l q : Int)) : ∃ x ∈ l, uptoP q x = true ∧ kk ≤ (haveN l x : Int) := by
  have hne : l.filter (uptoP q) ≠ [] := fun e => by
    have : haveN l q = 0 := by unfold haveN; rw [e]; rfl
    omega
  obtain ⟨x, hx, hall⟩ := least_of _ hne
  obtain ⟨hxl, hqx⟩ := List.mem_filter.1 hx
  refine ⟨x, hxl, hqx, ?_⟩
  have : haveN l q ≤ haveN l x := by
    unfold haveN
    refine List.Sublist.length_le ?_
    have hs : (l.filter (uptoP q)) = (l.filter (uptoP q)).filter (uptoP x) := by
      rw [List.filter_eq_self.2 hall]
    rw [hs]
    exact (List.filter_sublist (l := l)).filter _
  omega
theorem rleast_spec {l : List Pl} {kk : Int} {p : Pl} (h : rleast l kk = some p) : 1 ≤ kk ∧ p ∈ l ∧ kk ≤ (haveN l p : Int) ∧ ∀ q ∈ l, kk ≤ (haveN l q : Int) → uptoP q p = true := by
  unfold rleast at h
  by_cases hk : kk < 1
  · rw [if_pos hk] at h; cases h
  · rw [if_neg hk] at h
    by_cases hn : rbs l kk l.length < 0
    · rw [if_pos hn] at h; cases h
    · rw [if_neg hn] at h
      obtain ⟨q, hq⟩ : ∃ q : Nat, rbs l kk l.length = (q : Int) := ⟨(rbs l kk l.length).toNat, by have := rbs_bd l kk l.length; omega⟩
      obtain ⟨hm, h2, h3⟩ := (rbs_inv l kk l.length (Nat.le_refl _)).2 q hq
      rw [hq, Int.toNat_natCast, getD_at l q hm] at h
      cases h
      refine ⟨by omega, List.getElem_mem hm, h2, fun x hx hk => ?_⟩
      obtain ⟨j, hj, rfl⟩ := List.getElem_of_mem hx
      exact h3 j hj hj hk
theorem rleast_there {l : List Pl} {kk : Int} (h1 : 1 ≤ kk) (h2 : kk ≤ l.length) : ∃ p, rleast l kk = some p := by
  obtain ⟨x, hx, hall⟩ := least_of l (fun e => by subst e; simp at h2; omega)
  have hx2 : kk ≤ (haveN l x : Int) := by
    have : haveN l x = l.length := by unfold haveN; rw [List.filter_eq_self.2 hall]
    omega
  rcases hr : rleast l kk with _ | p
  · exfalso
    unfold rleast at hr
    rw [if_neg (by omega)] at hr
    by_cases hn : rbs l kk l.length < 0
    · obtain ⟨j, hj, rfl⟩ := List.getElem_of_mem hx
      exact (rbs_inv l kk l.length (Nat.le_refl _)).1 hn j hj hj hx2
    · rw [if_neg hn] at hr; cases hr
  · exact ⟨p, rfl⟩
/-- who is had by as many as asked lies up to the least that so many have -/
theorem had_upto {l : List Pl} {kk : Int} {p q : Pl} (h : rleast l kk = some p) (hq : kk ≤ (haveN l q : Int)) : uptoP q p = true := by
  obtain ⟨h1, _, _, h2⟩ := rleast_spec h
  obtain ⟨x, hx, h3, h4⟩ := have_least l q kk h1 hq
  exact upto_trans h3 (h2 x hx h4)
/-- among so many that two such bands must meet, one is not below the least -/
theorem meet_one {l sub : List Pl} {kk : Int} {p : Pl} (h : rleast l kk = some p) (hs : sub.Sublist l) (hm : (l.length : Int) - kk + 1 ≤ sub.length) : ∃ x ∈ sub, uptoP p x = true := by
  obtain ⟨_, _, h2, _⟩ := rleast_spec h
  refine Classical.byContradiction fun hno => ?_
  have := below_many l sub hs p (fun x hx => by
    cases hb : uptoP p x with
    | false => rfl
    | true => exact absurd ⟨x, hx, hb⟩ hno)
  omega
/-- the choice: in the row, none above it, and all ahead of it truly below -/
theorem bst_spec (l : List Pl) : ∀ k, k ≤ l.length → (k = 0 → bst l k = -1) ∧ (0 < k → ∃ i : Nat, bst l k = (i : Int) ∧ ∃ hi : i < l.length, i < k ∧ (∀ j (hj : j < l.length), j < k → uptoP l[j] l[i] = true) ∧ ∀ j (hj : j < l.length), j < i → uptoP l[i] l[j] = false) := by
  intro k
  induction k with
  | zero => intro _; exact ⟨fun _ => rfl, fun h => absurd h (by omega)⟩
  | succ k ih =>
    intro hk
    obtain ⟨i1, i2⟩ := ih (by omega)
    refine ⟨fun h => absurd h (by omega), fun _ => ?_⟩
    have hun : bst l (k + 1) = if bst l k < 0 ∨ lessP (l.getD (bst l k).toNat (0, 0)) (l.getD k (0, 0)) = true then (k : Int) else bst l k := rfl
    rw [hun]
    by_cases h0 : k = 0
    · subst h0
      rw [i1 rfl, if_pos (.inl (by omega))]
      refine ⟨0, rfl, hk, by omega, fun j hj hj1 => ?_, fun j hj hj1 => by omega⟩
      obtain rfl : j = 0 := by omega
      exact upto_refl _
    · obtain ⟨i, hb, hi, hik, hall, hbef⟩ := i2 (by omega)
      rw [hb, Int.toNat_natCast, getD_at l i hi, getD_at l k (by omega)]
      by_cases hl : lessP l[i] l[k] = true
      · rw [if_pos (.inr hl)]
        have hu : uptoP l[i] l[k] = true := by
          rcases upto_total l[i] l[k] with h | h
          · exact h
          · unfold uptoP at h; rw [hl] at h; cases h
        refine ⟨k, rfl, by omega, by omega, fun j hj hj1 => ?_, fun j hj hj1 => ?_⟩
        · by_cases hjk : j = k
          · subst hjk; exact upto_refl _
          · exact upto_trans (hall j hj (by omega)) hu
        · cases hc : uptoP l[k] l[j] with
          | false => rfl
          | true =>
            have := upto_trans hc (hall j hj (by omega))
            unfold uptoP at this; rw [hl] at this; cases this
      · have hl2 : lessP l[i] l[k] = false := by simpa using hl
        rw [if_neg (by rintro (h | h); omega; exact hl h)]
        refine ⟨i, rfl, hi, by omega, fun j hj hj1 => ?_, hbef⟩
        by_cases hjk : j = k
        · subst hjk; unfold uptoP; rw [hl2]; rfl
        · exact hall j hj (by omega)
/-- both choose alike -/
theorem choose_eq (l : List Pl) : bst l l.length = rchoose l := by
  obtain ⟨h0, h1⟩ := bst_spec l l.length (Nat.le_refl _)
  by_cases hz : l.length = 0
  · rw [h0 hz, rchoose_none l (fun j hj => by omega)]
  · obtain ⟨i, hb, hi, _, hall, hbef⟩ := h1 (by omega)
    rw [hb, rchoose_some l i hi ?_ ?_]
    · unfold greatB
      rw [List.all_eq_true]
      intro x hx
      obtain ⟨j, hj, rfl⟩ := List.getElem_of_mem hx
      exact hall j hj hj
    · intro j hj
      unfold greatB
      rw [List.all_eq_false]
      exact ⟨l[i], List.getElem_mem hi, by rw [hbef j (by omega) hj]; simp⟩
end Go.Proofs.Ytbpajfjeakffkaa

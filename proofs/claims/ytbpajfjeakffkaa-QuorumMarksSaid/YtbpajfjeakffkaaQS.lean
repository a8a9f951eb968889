/- The plain law of QuorumGrows; rows of places. -/
import Derived.Test.YtbpajfjeakffkaaQO
namespace Go.Proofs.Ytbpajfjeakffkaa
open Go.RowKit Go.Sort Go.Shelf

theorem haveN_set (l : List Pl) : ∀ (j : Nat) (hj : j < l.length) (y q : Pl), uptoP l[j] y = true → haveN l q ≤ haveN (l.set j y) q := by
  induction l with
  | nil => intro j hj; simp at hj
  | cons a t ih =>
    intro j hj y q hu
    have cons_have : ∀ (b : Pl) (m : List Pl), haveN (b :: m) q = haveN m q + (if uptoP q b then 1 else 0) := fun b m => by
      unfold haveN
      rw [List.filter_cons]
      split <;> simp
    cases j with
    | zero =>
      rw [List.set_cons_zero, cons_have, cons_have]
      have hu' : uptoP a y = true := hu
      by_cases h : uptoP q a = true
      · rw [if_pos h, if_pos (upto_trans h hu')]; exact Nat.le_refl _
      · rw [if_neg h]; exact Nat.le_add_right _ _
    | succ j =>
      rw [List.set_cons_succ, cons_have, cons_have]
      have := ih j (by simpa using hj) y q hu
      omega
/-- of marks that grew the least grew -/
theorem rleast_grows {l m : List Pl} {kk : Int} {p q : Pl} (hh : ∀ x, haveN l x ≤ haveN m x) (hp : rleast l kk = some p) (hq : rleast m kk = some q) : uptoP p q = true := by
  obtain ⟨_, _, h, _⟩ := rleast_spec hp
  exact had_upto hq (by have := hh p; omega)
/-- more have what is less -/
theorem rleast_anti {l : List Pl} {j k : Int} {p q : Pl} (hjk : j ≤ k) (hp : rleast l k = some p) (hq : rleast l j = some q) : uptoP p q = true := by
  obtain ⟨_, _, h, _⟩ := rleast_spec hp
  exact had_upto hq (by omega)
theorem rleast_zero {l : List Pl} {kk : Int} {p : Pl} (h : ∀ x ∈ l, x = (0, 0)) (hp : rleast l kk = some p) : p = (0, 0) := by
  obtain ⟨_, h1, _⟩ := rleast_spec hp
  exact h p h1
theorem len_counts (l : List Int) (h : ∀ x ∈ l, 1 ≤ x ∧ x ≤ 5) : l.length = l.count 1 + l.count 2 + l.count 3 + l.count 4 + l.count 5 := by
  induction l with
  | nil => rfl
  | cons a t ih =>
    have := ih fun x hx => h x (by simp [hx])
    have ha := h a (by simp)
    obtain rfl | rfl | rfl | rfl | rfl : a = 1 ∨ a = 2 ∨ a = 3 ∨ a = 4 ∨ a = 5 := by omega
    all_goals
      simp only [List.length_cons, List.count_cons]
      simp
      omega
theorem May.len {l : List Int} (h : May l) : l.length ≤ 5 := by
  have := len_counts l h.2
  have hc := fun a => List.nodup_iff_count.1 h.1 a
  have := hc 1; have := hc 2; have := hc 3; have := hc 4; have := hc 5
  omega
/-- seven places, as they lie behind each other -/
theorem pcs_set (l : List Pl) : ∀ (k : Nat) (_ : k < l.length) (p : Pl), pcs (l.set k p) = ((pcs l).set (k * 2) (.int .u64 p.1)).set (k * 2 + 1) (.int .u64 p.2) := by
  induction l with
  | nil => intro k hk; simp at hk
  | cons a t ih =>
    intro k hk p
    have e : ∀ (a : Pl) (t : List Pl), pcs (a :: t) = .int .u64 (a.1 : Int) :: .int .u64 (a.2 : Int) :: pcs t := fun a t => by simp [pcs]
    cases k with
    | zero => rw [List.set_cons_zero, e, e]; rfl
    | succ k =>
      rw [List.set_cons_succ, e, e, ih k (by simpa using hk) p, show (k + 1) * 2 = k * 2 + 1 + 1 by omega, show k * 2 + 1 + 1 + 1 = k * 2 + 1 + 1 + 1 from rfl]
      simp only [List.set_cons_succ]
abbrev told (D : MapD) : List Pl := D.map (·.2)
/-- what was told so far: the row holds the least of each number -/
def Inv (D : MapD) (s : List Pl) : Prop := s.length = 7 ∧ ∀ j : Nat, 1 ≤ j → j ≤ D.length → rleast (told D) j = some (s.getD j (0, 0))
def Mid (D E : MapD) (s : List Pl) (k : Nat) : Prop := s.length = 7 ∧ ∀ j : Nat, 1 ≤ j → j ≤ E.length → rleast (told (if j < k then E else D)) j = some (s.getD j (0, 0))
theorem inv_fresh (l : List Int) : Inv (fresh l) (List.replicate 7 (0, 0)) := by
  refine ⟨rfl, fun j h1 h2 => ?_⟩
  have hl : (told (fresh l)).length = (fresh l).length := by simp [told]
  obtain ⟨p, hp⟩ := rleast_there (l := told (fresh l)) (kk := j) (by omega) (by omega)
  have h0 : ∀ x ∈ told (fresh l), x = (0, 0) := fun x hx => by
    simp [told, fresh] at hx
    exact hx.2.symm
  rw [hp, rleast_zero h0 hp]
  congr 1
  rw [List.getD_eq_getElem?_getD, List.getElem?_replicate]
  split <;> rfl
theorem Inv.mid {D E : MapD} {s : List Pl} (h : Inv D s) (he : E.length = D.length) : Mid D E s 1 :=
  ⟨h.1, fun j h1 h2 => by rw [if_neg (by omega)]; exact h.2 j h1 (by omega)⟩
theorem Mid.inv {D E : MapD} {s : List Pl} {k : Nat} (h : Mid D E s k) (hk : E.length < k) : Inv E s :=
  ⟨h.1, fun j h1 h2 => by have := h.2 j h1 h2; rwa [if_pos (by omega)] at this⟩
theorem Mid.step {D E : MapD} {s : List Pl} {k : Nat} {p : Pl} (h : Mid D E s k) (h1 : 1 ≤ k) (hk : k ≤ E.length) (hk7 : k < 7) (hp : rleast (told E) k = some p) : Mid D E (s.set k p) (k + 1) := by
  refine ⟨by rw [List.length_set]; exact h.1, fun j j1 j2 => ?_⟩
  by_cases hj : j = k
  · subst hj
    rw [if_pos (by omega), hp, List.getD_eq_getElem?_getD, List.getElem?_set_self (by rw [h.1]; omega)]; rfl
  · have := h.2 j j1 j2
    rw [List.getD_eq_getElem?_getD, List.getElem?_set_ne (by omega), ← List.getD_eq_getElem?_getD, ← this]
    by_cases hjk : j < k
    · rw [if_pos hjk, if_pos (by omega)]
    · rw [if_neg hjk, if_neg (by omega)]
/-- what a round finds -/
theorem Mid.round {D E : MapD} {s : List Pl} {k : Nat} (h : Mid D E s k) (he : E.length = D.length) (hh : ∀ x, haveN (told D) x ≤ haveN (told E) x) (h1 : 1 ≤ k) (hk : k ≤ E.length) :
    ∃ p, rleast (told E) k = some p ∧ lessP p (s.getD k (0, 0)) = false ∧ (1 < k → lessP (s.getD (k - 1) (0, 0)) p = false) ∧ mhave (rleast (told E) k) k p = true := by
  obtain ⟨p, hp⟩ := rleast_there (l := told E) (kk := k) (by omega) (by simp [told]; omega)
  have h2 := h.2 k h1 hk
  rw [if_neg (by omega)] at h2
  refine ⟨p, hp, upto_less (rleast_grows hh h2 hp), fun hk1 => ?_, ?_⟩
  · have h3 := h.2 (k - 1) (by omega) (by omega)
    rw [if_pos (by omega)] at h3
    exact upto_less (rleast_anti (by omega) hp h3)
  · rw [hp]
    unfold mhave
    simp [lessP_irr]

end Go.Proofs.Ytbpajfjeakffkaa

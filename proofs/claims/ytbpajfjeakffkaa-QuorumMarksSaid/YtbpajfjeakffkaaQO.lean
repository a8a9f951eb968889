/- Places appended; picks; the plain laws of two statements. -/
import Derived.Test.YtbpajfjeakffkaaQN
import Derived.Test.YtbpajfjeakffkaaQM
import Derived.Test.YtbpajfjeakffkaaQL
namespace Go.Proofs.Ytbpajfjeakffkaa
open Go.RowKit Go.Sort Go.Shelf

theorem pcs_one (l : List Pl) : ∀ u ∈ pcs l, u.oneCell' = true := by
  intro u hu
  simp only [pcs, List.mem_flatMap, List.mem_cons, List.not_mem_nil, or_false] at hu
  obtain ⟨p, _, rfl | rfl⟩ := hu <;> rfl
theorem pcs_append (l m : List Pl) : pcs (l ++ m) = pcs l ++ pcs m := by simp [pcs]
theorem OwnP.nil (w : World) (base : Nat) : OwnP w base (.slice none 0 0) [] := World.ownsRow_nil _ _ _ _
theorem ps_news {w : World} {ad : Addr} {m : List Pl} (hm : Ps w (some ad) m) : ∀ j u, (pcs m)[j]? = some u → w.cell? (ad.add j) = some u := by
  intro j u hj
  have hjl : j < m.length * 2 := by
    have := (List.getElem?_eq_some_iff.1 hj).1; rwa [pcs_len] at this
  have hi : j / 2 < m.length := by omega
  obtain ⟨b, o, e⟩ := hm.ex hi
  cases e
  obtain ⟨c1, c2⟩ := hm.cell b o rfl (j / 2) hi
  obtain ⟨d1, d2⟩ := pcs_get m (j / 2) hi
  rw [Addr.add_mid]
  rcases Nat.mod_two_eq_zero_or_one j with h | h
  · rw [show j = j / 2 * 2 by omega] at hj ⊢
    rw [c1, ← hj]; exact d1.symm
  · rw [show j = j / 2 * 2 + 1 by omega] at hj ⊢
    rw [← Nat.add_assoc, c2, ← hj]; exact d2.symm
theorem run_append_p (w : World) (base : Nat) (ty : TypeId) (v : Value) (l : List Pl) (h : OwnP w base v l) (a : Option Addr) (m : List Pl) (c : Nat) (hm : Ps w a m) (hn : a = none → c = 0)
    (hlen : l.length + m.length ≤ 1000000000) (hb : base ≤ w.heap.size) :
    ∃ v' w', (Builtin.append_ #[53, 53] ty #[v, .slice a m.length c]).run Try.prog w = .ok v' w' ∧ OwnP w' base v' (l ++ m) ∧ w.grownBy w' v.ownBlock := by
  obtain ⟨i0, hi, hz0, hz1, hz2⟩ := info_parts info26'
  cases a with
  | none =>
    have e : m = [] := by
      cases m with
      | nil => rfl
      | cons x m => obtain ⟨_, _, h⟩ := hm.addr (by simp); cases h
    subst e
    obtain rfl := hn rfl
    have := run_append_owned_none (P := Try.prog) (w := w) base 53 ty 26 i0 2 Try.underlying53 hi v l.length (pcs l) h
    refine ⟨v, w, by simpa using this, by simpa using h, ⟨rfl, rfl, rfl, Nat.le_refl _, fun _ _ _ => rfl⟩⟩
  | some ad =>
    obtain ⟨v', w', h1, h2, h3, _⟩ := run_append_own (P := Try.prog) w base 53 ty 26 i0 (.agg #[.int .u64 0, .int .u64 0]) 2 16 Try.underlying53 hi hz0 hz1 hz2 rfl (by decide) v l.length (pcs l) h ad m.length c (pcs m) (by rw [pcs_len]) (ps_news hm) (pcs_one m)
      (by unfold maxLen; omega) (by omega) hb
    refine ⟨v', w', h1, ?_, h3⟩
    unfold OwnP
    rw [pcs_append, List.length_append]
    exact h2
theorem wpList_append_p {ops : Array Oper} {rest : List Oper} {o : Oper} {a : Act} {w : World} {Q : Exit → Act → World → Prop} (hgd : o.guard = none) (s x : Operand)
    (ho : o.op = .call { callee := .builtin .append, args := #[s, x], argTypes := #[53, 53] }) (base : Nat) (v : Value) (l : List Pl) (hs : a.eval s = v) (h : OwnP w base v l)
    (ad : Option Addr) (m : List Pl) (k c : Nat) (hx : a.eval x = .slice ad k c) (hk : k = m.length) (hm : Ps w ad m) (hn : ad = none → c = 0) (hlen : l.length + m.length ≤ 1000000000) (hb : base ≤ w.heap.size)
    (hK : ∀ v' w', OwnP w' base v' (l ++ m) → w.grownBy w' v.ownBlock → wpList Try.prog ops Q rest (a.put o.dst v') w') : wpList Try.prog ops Q (o :: rest) a w := by
  refine wpList_plain hgd fun K hKK => ?_
  subst hk
  obtain ⟨v', w', hr, h2, h3⟩ := run_append_p w base o.type v l h ad m c hm hn hlen hb
  unfold Oper.wp execOp
  simp only [ho, resolve, invoke, builtin, Sem.run_bind, Sem.run_pure, Result.andThen_ok, List.map_toArray, List.map_cons, List.map_nil, hs, hx, hr]
  exact hKK _ _ (hK v' w' h2 h3)
theorem OwnP.lt {w : World} {base : Nat} {v : Value} {l : List Pl} (h : OwnP w base v l) : ∀ k, v.ownBlock = some k → base ≤ k ∧ k < w.heap.size := World.ownsRow.lt h
theorem belowP_grown {B : Nat} {w0 w w' : World} {v : Value} {l : List Pl} (hb : RowKit.Below B w0 w) (hB : B ≤ w.heap.size) (h : OwnP w B v l) (hg : w.grownBy w' v.ownBlock) : RowKit.Below B w0 w' :=
  hb.grown hg hB fun k hk => (h.lt k hk).1
/-- a slice of places grows not beyond its block -/
theorem OwnP.below {w w' : World} {base : Nat} {v : Value} {l : List Pl} (h : OwnP w base v l) (hb : RowKit.Below w.heap.size w w') : OwnP w' base v l := by
  rcases h with ⟨h1, ⟨rfl, h0⟩ | ⟨g, cap, cur, rfl, hbg, hg, hn, hm, hs, ht⟩⟩
  · exact ⟨h1, .inl ⟨rfl, h0⟩⟩
  · exact ⟨h1, .inr ⟨g, cap, cur, rfl, hbg, (hb.block _ (Array.getElem?_eq_some_iff.1 hg).1).trans hg, hn, hm, hs, ht⟩⟩

/-! ### picks -/
def picks (l : List Pl) (f : List Bool) : Nat → List Pl
  | 0 => []
  | k + 1 => if f.getD k false = true then picks l f k ++ (match l[k]? with | some x => [x] | none => []) else picks l f k
def pk (l : List Pl) (f : List Bool) (k : Nat) : List Pl := picks l f k
theorem pk_yes (l : List Pl) (f : List Bool) (k : Nat) (h : k < l.length) (hf : f.getD k false = true) : pk l f (k + 1) = pk l f k ++ [l[k]] := by
  show picks l f (k + 1) = _
  unfold picks
  rw [if_pos hf, List.getElem?_eq_getElem h]; rfl
theorem pk_no (l : List Pl) (f : List Bool) (k : Nat) (hf : f.getD k false = false) : pk l f (k + 1) = pk l f k := by
  show picks l f (k + 1) = _
  unfold picks
  rw [if_neg (by rw [hf]; simp)]; rfl
theorem pk_sub (l : List Pl) (f : List Bool) (k : Nat) (hk : k ≤ l.length) : (pk l f k).Sublist (l.take k) := by
  induction k with
  | zero => exact List.nil_sublist _
  | succ k ih =>
    rw [take_snoc l k (by omega)]
    cases hf : f.getD k false
    · rw [pk_no l f k hf]; exact (ih (by omega)).trans (List.sublist_append_left _ _)
    · rw [pk_yes l f k (by omega) hf]; exact (ih (by omega)).append (List.Sublist.refl _)
theorem pk_len (l : List Pl) (f : List Bool) (k : Nat) (hk : k ≤ l.length) : (pk l f k).length ≤ k := by
  have := (pk_sub l f k hk).length_le
  simp at this; omega
/-- none chosen of none -/
theorem bst_nil (l : List Pl) (h : l.length = 0) : bst l l.length = -1 := by rw [h]; rfl
/-- the choice lies there -/
theorem bst_at (l : List Pl) (h : 0 < l.length) : ∃ i : Nat, bst l l.length = (i : Int) ∧ ∃ hi : i < l.length, ∀ x ∈ l, uptoP x l[i] = true := by
  obtain ⟨i, hb, hi, _, hall, _⟩ := (bst_spec l l.length (Nat.le_refl _)).2 h
  refine ⟨i, hb, hi, fun x hx => ?_⟩
  obtain ⟨j, hj, rfl⟩ := List.getElem_of_mem hx
  exact hall j hj hj
theorem upto_less {p q : Pl} (h : uptoP p q = true) : lessP q p = false := by unfold uptoP at h; simpa using h
/-- what the theorem of the stage says of the choice -/
theorem meet_law {l sub : List Pl} {kk : Int} {q p x : Pl} (h : rleast l kk = some q) (hs : sub.Sublist l) (hm : (l.length : Int) - kk + 1 ≤ sub.length) (hx : ∀ y ∈ sub, uptoP y x = true) :
    lessP x q = false ∧ (kk ≤ (haveN l p : Int) → lessP q p = false ∧ lessP x p = false) := by
  obtain ⟨y, hy, hqy⟩ := meet_one h hs hm
  have hqx := upto_trans hqy (hx y hy)
  exact ⟨upto_less hqx, fun hk => ⟨upto_less (had_upto h hk), upto_less (upto_trans (had_upto h hk) hqx)⟩⟩
/-- to be less is to be up to it, and another -/
theorem less_upto (a b : Pl) : lessP a b = (uptoP a b && !decide (a = b)) := by
  by_cases h : lessP a b = true
  · have h2 := (less_iff a b).1 h
    have h3 : uptoP a b = true := (upto_iff a b).2 (by omega)
    have h4 : a ≠ b := fun e => by subst e; rw [lessP_irr] at h; cases h
    rw [h, h3]; simp [h4]
  · have h1 : lessP a b = false := by simpa using h
    rw [h1]
    cases hu : uptoP a b
    · rfl
    · have : uptoP b a = true := by unfold uptoP; rw [h1]; rfl
      have := upto_anti hu this
      subst this; simp

end Go.Proofs.Ytbpajfjeakffkaa

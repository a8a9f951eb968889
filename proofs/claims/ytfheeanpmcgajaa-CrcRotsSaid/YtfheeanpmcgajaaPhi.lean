/- A rule for a region that draws its order: each operation has a property of the value that it leaves. No condition beside those that it names. -/
import Derived.WalkKit
import Derived.Orders
/-
  A REGION THAT DRAWS ITS ORDER, at a cost that goes with the number of its operations and not with that of its orders: each operation has a property of the value that it leaves, which only looks at what existing memory holds ('Below' keeps it).
-/
namespace Go.Proofs.Ytfheeanpmcgajaa
open Go.RowKit

section
variable {P : Program} {ops : Array Oper} {Q : Exit → Act → World → Prop}

/-- no way out but the normal one -/
def NoOut : Exit → Act → World → Prop := fun _ _ _ => False
/-- the frame behind the first operations, in the order of the text -/
def putAll (vs : Nat → Value) : Nat → List Oper → Act → Act
  | _, [], a => a
  | i, o :: rest, a => putAll vs (i + 1) rest (a.put o.dst (vs i))
/-- is it waited for? -/
def waits (o : Oper) (j : Nat) : Bool := o.after.any fun e => Region.binds .any e && e.on == j
/-- no two write one temporary; what one looks at is written by one that it waits for, or by one that waits for it -/
def phiOk (ops : Array Oper) : Bool :=
  ops.toList.zipIdx.all fun (o, i) => ops.toList.zipIdx.all fun (oj, j) => i == j ||
    match oj.dst with
    | none => true
    | some t => o.dst != some t && (!(o.looksAt ops).contains t || (j < i && waits o j) || (i < j && waits oj i))
/-- of all that it waits for the properties hold -/
def DepsHold (ops : Array Oper) (Φ : Nat → Value → World → Prop) (vs : Nat → Value) (w : World) : List Edge → Prop
  | [] => True
  | e :: rest => (Region.binds .any e = true → Φ e.on (vs e.on) w) ∧ DepsHold ops Φ vs w rest
def StepOp (P : Program) (ops : Array Oper) (Ψ : Value → World → Prop) (o : Oper) (a : Act) (w : World) : Prop :=
  if Region.wanted o (yielded ops a.tmps) then ∀ K : Act → World → Prop, (∀ v w', Below w.heap.size w w' → Ψ v w' → K (a.put o.dst v) w') → o.wp P a w K NoOut
  else Ψ undef w
def StepAt (P : Program) (ops : Array Oper) (Φ : Nat → Value → World → Prop) (a0 : Act) (w0 : World) (i : Nat) (o : Oper) : Prop :=
  ∀ vs w, Below w0.heap.size w0 w → DepsHold ops Φ vs w o.after.toList → StepOp P ops (Φ i) o (putAll vs 0 (ops.toList.take i) a0) w
def Steps (P : Program) (ops : Array Oper) (Φ : Nat → Value → World → Prop) (a0 : Act) (w0 : World) : Nat → List Oper → Prop
  | _, [] => True
  | i, o :: rest => StepAt P ops Φ a0 w0 i o ∧ Steps P ops Φ a0 w0 (i + 1) rest
theorem Steps.get {Φ : Nat → Value → World → Prop} {a0 : Act} {w0 : World} : ∀ (l : List Oper) (i : Nat), Steps P ops Φ a0 w0 i l → ∀ k o, l[k]? = some o → StepAt P ops Φ a0 w0 (i + k) o
  | [], _, _, k, o, h => by simp at h
  | x :: l, i, h, 0, o, hk => by simp at hk; subst hk; exact h.1
  | x :: l, i, h, k + 1, o, hk => by
    have := Steps.get l (i + 1) h.2 k o (by simpa using hk)
    rwa [show i + 1 + k = i + (k + 1) by omega] at this
theorem DepsHold.of {Φ : Nat → Value → World → Prop} {vs : Nat → Value} {w : World} : ∀ (l : List Edge), (∀ e ∈ l, Region.binds .any e = true → Φ e.on (vs e.on) w) → DepsHold ops Φ vs w l
  | [], _ => trivial
  | e :: l, h => ⟨h e (by simp), DepsHold.of l fun e' he => h e' (by simp [he])⟩

/-! the frame, place by place -/
theorem put_size (a : Act) (d : Option Tmp) (v : Value) : (a.put d v).tmps.size = a.tmps.size := by
  cases d <;> simp [Act.put]
theorem put_get (a : Act) (d : Option Tmp) (v : Value) (t : Nat) : (a.put d v).tmps[t]? = if d = some t then (if t < a.tmps.size then some v else none) else a.tmps[t]? := by
  cases d with
  | none => simp [Act.put]
  | some d =>
    simp only [Act.put, Option.some.injEq]
    by_cases h : d = t
    · subst h
      simp only [if_true]
      by_cases hl : d < a.tmps.size
      · rw [if_pos hl, Array.getElem?_setIfInBounds_self_of_lt hl]
      · rw [if_neg hl]; exact Array.getElem?_eq_none (by rw [Array.size_setIfInBounds]; exact Nat.le_of_not_lt hl)
    · rw [if_neg h, Array.getElem?_setIfInBounds_ne h]
theorem putAll_size (vs : Nat → Value) : ∀ (l : List Oper) (i : Nat) (a : Act), (putAll vs i l a).tmps.size = a.tmps.size
  | [], _, _ => rfl
  | o :: l, i, a => by simp only [putAll]; rw [putAll_size vs l, put_size]
theorem putAll_defers (vs : Nat → Value) : ∀ (l : List Oper) (i : Nat) (a : Act), (putAll vs i l a).defers = a.defers
  | [], _, _ => rfl
  | o :: l, i, a => by simp only [putAll]; rw [putAll_defers vs l]; cases o.dst <;> rfl
theorem putAll_out (vs : Nat → Value) (t : Nat) : ∀ (l : List Oper) (i : Nat) (a : Act), (∀ o ∈ l, o.dst ≠ some t) → (putAll vs i l a).tmps[t]? = a.tmps[t]?
  | [], _, _, _ => rfl
  | o :: l, i, a, h => by
    simp only [putAll]
    rw [putAll_out vs t l _ _ (fun o' ho => h o' (by simp [ho])), put_get, if_neg (h o (by simp))]
theorem putAll_in (vs : Nat → Value) (t : Nat) : ∀ (l : List Oper) (i : Nat) (a : Act) (k : Nat) (o : Oper), l[k]? = some o → o.dst = some t → (∀ k' o', k' ≠ k → l[k']? = some o' → o'.dst ≠ some t) → t < a.tmps.size →
    (putAll vs i l a).tmps[t]? = some (vs (i + k))
  | [], _, _, k, o, h, _, _, _ => by simp at h
  | x :: l, i, a, 0, o, h, hd, hno, ht => by
    simp at h; subst h
    simp only [putAll]
    rw [putAll_out vs t l _ _ (fun o' ho => ?_), put_get, if_pos hd, if_pos ht]
    · rfl
    · obtain ⟨k', hk'⟩ := List.getElem?_of_mem ho
      exact hno (k' + 1) o' (by omega) (by simpa using hk')
  | x :: l, i, a, k + 1, o, h, hd, hno, ht => by
    simp only [putAll]
    have := putAll_in vs t l (i + 1) (a.put x.dst (vs i)) k o (by simpa using h) hd (fun k' o' hne ho' => hno (k' + 1) o' (by omega) (by simpa using ho')) (by rw [put_size]; exact ht)
    rw [this]; congr 2; omega

structure PhiInv (ops : Array Oper) (Φ : Nat → Value → World → Prop) (a0 : Act) (w0 : World) (listed : Array Bool) (vs : Nat → Value) (a : Act) (w : World) : Prop where
  below : Below w0.heap.size w0 w
  defers : a.defers = a0.defers
  size : a.tmps.size = a0.tmps.size
  out : ∀ t, (∀ j o, ops[j]? = some o → listed.getD j false = true → o.dst ≠ some t) → a.tmps[t]? = a0.tmps[t]?
  in_ : ∀ j o t, ops[j]? = some o → listed.getD j false = true → o.dst = some t → t < a0.tmps.size → a.tmps[t]? = some (vs j)
  holds : ∀ j o, ops[j]? = some o → listed.getD j false = true → Φ j (vs j) w
  closed : ∀ j o, ops[j]? = some o → listed.getD j false = true → ∀ e ∈ o.after, Region.binds .any e = true → listed.getD e.on false = true

theorem phiOk_spec (h : phiOk ops = true) {i j : Nat} {o oj : Oper} (hi : ops[i]? = some o) (hj : ops[j]? = some oj) (hne : i ≠ j) {t : Nat} (ht : oj.dst = some t) :
    o.dst ≠ some t ∧ (t ∈ o.looksAt ops → (j < i ∧ waits o j = true) ∨ (i < j ∧ waits oj i = true)) := by
  have h1 := List.all_eq_true.1 h (o, i) (by
    rw [List.mem_zipIdx_iff_getElem?]; simpa using hi)
  have h2 := List.all_eq_true.1 h1 (oj, j) (by
    rw [List.mem_zipIdx_iff_getElem?]; simpa using hj)
  simp only [ht, Bool.or_eq_true, Bool.and_eq_true, beq_iff_eq, bne_iff_ne, decide_eq_true_eq, Bool.not_eq_true'] at h2
  rcases h2 with h2 | ⟨h2, h3⟩
  · exact absurd h2 hne
  · refine ⟨h2, fun hm => ?_⟩
    rcases h3 with (h3 | h3) | h3
    · have hc : (o.looksAt ops).contains t = true := by simpa using hm
      rw [hc] at h3; cases h3
    · exact .inl h3
    · exact .inr h3
theorem waits_spec {o : Oper} {j : Nat} (h : waits o j = true) : ∃ e ∈ o.after, Region.binds .any e = true ∧ e.on = j := by
  unfold waits at h
  rw [Array.any_eq_true'] at h
  obtain ⟨e, he, h⟩ := h
  simp at h
  exact ⟨e, he, h.1, h.2⟩
theorem eval_of_get {a b : Act} (x : Operand) (h : ∀ t, x = .tmp t → b.tmps[t]? = a.tmps[t]?) : b.eval x = a.eval x := by
  cases x with
  | tmp t =>
    have := h t rfl
    simp only [Act.eval, Array.getD_eq_getD_getElem?, this]
  | _ => rfl
theorem wanted_of_get {a b : Act} (o : Oper) (h : ∀ t ∈ o.looksAt ops, b.tmps[t]? = a.tmps[t]?) : Region.wanted o (yielded ops b.tmps) = Region.wanted o (yielded ops a.tmps) := by
  unfold Region.wanted
  cases hg : o.guard with
  | none => rfl
  | some gw =>
    obtain ⟨g, want⟩ := gw
    have hy : yielded ops b.tmps g = yielded ops a.tmps g := by
      unfold yielded
      cases ht : (ops[g]?).bind (·.dst) with
      | none => rfl
      | some t =>
        have := h t (by simp [Oper.looksAt, hg, ht])
        simp only [Option.bind_some, this]
    simp only [hy]
theorem execOp_of_get {a b : Act} (o : Oper) (hs : ∀ cs b, o.op ≠ .select cs b) (h : ∀ t ∈ o.looksAt ops, b.tmps[t]? = a.tmps[t]?) : execOp b.eval o = execOp a.eval o :=
  execOp_congr o hs fun x hx => eval_of_get x fun t ht => h t (by
    subst ht
    exact List.mem_append_left _ (List.mem_filterMap.2 ⟨.tmp t, by simpa using hx, rfl⟩))
theorem put_eq_of {a b : Act} (hs : a.tmps.size = b.tmps.size) (d : Option Tmp) (v v' : Value) (h : b.put d v = b.put d v') : a.put d v = a.put d v' := by
  cases d with
  | none => rfl
  | some t =>
    by_cases ht : t < a.tmps.size
    · have h1 := put_get b (some t) v t
      have h2 := put_get b (some t) v' t
      rw [h] at h1
      have ht' : t < b.tmps.size := by rw [← hs]; exact ht
      rw [h1, if_pos rfl, if_pos rfl, if_pos ht', if_pos ht'] at h2
      rw [Option.some.inj h2]
    · have e : ∀ u, a.put (some t) u = a := fun u => by
        have : a.tmps.setIfInBounds t u = a.tmps := by
          apply Array.ext_getElem?
          intro i
          rw [Array.getElem?_setIfInBounds]
          by_cases hti : t = i
          · subst hti
            rw [if_pos rfl, if_neg ht]; exact (Array.getElem?_eq_none (Nat.le_of_not_lt ht)).symm
          · rw [if_neg hti]
        simp [Act.put, this]
      rw [e, e]

/-- what the step at one frame tells, at another that agrees where it looks -/
theorem StepOp.wpOp {Ψ : Value → World → Prop} {i : Nat} {o : Oper} {a b : Act} {w : World} {K : Act → World → Prop} (ho : ops[i]? = some o) (hs : ∀ cs b, o.op ≠ .select cs b)
    (hg : ∀ t ∈ o.looksAt ops, b.tmps[t]? = a.tmps[t]?) (hsz : a.tmps.size = b.tmps.size)
    (h : StepOp P ops Ψ o b w) (hK : ∀ v w', Below w.heap.size w w' → Ψ v w' → K (a.put o.dst v) w') : wpOp P ops Q i K a w := by
  unfold StepOp at h
  unfold Go.wpOp
  simp only [ho]
  rw [wanted_of_get o hg] at h
  split
  · rename_i hw
    simp only [hw, if_true] at h
    refine .inl ?_
    have h := h (fun a' w' => ∃ v, a' = b.put o.dst v ∧ Below w.heap.size w w' ∧ Ψ v w') (fun v w' hb hΨ => ⟨v, rfl, hb, hΨ⟩)
    unfold Oper.wp at *
    rw [execOp_of_get o hs hg] at h
    generalize (execOp a.eval o).run P w = r at *
    have fin : ∀ v w', (∃ v', b.put o.dst v = b.put o.dst v' ∧ Below w.heap.size w w' ∧ Ψ v' w') → K (a.put o.dst v) w' := fun v w' ⟨v', e, hb, hΨ⟩ => by
      rw [put_eq_of hsz o.dst v v' e]; exact hK v' w' hb hΨ
    cases r with
    | ok n w' =>
      cases n <;> simp only [Oper.upon] at h ⊢
      case value u => exact fin u w' h
      case skip => exact fin undef w' h
      case defer d =>
        obtain ⟨v, e, _⟩ := h
        have := congrArg Act.defers e
        have e1 : ∀ (x : Act) (d : Option Tmp) (v : Value), (x.put d v).defers = x.defers := fun x d v => by cases d <;> rfl
        rw [e1, e1] at this
        simp at this
      case enter f args =>
        refine Calls.mono h fun e w'' he => ?_
        cases e with
        | returned u => exact fin u w'' he
        | panicked c => exact he.elim
        | outgrown => obtain ⟨_, _, hf⟩ := he; exact hf.elim
      case row row args => exact Rows.mono h fun u w'' he => fin u w'' he
    | halt x w' =>
      cases x <;> simp only [Oper.upon] at h ⊢
      case panic u => exact h.elim
  · rename_i hw
    simp only [hw] at h
    exact hK undef w (Below.refl _ _) h

theorem getD_set {listed : Array Bool} {i j : Nat} : (listed.setIfInBounds i true).getD j false = (decide (j = i ∧ i < listed.size) || listed.getD j false) := by
  rw [Array.getD_eq_getD_getElem?, Array.getD_eq_getD_getElem?, Array.getElem?_setIfInBounds]
  by_cases h : i = j
  · subst h
    by_cases hl : i < listed.size
    · simp [hl]
    · simp [hl]
  · have : ¬ j = i := fun e => h e.symm
    simp [h, this]

/-- one more has come up -/
theorem PhiInv.step {Φ : Nat → Value → World → Prop} {a0 : Act} {w0 : World} {listed : Array Bool} {vs : Nat → Value} {a : Act} {w : World}
    (hok : phiOk ops = true) (hsel : Region.noSelect ops = true) (hmono : ∀ i v w w', Below w.heap.size w w' → Φ i v w → Φ i v w')
    (steps : Steps P ops Φ a0 w0 0 ops.toList) (hls : listed.size = ops.size) (h : PhiInv ops Φ a0 w0 listed vs a w) {i : Nat} (hr : i ∈ Region.ready .any ops listed)
    {K : Act → World → Prop} (hK : ∀ vs' a' w', PhiInv ops Φ a0 w0 (listed.setIfInBounds i true) vs' a' w' → K a' w') : wpOp P ops Q i K a w := by
  obtain ⟨hun, o, ho, hall⟩ := mem_ready.1 hr
  have hlt : i < ops.size := (Array.getElem?_eq_some_iff.1 ho).1
  have hunl : listed.getD i false = false := by
    rw [Array.getD_eq_getD_getElem?] at hun ⊢
    rw [Array.getElem?_eq_getElem (by omega)] at hun ⊢
    simpa using hun
  have hst := Steps.get ops.toList 0 steps i o (by simpa using ho)
  rw [Nat.zero_add] at hst
  have hdeps : DepsHold ops Φ vs w o.after.toList := DepsHold.of _ fun e he hb => by
    have hl := hall e (by simpa using he) hb
    have hsz : e.on < ops.size := by
      rcases Nat.lt_or_ge e.on ops.size with h' | h'
      · exact h'
      · rw [Array.getD_eq_getD_getElem?, Array.getElem?_eq_none (by omega)] at hl; cases hl
    exact h.holds e.on _ (Array.getElem?_eq_getElem hsz) hl
  have hso := hst vs w h.below hdeps
  have hdist : ∀ (j : Nat) (oj : Oper), ops[j]? = some oj → j ≠ i → ∀ t, o.dst = some t → oj.dst ≠ some t := fun j oj hj hne t ht => (phiOk_spec hok hj ho hne ht).1
  have hgets : ∀ t ∈ o.looksAt ops, (putAll vs 0 (ops.toList.take i) a0).tmps[t]? = a.tmps[t]? := by
    intro t ht
    by_cases hex : ∃ (j : Nat) (oj : Oper), ops[j]? = some oj ∧ oj.dst = some t
    · obtain ⟨j, oj, hj, hd⟩ := hex
      by_cases hji : j = i
      · subst hji
        obtain rfl : o = oj := by rw [ho] at hj; exact Option.some.inj hj
        rw [putAll_out, h.out]
        · intro j' o' hj' hl'
          refine hdist j' o' hj' (fun e => ?_) t hd
          rw [e, hunl] at hl'; cases hl'
        · intro o' ho'
          obtain ⟨k, hk⟩ := List.getElem?_of_mem ho'
          have hki : k < j := by
            have := (List.getElem?_eq_some_iff.1 hk).1
            simp at this; omega
          rw [List.getElem?_take_of_lt hki] at hk
          exact hdist k o' (by simpa using hk) (by omega) t hd
      · rcases (phiOk_spec hok ho hj (fun e => hji e.symm) hd).2 ht with ⟨hlt', hw⟩ | ⟨hlt', hw⟩
        · obtain ⟨e, he, hb, hon⟩ := waits_spec hw
          have hl := hall e he hb
          rw [hon] at hl
          by_cases hts : t < a0.tmps.size
          · rw [h.in_ j oj t hj hl hd hts, putAll_in vs t _ 0 a0 j oj _ hd _ hts, Nat.zero_add]
            · rw [List.getElem?_take_of_lt hlt']; simpa using hj
            · intro k' o' hne hk'
              have hk2 : k' < i := by
                have := (List.getElem?_eq_some_iff.1 hk').1
                simp at this; omega
              rw [List.getElem?_take_of_lt hk2] at hk'
              exact (phiOk_spec hok (by simpa using hk') hj hne hd).1
          · rw [Array.getElem?_eq_none (by rw [putAll_size]; exact Nat.le_of_not_lt hts), Array.getElem?_eq_none (by rw [h.size]; exact Nat.le_of_not_lt hts)]
        · obtain ⟨e, he, hb, hon⟩ := waits_spec hw
          rw [putAll_out, h.out]
          · intro j' o' hj' hl'
            by_cases hjj : j' = j
            · subst hjj
              obtain rfl : oj = o' := by rw [hj] at hj'; exact Option.some.inj hj'
              have := h.closed j' oj hj hl' e he hb
              rw [hon, hunl] at this; cases this
            · exact (phiOk_spec hok hj' hj hjj hd).1
          · intro o' ho'
            obtain ⟨k, hk⟩ := List.getElem?_of_mem ho'
            have hki : k < i := by
              have := (List.getElem?_eq_some_iff.1 hk).1
              simp at this; omega
            rw [List.getElem?_take_of_lt hki] at hk
            exact (phiOk_spec hok (by simpa using hk) hj (by omega) hd).1
    · rw [putAll_out, h.out]
      · intro j' o' hj' _ hd
        exact hex ⟨j', o', hj', hd⟩
      · intro o' ho' hd
        obtain ⟨k, hk⟩ := List.getElem?_of_mem ho'
        have hki : k < i := by
          have := (List.getElem?_eq_some_iff.1 hk).1
          simp at this; omega
        rw [List.getElem?_take_of_lt hki] at hk
        exact hex ⟨k, o', by simpa using hk, hd⟩
  refine hso.wpOp ho (fun cs b => Region.noSelect_spec hsel i o cs b ho) hgets (by rw [putAll_size, h.size]) fun v w' hb hΦ => ?_
  refine hK (fun j => if j = i then v else vs j) _ w' ⟨h.below.trans (hb.mono h.below.size), ?_, ?_, ?_, ?_, ?_, ?_⟩
  · cases o.dst <;> exact h.defers
  · rw [put_size, h.size]
  · intro t ht
    rw [put_get, if_neg (ht i o ho (by rw [getD_set]; simp; left; omega))]
    exact h.out t fun j oj hj hl => ht j oj hj (by rw [getD_set, hl]; simp)
  · intro j oj t hj hl hd hts
    by_cases hji : j = i
    · subst hji
      obtain rfl : o = oj := by rw [ho] at hj; exact Option.some.inj hj
      rw [put_get, if_pos hd, if_pos (by rw [h.size]; exact hts)]; simp
    · have hl' : listed.getD j false = true := by
        rw [getD_set] at hl; simpa [hji] using hl
      rw [put_get, if_neg (fun e => (phiOk_spec hok ho hj (fun e => hji e.symm) hd).1 e), h.in_ j oj t hj hl' hd hts, if_neg hji]
  · intro j oj hj hl
    by_cases hji : j = i
    · subst hji; simpa using hΦ
    · have hl' : listed.getD j false = true := by
        rw [getD_set] at hl; simpa [hji] using hl
      simp only [if_neg hji]
      exact hmono _ _ _ _ hb (h.holds j oj hj hl')
  · intro j oj hj hl e he hbd
    rw [getD_set]
    by_cases hji : j = i
    · subst hji
      obtain rfl : o = oj := by rw [ho] at hj; exact Option.some.inj hj
      rw [hall e he hbd]; simp
    · have hl' : listed.getD j false = true := by
        rw [getD_set] at hl; simpa [hji] using hl
      rw [h.closed j oj hj hl' e he hbd]; simp

theorem notReady_all {listed : Array Bool} (hls : listed.size = ops.size) (hlow : ∀ i o, ops[i]? = some o → ∀ e ∈ o.after, Region.binds .any e = true → e.on < i)
    (hr : Region.ready .any ops listed = []) : ∀ i, i < ops.size → listed.getD i false = true := by
  intro i
  induction i using Nat.strongRecOn with
  | _ i ih =>
    intro hi
    cases hl : listed.getD i false
    · exfalso
      have : i ∈ Region.ready .any ops listed := mem_ready.2 ⟨by
        rw [Array.getD_eq_getD_getElem?] at hl ⊢
        rw [Array.getElem?_eq_getElem (by omega)] at hl ⊢
        simpa using hl, ops[i], Array.getElem?_eq_getElem hi, fun e he hb => by
          have hlt := hlow i _ (Array.getElem?_eq_getElem hi) e he hb
          exact ih e.on hlt (by omega)⟩
      rw [hr] at this; cases this
    · rfl
def lowOk (ops : Array Oper) : Bool := ops.toList.zipIdx.all fun (o, i) => o.after.all fun e => !Region.binds .any e || decide (e.on < i)
theorem lowOk_spec (h : lowOk ops = true) : ∀ i o, ops[i]? = some o → ∀ e ∈ o.after, Region.binds .any e = true → e.on < i := by
  intro i o ho e he hb
  have h1 := List.all_eq_true.1 h (o, i) (by rw [List.mem_zipIdx_iff_getElem?]; simpa using ho)
  have h2 := Array.all_eq_true_iff_forall_mem.1 h1 e he
  simpa [hb] using h2
theorem act_eq {a b : Act} (hd : a.defers = b.defers) (ht : ∀ t : Nat, a.tmps[t]? = b.tmps[t]?) : a = b := by
  cases a; cases b
  simp only at hd ht
  subst hd
  congr 1
  exact Array.ext_getElem? (fun t => ht t)

def AllHold (Φ : Nat → Value → World → Prop) (vs : Nat → Value) (w : World) : Nat → Nat → Prop
  | _, 0 => True
  | i, n + 1 => Φ i (vs i) w ∧ AllHold Φ vs w (i + 1) n
theorem AllHold.of {Φ : Nat → Value → World → Prop} {vs : Nat → Value} {w : World} : ∀ (n i : Nat), (∀ k, k < n → Φ (i + k) (vs (i + k)) w) → AllHold Φ vs w i n
  | 0, _, _ => trivial
  | n + 1, i, h => ⟨h 0 (by omega), AllHold.of n (i + 1) fun k hk => by
      have := h (k + 1) (by omega)
      rwa [show i + (k + 1) = i + 1 + k by omega] at this⟩

theorem AllHold.get {Φ : Nat → Value → World → Prop} {vs : Nat → Value} {w : World} : ∀ (n i k : Nat), AllHold Φ vs w i n → k < n → Φ (i + k) (vs (i + k)) w
  | 0, _, _, _, h => by omega
  | n + 1, i, 0, h, _ => h.1
  | n + 1, i, k + 1, h, hk => by
    have := AllHold.get n (i + 1) k h.2 (by omega)
    rwa [show i + 1 + k = i + (k + 1) by omega] at this
theorem wpAny_phi {Φ : Nat → Value → World → Prop} {a0 : Act} {w0 : World} (hok : phiOk ops = true) (hsel : Region.noSelect ops = true) (hlow : lowOk ops = true)
    (hmono : ∀ i v w w', Below w.heap.size w w' → Φ i v w → Φ i v w') (steps : Steps P ops Φ a0 w0 0 ops.toList)
    (final : ∀ vs w', Below w0.heap.size w0 w' → AllHold Φ vs w' 0 ops.size → Q .normal (putAll vs 0 ops.toList a0) w') :
    ∀ (fuel : Nat) (listed : Array Bool) (vs : Nat → Value) (a : Act) (w : World), listed.size = ops.size → ops.size ≤ fuel + (listed.toList.filter id).length → PhiInv ops Φ a0 w0 listed vs a w →
      wpAny P .any ops Q fuel listed a w := by
  have fin : ∀ (listed : Array Bool) (vs : Nat → Value) (a : Act) (w : World), listed.size = ops.size → PhiInv ops Φ a0 w0 listed vs a w → (∀ i, i < ops.size → listed.getD i false = true) → Q .normal a w := by
    intro listed vs a w hls h hl
    have ha : a = putAll vs 0 ops.toList a0 := by
      refine act_eq (by rw [putAll_defers, h.defers]) fun t => ?_
      by_cases hex : ∃ (j : Nat) (oj : Oper), ops[j]? = some oj ∧ oj.dst = some t
      · obtain ⟨j, oj, hj, hd⟩ := hex
        have hjs : j < ops.size := (Array.getElem?_eq_some_iff.1 hj).1
        by_cases hts : t < a0.tmps.size
        · rw [h.in_ j oj t hj (hl j hjs) hd hts, putAll_in vs t _ 0 a0 j oj (by simpa using hj) hd _ hts, Nat.zero_add]
          intro k' o' hne hk'
          exact (phiOk_spec hok (by simpa using hk') hj hne hd).1
        · rw [Array.getElem?_eq_none (by rw [h.size]; exact Nat.le_of_not_lt hts), Array.getElem?_eq_none (by rw [putAll_size]; exact Nat.le_of_not_lt hts)]
      · rw [putAll_out, h.out]
        · intro j' o' hj' _ hd; exact hex ⟨j', o', hj', hd⟩
        · intro o' ho' hd
          obtain ⟨k, hk⟩ := List.getElem?_of_mem ho'
          exact hex ⟨k, o', by simpa using hk, hd⟩
    rw [ha]
    exact final vs w h.below (AllHold.of _ 0 fun k hk => by
      rw [Nat.zero_add]; exact h.holds k _ (Array.getElem?_eq_getElem hk) (hl k hk))
  intro fuel
  induction fuel with
  | zero =>
    intro listed vs a w hls hc h
    have hall : ∀ i, i < ops.size → listed.getD i false = true := by
      intro i hi
      have hlen : (listed.toList.filter id).length = listed.toList.length := Nat.le_antisymm (List.length_filter_le _ _) (by simp; simp at hc; omega)
      have := List.filter_eq_self.1 (List.filter_sublist.eq_of_length hlen)
      have hm := this listed[i] (by simp)
      rw [Array.getD_eq_getD_getElem?, Array.getElem?_eq_getElem (by omega)]
      simpa using hm
    refine ⟨?_, fin listed vs a w hls h hall⟩
    unfold Region.ready
    rw [List.filter_eq_nil_iff]
    intro i hi
    have := hall i (by simpa using hi)
    rw [Array.getD_eq_getD_getElem?, Array.getElem?_eq_getElem (by rw [hls]; simpa using hi)] at this
    simp only [Option.getD_some] at this
    simp [Array.getD_eq_getD_getElem?, Array.getElem?_eq_getElem (show i < listed.size by rw [hls]; simpa using hi), this]
  | succ fuel ih =>
    intro listed vs a w hls hc h
    refine ⟨fun hr => fin listed vs a w hls h (notReady_all hls (lowOk_spec hlow) hr), fun i hi => ?_⟩
    refine h.step hok hsel hmono steps hls hi fun vs' a' w' h' => ih _ vs' a' w' (by simp [hls]) ?_ h'
    obtain ⟨hun, o, ho, _⟩ := mem_ready.1 hi
    have hlt : i < listed.size := by rw [hls]; exact (Array.getElem?_eq_some_iff.1 ho).1
    have hfalse : listed.toList[i]? = some false := by
      rw [Array.getD_eq_getD_getElem?, Array.getElem?_eq_getElem hlt] at hun
      simp at hun
      simp [Array.getElem?_eq_getElem hlt, hun]
    have hcount : ∀ (l : List Bool) (i : Nat), l[i]? = some false → ((l.set i true).filter id).length = (l.filter id).length + 1 := by
      intro l
      induction l with
      | nil => intro i h; simp at h
      | cons x l ih =>
        intro i h
        cases i with
        | zero => simp at h; subst h; simp
        | succ i =>
          simp at h
          have := ih i h
          cases x <;> simp [this]
    rw [Array.toList_setIfInBounds, hcount _ _ hfalse]
    omega

/-- THE RULE. -/
theorem wp_region_phi {id : Nat} {a0 : Act} {w0 : World} (Φ : Nat → Value → World → Prop) (hm : P.follows .mixedOrders = true)
    (hok : (phiOk ops && Region.noSelect ops && lowOk ops) = true)
    (hmono : ∀ i v w w', Below w.heap.size w w' → Φ i v w → Φ i v w') (steps : Steps P ops Φ a0 w0 0 ops.toList)
    (final : ∀ vs w', Below w0.heap.size w0 w' → AllHold Φ vs w' 0 ops.size → Q .normal (putAll vs 0 ops.toList a0) w') : (Code.region id ops true).wp P Q a0 w0 := by
  simp only [Bool.and_eq_true] at hok
  refine wp_region_any hm (wpAny_phi hok.1.1 hok.1.2 hok.2 hmono steps final _ _ (fun _ => undef) _ _ (by simp) (by omega) ?_)
  have hno : ∀ j, (Array.replicate ops.size false).getD j false = true → False := fun j h => by
    rw [Array.getD_eq_getD_getElem?, Array.getElem?_replicate] at h
    split at h <;> simp at h
  exact ⟨⟨rfl, rfl, rfl, Nat.le_refl _, fun _ _ => rfl⟩, rfl, rfl, fun _ _ => rfl, fun j o t _ hl => (hno j hl).elim, fun j o _ hl => (hno j hl).elim, fun j o _ hl => (hno j hl).elim⟩
/-- a property that existing memory keeps -/
structure MV where
  p : Value → World → Prop
  mono : ∀ v w w', Below w.heap.size w w' → p v w → p v w'
/-- this very value -/
def pv (c : Value) : MV := ⟨fun v _ => v = c, fun _ _ _ _ h => h⟩
def MV.any : MV := ⟨fun _ _ => True, fun _ _ _ _ _ => trivial⟩
def phiOf (l : List MV) (i : Nat) : Value → World → Prop := (l.getD i MV.any).p
/-- the steps, the frame running along -/
def StepsR (P : Program) (ops : Array Oper) (l : List MV) (w0 : World) (vs : Nat → Value) : Nat → List Oper → Act → Prop
  | _, [], _ => True
  | i, o :: rest, a => (∀ w, Below w0.heap.size w0 w → DepsHold ops (phiOf l) vs w o.after.toList → StepOp P ops (phiOf l i) o a w) ∧ StepsR P ops l w0 vs (i + 1) rest (a.put o.dst (vs i))
theorem putAll_snoc (vs : Nat → Value) : ∀ (l : List Oper) (i : Nat) (o : Oper) (a : Act), putAll vs i (l ++ [o]) a = (putAll vs i l a).put o.dst (vs (i + l.length))
  | [], _, _, _ => rfl
  | x :: l, i, o, a => by
    simp only [List.cons_append, putAll]
    rw [putAll_snoc vs l, List.length_cons, show i + 1 + l.length = i + (l.length + 1) by omega]
theorem StepsR.steps {l : List MV} {w0 : World} {a0 : Act} : ∀ (rest pre : List Oper), ops.toList = pre ++ rest → (∀ vs, StepsR P ops l w0 vs pre.length rest (putAll vs 0 pre a0)) → Steps P ops (phiOf l) a0 w0 pre.length rest
  | [], _, _, _ => trivial
  | o :: rest, pre, he, h => by
    refine ⟨fun vs w hb hd => ?_, ?_⟩
    · rw [he, List.take_left]
      exact (h vs).1 w hb hd
    · have := StepsR.steps rest (pre ++ [o]) (by rw [he]; simp) (fun vs => by
        rw [putAll_snoc, Nat.zero_add]
        simpa using (h vs).2)
      simpa using this
/-- THE RULE, for use. -/
theorem wp_region_mv {id : Nat} {a0 : Act} {w0 : World} (l : List MV) (hm : P.follows .mixedOrders = true) (hok : (phiOk ops && Region.noSelect ops && lowOk ops) = true)
    (steps : ∀ vs, StepsR P ops l w0 vs 0 ops.toList a0)
    (final : ∀ vs w', Below w0.heap.size w0 w' → AllHold (phiOf l) vs w' 0 ops.size → Q .normal (putAll vs 0 ops.toList a0) w') : (Code.region id ops true).wp P Q a0 w0 :=
  wp_region_phi (phiOf l) hm hok (fun i v w w' hb h => (l.getD i MV.any).mono v w w' hb h) (StepsR.steps ops.toList [] rfl steps) final
/-- an operation that yields -/
theorem stepR {Ψ : Value → World → Prop} {o : Oper} {a : Act} {w w' : World} {v : Value} (hw : Region.wanted o (yielded ops a.tmps) = true) (h : (execOp a.eval o).run P w = .ok (.value v) w') (hb : Below w.heap.size w w') (hΨ : Ψ v w') :
    StepOp P ops Ψ o a w := by
  unfold StepOp
  rw [if_pos hw]
  intro K hK
  unfold Oper.wp
  rw [h]
  exact hK v w' hb hΨ
/-- .. and leaves the world -/
theorem stepV {c v : Value} {o : Oper} {a : Act} {w : World} (hw : Region.wanted o (yielded ops a.tmps) = true) (h : (execOp a.eval o).run P w = .ok (.value v) w) (hv : v = c) : StepOp P ops (pv c).p o a w :=
  stepR hw h (Below.refl _ _) hv
/-- a call of a function that has a contract -/
theorem stepC {Ψ : Value → World → Prop} {o : Oper} {a : Act} {w w1 : World} {f : FuncId} {args : Array Value} {R : Ending → World → Prop} (hw : Region.wanted o (yielded ops a.tmps) = true) (h : (execOp a.eval o).run P w = .ok (.enter f args) w1)
    (hc : Calls P f args w1 R) (hR : ∀ e w', R e w' → ∃ v, e = .returned v ∧ Below w.heap.size w w' ∧ Ψ v w') : StepOp P ops Ψ o a w := by
  unfold StepOp
  rw [if_pos hw]
  intro K hK
  unfold Oper.wp
  rw [h]
  simp only [Oper.upon]
  refine hc.mono fun e w' he => ?_
  obtain ⟨v, rfl, hb, hΨ⟩ := hR e w' he
  exact hK v w' hb hΨ
/-- the guard says no -/
theorem stepNo {Ψ : Value → World → Prop} {o : Oper} {a : Act} {w : World} (hw : Region.wanted o (yielded ops a.tmps) = false) (h : Ψ undef w) : StepOp P ops Ψ o a w := by
  unfold StepOp
  rw [if_neg (by rw [hw]; simp)]
  exact h
end
end Go.Proofs.Ytfheeanpmcgajaa

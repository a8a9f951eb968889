/- The rule for a region that draws its order, with a condition on the world that may be given up once one operation, number k, has come up (a store to what was read). -/
import Derived.Test.YtbpajfjeakffkaaSeq2
namespace Go.Proofs.Ytbpajfjeakffkaa
open Go.RowKit

section
variable {P : Program} {ops : Array Oper} {l : List Oper} {Q : Exit → Act → World → Prop} {md : Region.Mode} {k : Nat}
/-- whatever order is picked; behind each operation S holds, of the sort that goes by whether k has come up -/
def wpAnyK (P : Program) (md : Region.Mode) (ops : Array Oper) (Q : Exit → Act → World → Prop) (k : Nat) (S : Bool → World → Prop) : Nat → Array Bool → Act → World → Prop
  | 0, listed, a, w => Region.ready md ops listed = [] ∧ Q .normal a w
  | fuel + 1, listed, a, w =>
    (Region.ready md ops listed = [] → Q .normal a w) ∧
    ∀ i ∈ Region.ready md ops listed, wpOp P ops Q i (fun a' w' => S ((listed.setIfInBounds i true).getD k true) w' ∧ wpAnyK P md ops Q k S fuel (listed.setIfInBounds i true) a' w') a w
theorem wpAny_of_K {S : Bool → World → Prop} : ∀ (fuel : Nat) (listed : Array Bool) (a : Act) (w : World), wpAnyK P md ops Q k S fuel listed a w → wpAny P md ops Q fuel listed a w
  | 0, _, _, _, h => h
  | fuel + 1, _, _, _, h => ⟨h.1, fun i hi => wpOp_mono (fun a' w' h' => wpAny_of_K fuel _ a' w' h'.2) (h.2 i hi)⟩
theorem wpAnyK_mono {S S' : Bool → World → Prop} (hSS : ∀ b w, S' b w → S b w) : ∀ (fuel : Nat) (listed : Array Bool) (a : Act) (w : World), wpAnyK P md ops Q k S' fuel listed a w → wpAnyK P md ops Q k S fuel listed a w
  | 0, _, _, _, h => h
  | fuel + 1, _, _, _, h => ⟨h.1, fun i hi => wpOp_mono (fun a' w' h' => ⟨hSS _ _ h'.1, wpAnyK_mono hSS fuel _ a' w' h'.2⟩) (h.2 i hi)⟩
/-- each waits for the one ahead of it, the first for i -/
def chained (md : Region.Mode) (ops : Array Oper) (i : Nat) : List Nat → Bool
  | [] => true
  | c :: cs => c != i && ((ops[c]?).map fun o => o.after.any fun e => Region.binds md e && e.on == i).getD false && chained md ops c cs
theorem chained_not_ready {i : Nat} {cs : List Nat} {listed : Array Bool} (hc : chained md ops i cs = true) (hi : listed.getD i true = false) (hu : ∀ c ∈ cs, listed.getD c true = false) : ∀ c ∈ cs, c ∉ Region.ready md ops listed := by
  induction cs generalizing i with
  | nil => intro c hc; cases hc
  | cons c cs ih =>
    unfold chained at hc
    simp only [Bool.and_eq_true] at hc
    intro c' hc'
    rcases List.mem_cons.1 hc' with rfl | hc'
    · intro hr
      obtain ⟨_, o, ho, hall⟩ := mem_ready.1 hr
      have h2 := hc.1.2
      rw [ho] at h2
      simp only [Option.map_some, Option.getD_some] at h2
      obtain ⟨e, he, hb⟩ := Array.any_eq_true'.1 h2
      simp only [Bool.and_eq_true, beq_iff_eq] at hb
      have h1 := hall e he hb.1
      rw [hb.2] at h1
      rcases Nat.lt_or_ge i listed.size with h' | h'
      · simp [h'] at hi h1; rw [hi] at h1; cases h1
      · simp [Array.getElem?_eq_none h'] at h1
    · exact ih hc.2 (hu c (List.mem_cons_self ..)) (fun d hd => hu d (List.mem_cons_of_mem _ hd)) c' hc'
theorem wpAnyK_first {i : Nat} {oi : Oper} {v : Value} {S : Bool → World → Prop} {cs : List Nat} (hi : ops[i]? = some oi) (hsel : ∀ (j : Nat) (o : Oper) cs b, ops[j]? = some o → o.op ≠ .select cs b)
    (hQ : ∀ c a w, Q (.panic c) (a.put oi.dst v) w → Q (.panic c) a w) (hch : chained md ops i cs = true) (hk : k ∈ cs) (hki : k ≠ i) :
    ∀ (fuel : Nat) (listed : Array Bool) (a : Act) (w : World),
      (∀ j oj, ops[j]? = some oj → j ≠ i → listed.getD j true = false → (∀ e ∈ oj.after, Region.binds md e = true → e.on ≠ i) → oi.apart ops oj = true) →
      i ∈ Region.ready md ops listed → (∀ c ∈ cs, listed.getD c true = false) → YieldsIf P ops (S false) oi v a → S false w →
      wpAnyK P md ops Q k S fuel (listed.setIfInBounds i true) (a.put oi.dst v) w → wpAnyK P md ops Q k S (fuel + 1) listed a w := by
  intro fuel
  induction fuel with
  | zero =>
    intro listed a w _ hr hu hy hS H
    refine ⟨fun h => (by rw [h] at hr; cases hr), fun j hj => ?_⟩
    by_cases hji : j = i
    · subst hji
      exact hy.wpOp hi hS ⟨by rw [getD_set_ne true hki.symm, hu k hk]; exact hS, H⟩
    · have := ready_mono hj hji
      rw [H.1] at this
      cases this
  | succ fuel ih =>
    intro listed a w hfree hr hu hy hS H
    refine ⟨fun h => (by rw [h] at hr; cases hr), fun j hj => ?_⟩
    by_cases hji : j = i
    · subst hji; exact hy.wpOp hi hS ⟨by rw [getD_set_ne true hki.symm, hu k hk]; exact hS, H⟩
    · have h1 := H.2 j (ready_mono hj hji)
      have hil : listed.getD i true = false := (mem_ready.1 hr).1
      have hjc : j ∉ cs := fun hjc => chained_not_ready hch hil hu j hjc hj
      have hjk : j ≠ k := by rintro rfl; exact hjc hk
      obtain ⟨hjun, oj, hoj, hall⟩ := mem_ready.1 hj
      have hnot : ∀ e ∈ oj.after, Region.binds md e = true → e.on ≠ i := fun e he hb heq => by
        have h1 := hall e he hb
        have h0 := (mem_ready.1 hr).1
        rw [heq] at h1
        rcases Nat.lt_or_ge i listed.size with h' | h'
        · simp [h'] at h0 h1; rw [h0] at h1; cases h1
        · simp [Array.getElem?_eq_none h'] at h1
      have h2 := wpOp_putIf hoj (hfree j oj hoj hji hjun hnot) (fun cs b => hsel i oi cs b hi) (fun cs b => hsel j oj cs b hoj) hQ hy h1
      have hfree' : ∀ k ok, ops[k]? = some ok → k ≠ i → (listed.setIfInBounds j true).getD k true = false →
          (∀ e ∈ ok.after, Region.binds md e = true → e.on ≠ i) → oi.apart ops ok = true := fun k ok hk hki hun hno => by
        refine hfree k ok hk hki ?_ hno
        by_cases hjk : j = k
        · subst hjk; exact hjun
        · rw [getD_set_ne true hjk] at hun; exact hun
      have hu' : ∀ c ∈ cs, (listed.setIfInBounds j true).getD c true = false := fun c hc => by
        rw [getD_set_ne true (by rintro rfl; exact hjc hc)]; exact hu c hc
      refine wpOp_mono (fun a' w' h3 => ?_) h2
      have hS' : S false w' := by
        have := h3.2.1
        rwa [getD_set_ne true hjk, getD_set_ne true hki.symm, hu k hk] at this
      refine ⟨by rw [getD_set_ne true hjk, hu k hk]; exact hS', ih (listed.setIfInBounds j true) a' w' hfree' (ready_mono hr (Ne.symm hji)) hu' h3.1 hS' ?_⟩
      rw [Array.setIfInBounds_comm _ _ hji]
      exact h3.2.2
/-- what yields the same whether k has come up or not -/
theorem wpAnyK_first2 {i : Nat} {oi : Oper} {v : Value} {S : Bool → World → Prop} (hi : ops[i]? = some oi) (hsel : ∀ (j : Nat) (o : Oper) cs b, ops[j]? = some o → o.op ≠ .select cs b)
    (hQ : ∀ c a w, Q (.panic c) (a.put oi.dst v) w → Q (.panic c) a w) (hki : k ≠ i) :
    ∀ (fuel : Nat) (listed : Array Bool) (a : Act) (w : World),
      (∀ j oj, ops[j]? = some oj → j ≠ i → listed.getD j true = false → (∀ e ∈ oj.after, Region.binds md e = true → e.on ≠ i) → oi.apart ops oj = true) →
      i ∈ Region.ready md ops listed → YieldsIf P ops (fun w => ∃ b, S b w) oi v a → S (listed.getD k true) w →
      wpAnyK P md ops Q k S fuel (listed.setIfInBounds i true) (a.put oi.dst v) w → wpAnyK P md ops Q k S (fuel + 1) listed a w := by
  intro fuel
  induction fuel with
  | zero =>
    intro listed a w _ hr hy hS H
    refine ⟨fun h => (by rw [h] at hr; cases hr), fun j hj => ?_⟩
    by_cases hji : j = i
    · subst hji
      exact hy.wpOp hi ⟨_, hS⟩ ⟨by rw [getD_set_ne true hki.symm]; exact hS, H⟩
    · have := ready_mono hj hji
      rw [H.1] at this
      cases this
  | succ fuel ih =>
    intro listed a w hfree hr hy hS H
    refine ⟨fun h => (by rw [h] at hr; cases hr), fun j hj => ?_⟩
    by_cases hji : j = i
    · subst hji; exact hy.wpOp hi ⟨_, hS⟩ ⟨by rw [getD_set_ne true hki.symm]; exact hS, H⟩
    · have h1 := H.2 j (ready_mono hj hji)
      obtain ⟨hjun, oj, hoj, hall⟩ := mem_ready.1 hj
      have hnot : ∀ e ∈ oj.after, Region.binds md e = true → e.on ≠ i := fun e he hb heq => by
        have h1 := hall e he hb
        have h0 := (mem_ready.1 hr).1
        rw [heq] at h1
        rcases Nat.lt_or_ge i listed.size with h' | h'
        · simp [h'] at h0 h1; rw [h0] at h1; cases h1
        · simp [Array.getElem?_eq_none h'] at h1
      have h2 := wpOp_putIf hoj (hfree j oj hoj hji hjun hnot) (fun cs b => hsel i oi cs b hi) (fun cs b => hsel j oj cs b hoj) hQ hy h1
      have hfree' : ∀ k ok, ops[k]? = some ok → k ≠ i → (listed.setIfInBounds j true).getD k true = false →
          (∀ e ∈ ok.after, Region.binds md e = true → e.on ≠ i) → oi.apart ops ok = true := fun k ok hk hki hun hno => by
        refine hfree k ok hk hki ?_ hno
        by_cases hjk : j = k
        · subst hjk; exact hjun
        · rw [getD_set_ne true hjk] at hun; exact hun
      refine wpOp_mono (fun a' w' h3 => ?_) h2
      have hS' : S ((listed.setIfInBounds j true).getD k true) w' := by
        have := h3.2.1
        rwa [Array.setIfInBounds_comm _ _ (Ne.symm hji), getD_set_ne true hki.symm] at this
      refine ⟨hS', ih (listed.setIfInBounds j true) a' w' hfree' (ready_mono hr (Ne.symm hji)) h3.1 hS' ?_⟩
      rw [Array.setIfInBounds_comm _ _ hji]
      exact h3.2.2
/-- those marked have come up; n are left; S holds -/
def SeqK (P : Program) (l : List Oper) (Q : Exit → Act → World → Prop) (k : Nat) (S : Bool → World → Prop) (n : Nat) (m : List Bool) (a : Act) (w : World) : Prop :=
  S (m.getD k true) w → wpAnyK P .any l.toArray Q k S n m.toArray a w
variable {S : Bool → World → Prop}
theorem getD_toArray (m : List Bool) (k : Nat) : m.toArray.getD k true = m.getD k true := by
  simp [Array.getD_eq_getD_getElem?, List.getD_eq_getElem?_getD]
theorem seqK_start (k : Nat) (S : Bool → World → Prop) (n : Nat) (m : List Bool) {id : Nat} {a : Act} {w : World} (hm : P.follows .mixedOrders = true) (hn : l.length = n) (hr : m = List.replicate n false) (hk : m.getD k true = false) (hS : S false w.drew) (h : SeqK P l Q k S n m a w.drew) : (Code.region id l.toArray true).wp P Q a w := by
  subst hn
  unfold SeqK at h
  rw [hk] at h
  have := h hS
  rw [hr, List.toArray_replicate] at this
  exact wp_region_any hm (wpAny_of_K _ _ _ _ this)
/-- ahead of k -/
theorem seqK_take (i : Nat) (cs : List Nat) {n : Nat} {m : List Bool} {o : Oper} {v : Value} {a : Act} {w : World} (hi : l[i]? = some o) (hok : takeOk l m i = true)
    (hch : (chained .any l.toArray i cs && cs.contains k && (k != i) && cs.all fun c => !m.getD c true) = true)
    (hQ : ∀ c a w, Q (.panic c) (a.put o.dst v) w → Q (.panic c) a w) (hy : YieldsIf P l.toArray (S false) o v a)
    (h : SeqK P l Q k S n (m.set i true) (a.put o.dst v) w) : SeqK P l Q k S (n + 1) m a w := by
  intro hS
  unfold takeOk at hok
  simp only [Bool.and_eq_true] at hok hch
  have hu : ∀ c ∈ cs, m.getD c true = false := fun c hc => by simpa using (List.all_eq_true.1 hch.2 c hc)
  have hkc : k ∈ cs := by simpa using hch.1.1.2
  have hki : k ≠ i := by simpa using hch.1.2
  rw [hu k hkc] at hS
  refine wpAnyK_first (i := i) (by simpa using hi) (Region.noSelect_spec hok.1.1) hQ hch.1.1.1 hkc hki n m.toArray a w (Region.free_spec (by simpa using hi) hok.1.2) (by simpa using hok.2) (fun c hc => by rw [getD_toArray]; exact hu c hc) hy hS ?_
  have := h (by rw [← getD_toArray, ← List.setIfInBounds_toArray, getD_set_ne true hki.symm, getD_toArray, hu k hkc]; exact hS)
  rwa [← List.setIfInBounds_toArray] at this
/-- whether k has come up or not -/
theorem seqK_take2 (i : Nat) {n : Nat} {m : List Bool} {o : Oper} {v : Value} {a : Act} {w : World} (hi : l[i]? = some o) (hok : takeOk l m i = true) (hki : (k != i) = true)
    (hQ : ∀ c a w, Q (.panic c) (a.put o.dst v) w → Q (.panic c) a w) (hy : YieldsIf P l.toArray (fun w => ∃ b, S b w) o v a)
    (h : SeqK P l Q k S n (m.set i true) (a.put o.dst v) w) : SeqK P l Q k S (n + 1) m a w := by
  intro hS
  unfold takeOk at hok
  simp only [Bool.and_eq_true] at hok
  have hki : k ≠ i := by simpa using hki
  rw [← getD_toArray] at hS
  refine wpAnyK_first2 (i := i) (by simpa using hi) (Region.noSelect_spec hok.1.1) hQ hki n m.toArray a w (Region.free_spec (by simpa using hi) hok.1.2) (by simpa using hok.2) hy hS ?_
  have := h (by rw [← getD_toArray, ← List.setIfInBounds_toArray, getD_set_ne true hki.symm]; exact hS)
  rwa [← List.setIfInBounds_toArray] at this
theorem seqK_do (i : Nat) {n : Nat} {m : List Bool} {o : Oper} {a : Act} {w : World} (hi : l[i]? = some o) (hok : doOk l m i = true)
    (h : ∀ K' : Act → World → Prop, Shut (∀ (S' : Bool → World → Prop) a' w', (∀ b v, S' b v → S b v) → S' ((m.set i true).getD k true) w' → SeqK P l Q k S' n (m.set i true) a' w' → K' a' w') → if Region.wanted o (yielded l.toArray a.tmps) = true then Oper.wp P o a w K' Q else K' (a.put o.dst undef) w) : SeqK P l Q k S (n + 1) m a w := by
  intro hS
  unfold doOk at hok
  have hrd : Region.ready .any l.toArray m.toArray = [i] := by simpa using hok
  refine ⟨fun h => (by rw [hrd] at h; cases h), fun j hj => ?_⟩
  rw [hrd] at hj
  obtain rfl : j = i := by simpa using hj
  refine wpOp_step (by simpa using hi) fun K' hK' => h K' fun S' a' w' hSS hS' hs => hK' _ _ ⟨?_, ?_⟩
  · rw [List.setIfInBounds_toArray, getD_toArray]; exact hSS _ _ hS'
  · have := hs hS'
    rw [← List.setIfInBounds_toArray] at this
    exact wpAnyK_mono hSS _ _ _ _ this
theorem seqK_end {m : List Bool} {a : Act} {w : World} (hok : (Region.ready .any l.toArray m.toArray).isEmpty = true) (h : S (m.getD k true) w → Q .normal a w) : SeqK P l Q k S 0 m a w :=
  fun hS => ⟨by simpa using hok, h hS⟩
end
end Go.Proofs.Ytbpajfjeakffkaa

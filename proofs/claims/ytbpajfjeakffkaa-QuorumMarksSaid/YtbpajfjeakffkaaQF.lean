/- Marks' map: laws of a map of places by members. -/
import Derived.Test.YtbpajfjeakffkaaQE
import Derived.MapKept
import Derived.Carry
import Derived.Maps.RangeRun
namespace Go.Proofs.Ytbpajfjeakffkaa
open Go.RowKit Go.Sort Go.MapKept

section
variable {P : Program}
theorem run_insert_new {w : World} {t k e : TypeId} {d : TypeDesc} (ht : P.underlying t = some (.map k e)) (hk : P.underlying k = some d) {b : Nat} {es : Array MapEntry} {clock : Nat} (hb : w.heap[b]? = some (.map es clock))
    {key val : Value} (hik : IsKey d key) (hf : Instr.findNow d key es.toList 0 = some none) :
    (Instr.mapUpdate t (.map (some b)) key val).run P w = .ok () { w with heap := w.heap.setIfInBounds b (.map (es.push ⟨key, val, clock⟩) (clock + 1)) } := by
  simp only [Instr.mapUpdate, Sem.run_bind, run_underlying ht, Result.andThen_ok, MapKept.run_getObj_map hb, MapKept.run_checkKey hk hik false 9999, MapKept.run_findKey hk hf, MapKept.run_setObj_map _ hb]
theorem run_lookup_hit {w : World} {t k e : TypeId} {d : TypeDesc} (ht : P.underlying t = some (.map k e)) (hk : P.underlying k = some d) {b : Nat} {es : Array MapEntry} {clock : Nat} (hb : w.heap[b]? = some (.map es clock))
    {key v : Value} {i : Nat} (hik : IsKey d key) (hf : Instr.findNow d key es.toList 0 = some (some (i, v))) :
    (Instr.lookup t (.map (some b)) key false).run P w = .ok v w := by
  simp [Instr.lookup, Sem.run_bind, run_underlying ht, Result.andThen_ok, MapKept.run_getObj_map hb, MapKept.run_checkKey hk hik _ 9999, MapKept.run_findKey hk hf]
theorem run_lookup_miss {w : World} {t k e : TypeId} {d : TypeDesc} (ht : P.underlying t = some (.map k e)) (hk : P.underlying k = some d) {b : Nat} {es : Array MapEntry} {clock : Nat} (hb : w.heap[b]? = some (.map es clock))
    {key z : Value} (hik : IsKey d key) (hf : Instr.findNow d key es.toList 0 = some none) (hz : (zeroValue e).run P w = .ok z w) :
    (Instr.lookup t (.map (some b)) key false).run P w = .ok z w := by
  simp [Instr.lookup, Sem.run_bind, run_underlying ht, Result.andThen_ok, MapKept.run_getObj_map hb, MapKept.run_checkKey hk hik _ 9999, MapKept.run_findKey hk hf, hz]
theorem wpList_insert {w : World} {ops : Array Oper} {rest : List Oper} {o : Oper} {a : Act} {Q : Exit → Act → World → Prop}
    (hg : o.guard = none) (m x v : Operand) (t : TypeId) (hop : o.op = Op.insert t m x v) (k e : TypeId) (d : TypeDesc) (ht : P.underlying t = some (.map k e)) (hk : P.underlying k = some d)
    (b : Nat) (es : Array MapEntry) (clock : Nat) (hm : a.eval m = .map (some b)) (hb : w.heap[b]? = some (.map es clock)) (key val : Value) (hx : a.eval x = key) (hv : a.eval v = val)
    (hik : IsKey d key) (hf : Instr.findNow d key es.toList 0 = some none)
    (hK : ∀ w', w'.heap[b]? = some (.map (es.push ⟨key, val, clock⟩) (clock + 1)) → Below b w w' → w'.heap.size = w.heap.size → wpList P ops Q rest (a.put o.dst undef) w') :
    wpList P ops Q (o :: rest) a w := by
  refine wpList_plain hg fun K' hK' => ?_
  unfold Oper.wp
  simp [execOp, hop, hm, hx, hv, run_insert_new ht hk hb hik hf, Result.andThen]
  have hlt : b < w.heap.size := (Array.getElem?_eq_some_iff.1 hb).1
  refine hK' _ _ (hK _ ?_ ⟨rfl, rfl, rfl, by simp, fun j hj => ?_⟩ (by simp))
  · simp [hlt]
  · show (w.heap.setIfInBounds b _)[j]? = _
    rw [Array.getElem?_setIfInBounds_ne (by omega)]
end

section
variable {P : Program}
theorem run_lookup_ok {w : World} {t k e : TypeId} {d : TypeDesc} (ht : P.underlying t = some (.map k e)) (hk : P.underlying k = some d) {b : Nat} {es : Array MapEntry} {clock : Nat} (hb : w.heap[b]? = some (.map es clock))
    {key v : Value} {i : Nat} (hik : IsKey d key) (hf : Instr.findNow d key es.toList 0 = some (some (i, v))) :
    (Instr.lookup t (.map (some b)) key true).run P w = .ok (.tuple #[v, .bool true]) w := by
  simp [Instr.lookup, Sem.run_bind, run_underlying ht, Result.andThen_ok, MapKept.run_getObj_map hb, MapKept.run_checkKey hk hik _ 9999, MapKept.run_findKey hk hf]
theorem run_lookup_no {w : World} {t k e : TypeId} {d : TypeDesc} (ht : P.underlying t = some (.map k e)) (hk : P.underlying k = some d) {b : Nat} {es : Array MapEntry} {clock : Nat} (hb : w.heap[b]? = some (.map es clock))
    {key z : Value} (hik : IsKey d key) (hf : Instr.findNow d key es.toList 0 = some none) (hz : (zeroValue e).run P w = .ok z w) :
    (Instr.lookup t (.map (some b)) key true).run P w = .ok (.tuple #[z, .bool false]) w := by
  simp [Instr.lookup, Sem.run_bind, run_underlying ht, Result.andThen_ok, MapKept.run_getObj_map hb, MapKept.run_checkKey hk hik _ 9999, MapKept.run_findKey hk hf, hz]
theorem run_update_old {w : World} {t k e : TypeId} {d : TypeDesc} (ht : P.underlying t = some (.map k e)) (hk : P.underlying k = some d) {b : Nat} {es : Array MapEntry} {clock : Nat} (hb : w.heap[b]? = some (.map es clock))
    {key val old : Value} {i : Nat} (hik : IsKey d key) (hf : Instr.findNow d key es.toList 0 = some (some (i, old))) (hkey : ((es[i]?).map (·.key)).getD key = key) :
    (Instr.mapUpdate t (.map (some b)) key val).run P w = .ok () { w with heap := w.heap.setIfInBounds b (.map (es.modify i fun e => { e with key := key, val := val }) clock) } := by
  simp only [Instr.mapUpdate, Sem.run_bind, run_underlying ht, Result.andThen_ok, MapKept.run_getObj_map hb, MapKept.run_checkKey hk hik false 9999, MapKept.run_findKey hk hf, hkey, MapKept.run_keyThatStays hik, MapKept.run_setObj_map _ hb]
end
abbrev MapD := List (Int × Pl)
def esOf (D : MapD) : Array MapEntry := (D.mapIdx fun i x => MapEntry.mk (.int .i64 x.1) (pv x.2) i).toArray
theorem esOf_size (D : MapD) : (esOf D).size = D.length := by simp [esOf]
theorem esOf_get (D : MapD) (i : Nat) (h : i < D.length) : (esOf D)[i]? = some ⟨.int .i64 D[i].1, pv D[i].2, i⟩ := by simp [esOf, h]
theorem esOf_push (D : MapD) (n : Int) (p : Pl) : esOf (D ++ [(n, p)]) = (esOf D).push ⟨.int .i64 n, pv p, D.length⟩ := by
  unfold esOf
  rw [List.mapIdx_append]
  simp
theorem esOf_set (D : MapD) (i : Nat) (n : Int) (p : Pl) : esOf (D.set i (n, p)) = (esOf D).modify i fun e => { e with key := .int .i64 n, val := pv p } := by
  apply Array.ext_getElem?
  intro j
  rw [Array.getElem?_modify]
  by_cases hj : j < D.length
  · rw [esOf_get _ j (by simpa using hj), esOf_get D j hj]
    by_cases hij : i = j
    · subst hij; simp
    · simp [hij]
  · rw [Array.getElem?_eq_none (by rw [esOf_size]; simpa using hj), Array.getElem?_eq_none (by rw [esOf_size]; omega)]
    simp
theorem isKey_es (D : MapD) : ∀ x ∈ (esOf D).toList, IsKey (.int .i64) x.key := by
  intro x hx
  simp only [esOf, List.mem_mapIdx] at hx
  obtain ⟨i, h, rfl⟩ := hx
  rfl
theorem find_case (D : MapD) (n : Int) : (Instr.findNow (.int .i64) (.int .i64 n) (esOf D).toList 0 = some none ∧ ∀ x ∈ D, x.1 ≠ n) ∨
    ∃ j, ∃ h : j < D.length, Instr.findNow (.int .i64) (.int .i64 n) (esOf D).toList 0 = some (some (j, pv D[j].2)) ∧ D[j].1 = n := by
  rcases findNow_spec (d := .int .i64) (k := .int .i64 n) rfl (esOf D).toList 0 (isKey_es D) with ⟨h1, h2⟩ | ⟨j, e, h1, h2, h3⟩
  · refine .inl ⟨h1, fun x hx => ?_⟩
    obtain ⟨i, hi, rfl⟩ := List.getElem_of_mem hx
    have := esOf_get D i hi
    have hm : (⟨.int .i64 D[i].1, pv D[i].2, i⟩ : MapEntry) ∈ (esOf D).toList := by
      rw [Array.getElem?_eq_some_iff] at this
      obtain ⟨hlt, he⟩ := this
      rw [← he]; simp
    have := h2 _ hm
    simpa using this
  · right
    have hj : j < D.length := by
      have := (List.getElem?_eq_some_iff.1 h2).1
      simpa [esOf] using this
    have hg := esOf_get D j hj
    rw [← Array.getElem?_toList, h2] at hg
    cases hg
    exact ⟨j, hj, by simpa using h1, by simpa using h3⟩
/-- what a member has told -/
def getM (D : MapD) (n : Int) : Option Pl := (D.find? fun x => x.1 = n).map (·.2)
theorem getM_none (D : MapD) (n : Int) (h : ∀ x ∈ D, x.1 ≠ n) : getM D n = none := by
  unfold getM
  rw [List.find?_eq_none.2 (fun x hx => by simpa using h x hx)]; rfl
theorem getM_some (D : MapD) (n : Int) (hd : (D.map (·.1)).Nodup) (j : Nat) (h : j < D.length) (hn : D[j].1 = n) : getM D n = some D[j].2 := by
  unfold getM
  have : D.find? (fun x => x.1 = n) = some D[j] := by
    rw [List.find?_eq_some_iff_getElem]
    refine ⟨by simpa using hn, j, h, rfl, fun i hi => ?_⟩
    have hne : D[i].1 ≠ n := fun e => by
      have h1 : (D.map (·.1))[i]'(by simp; omega) = (D.map (·.1))[j]'(by simpa using h) := by simp [e, hn]
      exact List.pairwise_iff_getElem.1 hd i j (by simp; omega) (by simpa using h) hi h1
    simpa using hne
  rw [this]; rfl
structure MS (w : World) (mp mb : Nat) (D : MapD) : Prop where
  cell : w.heap[mp]? = some (.cells #[.map (some mb)] 52 (0, 0))
  map : w.heap[mb]? = some (.map (esOf D) D.length)
  nd : (D.map (·.1)).Nodup
  ne : mp ≠ mb
theorem MS.below {w w' : World} {mp mb : Nat} {D : MapD} (h : MS w mp mb D) (hb : RowKit.Below w.heap.size w w') : MS w' mp mb D :=
  ⟨(hb.block _ (Array.getElem?_eq_some_iff.1 h.cell).1).trans h.cell, (hb.block _ (Array.getElem?_eq_some_iff.1 h.map).1).trans h.map, h.nd, h.ne⟩
theorem zero26 (w : World) : (zeroValue 26).run Try.prog w = .ok (pv (0, 0)) w := by kernel_rfl
theorem ne_nil50 (mb : Nat) (w : World) : (binOp .neq 50 (.map (some mb)) (.map none)).run Try.prog w = .ok (.bool true) w := by kernel_rfl
set_option maxRecDepth 10000 in
theorem there32 (mp mb : Nat) (D : MapD) (w : World) (h : MS w mp mb D) : Calls Try.prog 32 #[.pointer (some ⟨mp, 0, none⟩)] w fun e w' => e = .returned (.bool true) ∧ w = w' := by
  have z := cell_of_row _ _ 0 _ _ _ h.cell
  have hz : w.cell? ⟨mp, 0, none⟩ = some (.map (some mb)) := z
  have hn := ne_nil50
  clear z h
  go_enter Try.func32, Try.ntmps32
  go_wp2
  go_ret
  exact ⟨rfl, rfl⟩

end Go.Proofs.Ytbpajfjeakffkaa

/- Maps keyed by integers, made of a literal: form, parts; Name. -/
import Derived.Test.YtokijkinlcdjeaaRecB
import Derived.MapKept
import Derived.Carry
namespace Go.Proofs.Ytokijkinlcdjeaa
open Go.RowKit WireM Go.MapKept

section
variable {P : Program}
theorem run_insert_new {w : World} {t k e : TypeId} {d : TypeDesc} (ht : P.underlying t = some (.map k e)) (hk : P.underlying k = some d) {b : Nat} {es : Array MapEntry} {clock : Nat} (hb : w.heap[b]? = some (.map es clock))
    {key val : Value} (hik : IsKey d key) (hf : Instr.findNow d key es.toList 0 = some none) :
    (Instr.mapUpdate t (.map (some b)) key val).run P w = .ok () { w with heap := w.heap.setIfInBounds b (.map (es.push ⟨key, val, clock⟩) (clock + 1)) } := by
  simp only [Instr.mapUpdate, Sem.run_bind, run_underlying ht, Result.andThen_ok, MapKept.run_getObj_map hb, MapKept.run_checkKey hk hik false 9999, MapKept.run_findKey hk hf, MapKept.run_setObj_map _ hb]
theorem run_lookup_hit {w : World} {t k e : TypeId} {d : TypeDesc} (ht : P.underlying t = some (.map k e)) (hk : P.underlying k = some d) {b : Nat} {es : Array MapEntry} {clock : Nat} (hb : w.heap[b]? = some (.map es clock))
    {key v : Value} {i : Nat} (hik : IsKey d key) (hf : Instr.findNow d key es.toList 0 = some (some (i, v))) :
    (Instr.lookup t (.map (some b)) key false).run P w = .ok v w := by
  simp [Instr.lookup, Sem.run_bind, run_underlying ht, Result.andThen_ok, MapKept.run_getObj_map hb, MapKept.run_checkKey hk hik _ 9999, MapKept.run_findKey hk hf]
theorem run_lookup_miss {w : World} {t k e : TypeId} {d : TypeDesc} (ht : P.underlying t = some (.map k e)) (hk : P.underlying k = some d) {b : Nat} {es : Array MapEntry} {clock : Nat} (hb : w.heap[b]? = some (.map es clock))
    {key z : Value} (hik : IsKey d key) (hf : Instr.findNow d key es.toList 0 = some none) (hz : (zeroValue e).run P w = .ok z w) :
    (Instr.lookup t (.map (some b)) key false).run P w = .ok z w := by
  simp [Instr.lookup, Sem.run_bind, run_underlying ht, Result.andThen_ok, MapKept.run_getObj_map hb, MapKept.run_checkKey hk hik _ 9999, MapKept.run_findKey hk hf, hz]
theorem wpList_insert {w : World} {ops : Array Oper} {rest : List Oper} {o : Oper} {a : Act} {Q : Exit → Act → World → Prop}
    (hg : o.guard = none) (m x v : Operand) (t : TypeId) (hop : o.op = Op.insert t m x v) (k e : TypeId) (d : TypeDesc) (ht : P.underlying t = some (.map k e)) (hk : P.underlying k = some d)
    (b : Nat) (es : Array MapEntry) (clock : Nat) (hm : a.eval m = .map (some b)) (hb : w.heap[b]? = some (.map es clock)) (key val : Value) (hx : a.eval x = key) (hv : a.eval v = val)
    (hik : IsKey d key) (hf : Instr.findNow d key es.toList 0 = some none)
    (hK : ∀ w', w'.heap[b]? = some (.map (es.push ⟨key, val, clock⟩) (clock + 1)) → Below b w w' → w'.heap.size = w.heap.size → wpList P ops Q rest (a.put o.dst undef) w') :
    wpList P ops Q (o :: rest) a w := by
  refine wpList_plain hg fun K' hK' => ?_
  unfold Oper.wp
  simp [execOp, hop, hm, hx, hv, run_insert_new ht hk hb hik hf, Result.andThen]
  have hlt : b < w.heap.size := (Array.getElem?_eq_some_iff.1 hb).1
  refine hK' _ _ (hK _ ?_ ⟨rfl, rfl, rfl, by simp, fun j hj => ?_⟩ (by simp))
  · simp [hlt]
  · show (w.heap.setIfInBounds b _)[j]? = _
    rw [Array.getElem?_setIfInBounds_ne (by omega)]
theorem wpList_lookup {w : World} {ops : Array Oper} {rest : List Oper} {o : Oper} {a : Act} {Q : Exit → Act → World → Prop}
    (hg : o.guard = none) (m x : Operand) (t : TypeId) (hop : o.op = Op.lookup t m x false) (b : Nat) (hm : a.eval m = .map (some b)) (key v : Value) (hx : a.eval x = key)
    (hrun : (Instr.lookup t (.map (some b)) key false).run P w = .ok v w) (hK : wpList P ops Q rest (a.put o.dst v) w) :
    wpList P ops Q (o :: rest) a w := by
  refine wpList_plain hg fun K' hK' => ?_
  unfold Oper.wp
  simp [execOp, hop, hm, hx, hrun, Result.andThen]
  exact hK' _ _ hK
end

def formL (k : Int) : List UInt8 :=
  if k = 1 then [120, 112, 111, 98] else if k = 2 then [120, 112, 98] else if k = 3 then [120, 115] else if k = 4 then [120, 115] else if k = 5 then [120] else if k = 6 then [110, 115] else if k = 7 then [110, 114] else if k = 8 then [114, 116] else []
abbrev formE : Array MapEntry := #[⟨.int .i64 1, .agg #[.string ⟨#[120, 112, 111, 98]⟩], 0⟩, ⟨.int .i64 2, .agg #[.string ⟨#[120, 112, 98]⟩], 1⟩, ⟨.int .i64 3, .agg #[.string ⟨#[120, 115]⟩], 2⟩, ⟨.int .i64 4, .agg #[.string ⟨#[120, 115]⟩], 3⟩, ⟨.int .i64 5, .agg #[.string ⟨#[120]⟩], 4⟩, ⟨.int .i64 6, .agg #[.string ⟨#[110, 115]⟩], 5⟩, ⟨.int .i64 7, .agg #[.string ⟨#[110, 114]⟩], 6⟩, ⟨.int .i64 8, .agg #[.string ⟨#[114, 116]⟩], 7⟩]
def partsO : Obj := .map #[⟨.int .i32 120, .agg #[.func (.func 30) #[] #[], .func (.func 31) #[] #[]], 0⟩, ⟨.int .i32 110, .agg #[.func (.func 32) #[] #[], .func (.func 33) #[] #[]], 1⟩, ⟨.int .i32 114, .agg #[.func (.func 34) #[] #[], .func (.func 35) #[] #[]], 2⟩, ⟨.int .i32 116, .agg #[.func (.func 36) #[] #[], .func (.func 37) #[] #[]], 3⟩, ⟨.int .i32 112, .agg #[.func (.func 38) #[] #[], .func (.func 39) #[] #[]], 4⟩, ⟨.int .i32 111, .agg #[.func (.func 40) #[] #[], .func (.func 41) #[] #[]], 5⟩, ⟨.int .i32 98, .agg #[.func (.func 42) #[] #[], .func (.func 43) #[] #[]], 6⟩, ⟨.int .i32 115, .agg #[.func (.func 44) #[] #[], .func (.func 45) #[] #[]], 7⟩] 8
theorem partsF (w : World) : Calls Try.prog 21 #[] w fun e w' => e = .returned (.map (some w.heap.size)) ∧ w'.heap[w.heap.size]? = some partsO ∧ w'.heap.size = w.heap.size + 1 ∧ Below w.heap.size w w' := by
  have hmm := @run_makeMap Try.prog
  have h0 := heap_alloc_new w (.map #[] 0)
  have HB := below_alloc w (.map #[] 0)
  have HS : (w.alloc (.map #[] 0)).heap.size = w.heap.size + 1 := by simp
  go_enter Try.func21, Try.ntmps21
  go_wp2_with (refine wpList_insert rfl _ _ _ _ rfl _ _ _ Try.underlying53 Try.underlying21 w.heap.size _ _ rfl (by assumption) _ _ rfl rfl rfl (by rfl) ?_; intro w1 h1 hb1 hs1; replace HB := HB.trans hb1; replace HS := hs1.trans HS; clear hb1 hs1)
  go_ret
  exact ⟨rfl, by assumption, HS, HB⟩
theorem field74 (s : ByteArray) (w : World) : (Instr.field 74 (.agg #[.string s]) 0).run Try.prog w = .ok (.string s) w := by kernel_rfl
theorem field58a (f g : Value) (w : World) : (Instr.field 58 (.agg #[f, g]) 0).run Try.prog w = .ok f w := by kernel_rfl
theorem field58b (f g : Value) (w : World) : (Instr.field 58 (.agg #[f, g]) 1).run Try.prog w = .ok g w := by kernel_rfl
theorem formF1 (w : World) : Calls Try.prog 22 #[.int .i64 1] w fun e w' => e = .returned (.string (str [120, 112, 111, 98])) ∧ Below w.heap.size w w' := by
  have hmm := @run_makeMap Try.prog
  have h0 := heap_alloc_new w (.map #[] 0)
  have HB := below_alloc w (.map #[] 0)
  have HS : (w.alloc (.map #[] 0)).heap.size = w.heap.size + 1 := by simp
  have fld := field74
  go_enter Try.func22, Try.ntmps22
  go_wp2_with (first | (refine wpList_insert rfl _ _ _ _ rfl _ _ _ Try.underlying75 Try.underlying22 w.heap.size _ _ rfl (by assumption) _ _ rfl rfl rfl (by rfl) ?_; intro w1 h1 hb1 hs1; replace HB := HB.trans hb1; replace HS := hs1.trans HS; clear hb1 hs1) | (refine wpList_lookup rfl _ _ _ rfl w.heap.size rfl _ _ rfl (run_lookup_hit (es := formE) (clock := 8) (i := 0) (v := .agg #[.string ⟨#[120, 112, 111, 98]⟩]) Try.underlying75 Try.underlying22 h1 rfl (by rfl)) ?_))
  go_ret
  exact ⟨rfl, HB⟩
theorem formF2 (w : World) : Calls Try.prog 22 #[.int .i64 2] w fun e w' => e = .returned (.string (str [120, 112, 98])) ∧ Below w.heap.size w w' := by
  have hmm := @run_makeMap Try.prog
  have h0 := heap_alloc_new w (.map #[] 0)
  have HB := below_alloc w (.map #[] 0)
  have HS : (w.alloc (.map #[] 0)).heap.size = w.heap.size + 1 := by simp
  have fld := field74
  go_enter Try.func22, Try.ntmps22
  go_wp2_with (first | (refine wpList_insert rfl _ _ _ _ rfl _ _ _ Try.underlying75 Try.underlying22 w.heap.size _ _ rfl (by assumption) _ _ rfl rfl rfl (by rfl) ?_; intro w1 h1 hb1 hs1; replace HB := HB.trans hb1; replace HS := hs1.trans HS; clear hb1 hs1) | (refine wpList_lookup rfl _ _ _ rfl w.heap.size rfl _ _ rfl (run_lookup_hit (es := formE) (clock := 8) (i := 1) (v := .agg #[.string ⟨#[120, 112, 98]⟩]) Try.underlying75 Try.underlying22 h1 rfl (by rfl)) ?_))
  go_ret
  exact ⟨rfl, HB⟩
theorem formF3 (w : World) : Calls Try.prog 22 #[.int .i64 3] w fun e w' => e = .returned (.string (str [120, 115])) ∧ Below w.heap.size w w' := by
  have hmm := @run_makeMap Try.prog
  have h0 := heap_alloc_new w (.map #[] 0)
  have HB := below_alloc w (.map #[] 0)
  have HS : (w.alloc (.map #[] 0)).heap.size = w.heap.size + 1 := by simp
  have fld := field74
  go_enter Try.func22, Try.ntmps22
  go_wp2_with (first | (refine wpList_insert rfl _ _ _ _ rfl _ _ _ Try.underlying75 Try.underlying22 w.heap.size _ _ rfl (by assumption) _ _ rfl rfl rfl (by rfl) ?_; intro w1 h1 hb1 hs1; replace HB := HB.trans hb1; replace HS := hs1.trans HS; clear hb1 hs1) | (refine wpList_lookup rfl _ _ _ rfl w.heap.size rfl _ _ rfl (run_lookup_hit (es := formE) (clock := 8) (i := 2) (v := .agg #[.string ⟨#[120, 115]⟩]) Try.underlying75 Try.underlying22 h1 rfl (by rfl)) ?_))
  go_ret
  exact ⟨rfl, HB⟩
theorem formF4 (w : World) : Calls Try.prog 22 #[.int .i64 4] w fun e w' => e = .returned (.string (str [120, 115])) ∧ Below w.heap.size w w' := by
  have hmm := @run_makeMap Try.prog
  have h0 := heap_alloc_new w (.map #[] 0)
  have HB := below_alloc w (.map #[] 0)
  have HS : (w.alloc (.map #[] 0)).heap.size = w.heap.size + 1 := by simp
  have fld := field74
  go_enter Try.func22, Try.ntmps22
  go_wp2_with (first | (refine wpList_insert rfl _ _ _ _ rfl _ _ _ Try.underlying75 Try.underlying22 w.heap.size _ _ rfl (by assumption) _ _ rfl rfl rfl (by rfl) ?_; intro w1 h1 hb1 hs1; replace HB := HB.trans hb1; replace HS := hs1.trans HS; clear hb1 hs1) | (refine wpList_lookup rfl _ _ _ rfl w.heap.size rfl _ _ rfl (run_lookup_hit (es := formE) (clock := 8) (i := 3) (v := .agg #[.string ⟨#[120, 115]⟩]) Try.underlying75 Try.underlying22 h1 rfl (by rfl)) ?_))
  go_ret
  exact ⟨rfl, HB⟩
theorem formF5 (w : World) : Calls Try.prog 22 #[.int .i64 5] w fun e w' => e = .returned (.string (str [120])) ∧ Below w.heap.size w w' := by
  have hmm := @run_makeMap Try.prog
  have h0 := heap_alloc_new w (.map #[] 0)
  have HB := below_alloc w (.map #[] 0)
  have HS : (w.alloc (.map #[] 0)).heap.size = w.heap.size + 1 := by simp
  have fld := field74
  go_enter Try.func22, Try.ntmps22
  go_wp2_with (first | (refine wpList_insert rfl _ _ _ _ rfl _ _ _ Try.underlying75 Try.underlying22 w.heap.size _ _ rfl (by assumption) _ _ rfl rfl rfl (by rfl) ?_; intro w1 h1 hb1 hs1; replace HB := HB.trans hb1; replace HS := hs1.trans HS; clear hb1 hs1) | (refine wpList_lookup rfl _ _ _ rfl w.heap.size rfl _ _ rfl (run_lookup_hit (es := formE) (clock := 8) (i := 4) (v := .agg #[.string ⟨#[120]⟩]) Try.underlying75 Try.underlying22 h1 rfl (by rfl)) ?_))
  go_ret
  exact ⟨rfl, HB⟩
theorem formF6 (w : World) : Calls Try.prog 22 #[.int .i64 6] w fun e w' => e = .returned (.string (str [110, 115])) ∧ Below w.heap.size w w' := by
  have hmm := @run_makeMap Try.prog
  have h0 := heap_alloc_new w (.map #[] 0)
  have HB := below_alloc w (.map #[] 0)
  have HS : (w.alloc (.map #[] 0)).heap.size = w.heap.size + 1 := by simp
  have fld := field74
  go_enter Try.func22, Try.ntmps22
  go_wp2_with (first | (refine wpList_insert rfl _ _ _ _ rfl _ _ _ Try.underlying75 Try.underlying22 w.heap.size _ _ rfl (by assumption) _ _ rfl rfl rfl (by rfl) ?_; intro w1 h1 hb1 hs1; replace HB := HB.trans hb1; replace HS := hs1.trans HS; clear hb1 hs1) | (refine wpList_lookup rfl _ _ _ rfl w.heap.size rfl _ _ rfl (run_lookup_hit (es := formE) (clock := 8) (i := 5) (v := .agg #[.string ⟨#[110, 115]⟩]) Try.underlying75 Try.underlying22 h1 rfl (by rfl)) ?_))
  go_ret
  exact ⟨rfl, HB⟩
theorem formF7 (w : World) : Calls Try.prog 22 #[.int .i64 7] w fun e w' => e = .returned (.string (str [110, 114])) ∧ Below w.heap.size w w' := by
  have hmm := @run_makeMap Try.prog
  have h0 := heap_alloc_new w (.map #[] 0)
  have HB := below_alloc w (.map #[] 0)
  have HS : (w.alloc (.map #[] 0)).heap.size = w.heap.size + 1 := by simp
  have fld := field74
  go_enter Try.func22, Try.ntmps22
  go_wp2_with (first | (refine wpList_insert rfl _ _ _ _ rfl _ _ _ Try.underlying75 Try.underlying22 w.heap.size _ _ rfl (by assumption) _ _ rfl rfl rfl (by rfl) ?_; intro w1 h1 hb1 hs1; replace HB := HB.trans hb1; replace HS := hs1.trans HS; clear hb1 hs1) | (refine wpList_lookup rfl _ _ _ rfl w.heap.size rfl _ _ rfl (run_lookup_hit (es := formE) (clock := 8) (i := 6) (v := .agg #[.string ⟨#[110, 114]⟩]) Try.underlying75 Try.underlying22 h1 rfl (by rfl)) ?_))
  go_ret
  exact ⟨rfl, HB⟩
theorem formF8 (w : World) : Calls Try.prog 22 #[.int .i64 8] w fun e w' => e = .returned (.string (str [114, 116])) ∧ Below w.heap.size w w' := by
  have hmm := @run_makeMap Try.prog
  have h0 := heap_alloc_new w (.map #[] 0)
  have HB := below_alloc w (.map #[] 0)
  have HS : (w.alloc (.map #[] 0)).heap.size = w.heap.size + 1 := by simp
  have fld := field74
  go_enter Try.func22, Try.ntmps22
  go_wp2_with (first | (refine wpList_insert rfl _ _ _ _ rfl _ _ _ Try.underlying75 Try.underlying22 w.heap.size _ _ rfl (by assumption) _ _ rfl rfl rfl (by rfl) ?_; intro w1 h1 hb1 hs1; replace HB := HB.trans hb1; replace HS := hs1.trans HS; clear hb1 hs1) | (refine wpList_lookup rfl _ _ _ rfl w.heap.size rfl _ _ rfl (run_lookup_hit (es := formE) (clock := 8) (i := 7) (v := .agg #[.string ⟨#[114, 116]⟩]) Try.underlying75 Try.underlying22 h1 rfl (by rfl)) ?_))
  go_ret
  exact ⟨rfl, HB⟩
theorem form_miss (k : Int) (hk : ¬ (1 ≤ k ∧ k ≤ 8)) : Instr.findNow (.int .i64) (.int .i64 k) formE.toList 0 = some none := by
  have : ∀ j : Int, 1 ≤ j → j ≤ 8 → (k == j) = false := fun j h1 h2 => by simp; omega
  simp only [Instr.findNow, Instr.sameNow, this 1 (by decide) (by decide), this 2 (by decide) (by decide), this 3 (by decide) (by decide), this 4 (by decide) (by decide), this 5 (by decide) (by decide), this 6 (by decide) (by decide), this 7 (by decide) (by decide), this 8 (by decide) (by decide), if_true]
theorem zero74 (w : World) : (zeroValue 74).run Try.prog w = .ok (.agg #[.string ⟨#[]⟩]) w := by kernel_rfl
theorem formF0 (k : Int) (hk : ¬ (1 ≤ k ∧ k ≤ 8)) (w : World) : Calls Try.prog 22 #[.int .i64 k] w fun e w' => e = .returned (.string (str [])) ∧ Below w.heap.size w w' := by
  have k1 : (k == 1) = false := by simp; omega
  have k2 : (k == 2) = false := by simp; omega
  have k3 : (k == 3) = false := by simp; omega
  have k4 : (k == 4) = false := by simp; omega
  have k5 : (k == 5) = false := by simp; omega
  have k6 : (k == 6) = false := by simp; omega
  have k7 : (k == 7) = false := by simp; omega
  have k8 : (k == 8) = false := by simp; omega
  have hmm := @run_makeMap Try.prog
  have h0 := heap_alloc_new w (.map #[] 0)
  have HB := below_alloc w (.map #[] 0)
  have HS : (w.alloc (.map #[] 0)).heap.size = w.heap.size + 1 := by simp
  have fld := field74
  go_enter Try.func22, Try.ntmps22
  go_wp2_with (first | (refine wpList_insert rfl _ _ _ _ rfl _ _ _ Try.underlying75 Try.underlying22 w.heap.size _ _ rfl (by assumption) _ _ rfl rfl rfl (by rfl) ?_; intro w1 h1 hb1 hs1; replace HB := HB.trans hb1; replace HS := hs1.trans HS; clear hb1 hs1) | (refine wpList_lookup rfl _ _ _ rfl w.heap.size rfl _ _ rfl (run_lookup_miss (es := formE) (clock := 8) Try.underlying75 Try.underlying22 h1 rfl (form_miss k hk) (zero74 _)) ?_))
  go_ret
  exact ⟨rfl, HB⟩
theorem formF (k : Int) (w : World) : Calls Try.prog 22 #[.int .i64 k] w fun e w' => e = .returned (.string (str (formL k))) ∧ Below w.heap.size w w' := by
  by_cases hk : 1 ≤ k ∧ k ≤ 8
  · obtain rfl | rfl | rfl | rfl | rfl | rfl | rfl | rfl : k = 1 ∨ k = 2 ∨ k = 3 ∨ k = 4 ∨ k = 5 ∨ k = 6 ∨ k = 7 ∨ k = 8 := by omega
    · exact formF1 w
    · exact formF2 w
    · exact formF3 w
    · exact formF4 w
    · exact formF5 w
    · exact formF6 w
    · exact formF7 w
    · exact formF8 w
  · have : formL k = [] := by unfold formL; rw [if_neg (by omega), if_neg (by omega), if_neg (by omega), if_neg (by omega), if_neg (by omega), if_neg (by omega), if_neg (by omega), if_neg (by omega)]
    rw [this]
    exact formF0 k hk w
end Go.Proofs.Ytokijkinlcdjeaa

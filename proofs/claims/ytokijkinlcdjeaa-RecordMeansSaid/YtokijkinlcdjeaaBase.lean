/- Bytes in memory: what came in, what the call itself has made; lists of bytes. -/
import Derived.Test.YtokijkinlcdjeaaRows
import Derived.WalkKit
import Derived.WalkSpells
import Derived.WalkLawsBesides
import Derived.Deep.WholeRow
import Derived.Lib.Hide
import Derived.Deep.MidRow
import Derived.Laws.CopyOwn
import Derived.Lib.SlBytesConst
import Derived.Deep.RegionHeld3
import Derived.Deep.RegionLaw
import Derived.Deep.Cut
import Derived.Deep.CutBlock
namespace Go.Proofs.Ytokijkinlcdjeaa
open Go.RowKit

theorem Below.cellSome {w w' : World} (h : Below w.heap.size w w') {p : Addr} {v : Value} (hp : w.cell? p = some v) : w'.cell? p = some v :=
  (h.cell (block_lt_of_cell hp)).trans hp
theorem below_alloc (w : World) (o : Obj) : Below w.heap.size w (w.alloc o) := (Below.refl _ _).alloc (Nat.le_refl _) _
structure Bs (w : World) (a : Option Addr) (l : List UInt8) : Prop where
  addr : l ≠ [] → ∃ b o, a = some ⟨b, o, none⟩
  cell : ∀ b o, a = some ⟨b, o, none⟩ → ∀ i (h : i < l.length), w.cell? ⟨b, o + i, none⟩ = some (.int .u8 (l[i].toNat : Int))
theorem Bs.below {w w' : World} {a : Option Addr} {l : List UInt8} (h : Bs w a l) (hb : Below w.heap.size w w') : Bs w' a l :=
  ⟨h.addr, fun b o e i hi => Below.cellSome hb (h.cell b o e i hi)⟩
theorem Bs.ex {w : World} {a : Option Addr} {l : List UInt8} (h : Bs w a l) {k : Nat} (hk : k < l.length) : ∃ b o, a = some ⟨b, o, none⟩ :=
  h.addr (by intro e; rw [e] at hk; simp at hk)
structure BBs (w : World) (a : Option Addr) (L : List (List UInt8)) : Prop where
  addr : L ≠ [] → ∃ b o, a = some ⟨b, o, none⟩
  cell : ∀ b o, a = some ⟨b, o, none⟩ → ∀ i (h : i < L.length), ∃ ai ci, w.cell? ⟨b, o + i, none⟩ = some (.slice ai (L[i]).length ci) ∧ Bs w ai (L[i]) ∧ (L[i]).length ≤ 9223372036854775807 ∧ (ai = none → ci = 0)
theorem BBs.below {w w' : World} {a : Option Addr} {L : List (List UInt8)} (h : BBs w a L) (hb : Below w.heap.size w w') : BBs w' a L :=
  ⟨h.addr, fun b o e i hi => let ⟨ai, ci, h1, h2, h3⟩ := h.cell b o e i hi; ⟨ai, ci, Below.cellSome hb h1, h2.below hb, h3⟩⟩
theorem BBs.ex {w : World} {a : Option Addr} {l : List (List UInt8)} (h : BBs w a l) {k : Nat} (hk : k < l.length) : ∃ b o, a = some ⟨b, o, none⟩ :=
  h.addr (by intro e; rw [e] at hk; simp at hk)
theorem take_snoc {α : Type} (l : List α) (k : Nat) (h : k < l.length) : l.take (k + 1) = l.take k ++ [l[k]] := by
  rw [List.take_succ_eq_append_getElem h]
theorem xor_u8_nat (a b : Nat) (ha : a < 256) (hb : b < 256) : bits .xor .u8 (a : Int) (b : Int) = ((a ^^^ b : Nat) : Int) := by
  have hx : a ^^^ b < 2 ^ 8 := Nat.xor_lt_two_pow (by omega) (by omega)
  have h1 : (BitVec.ofInt 8 (a : Int)).toNat = a := by
    rw [BitVec.ofInt_natCast, BitVec.toNat_ofNat]; exact Nat.mod_eq_of_lt (by omega)
  have h2 : (BitVec.ofInt 8 (b : Int)).toNat = b := by
    rw [BitVec.ofInt_natCast, BitVec.toNat_ofNat]; exact Nat.mod_eq_of_lt (by omega)
  show IntKind.u8.wrap ((BitVec.ofInt 8 (a : Int) ^^^ BitVec.ofInt 8 (b : Int)).toNat : Int) = _
  rw [BitVec.toNat_xor, h1, h2, IntKind.wrap_u8]
  omega
theorem BBs_one {w : World} {a : Option Addr} {cap : Nat} {l : List UInt8} (h : Bs w a l) (hlen : l.length ≤ 9223372036854775807) (hn : a = none → cap = 0) :
    BBs (w.alloc (.cells #[.slice a l.length cap] 24)) (some ⟨w.heap.size, 0, none⟩) [l] :=
  ⟨fun _ => ⟨_, _, rfl⟩, fun b o e i hi => by
    obtain ⟨rfl, rfl, _⟩ := e
    obtain rfl : i = 0 := by simp at hi; omega
    exact ⟨a, cap, by rw [cell_of_row _ _ _ _ _ _ (heap_alloc_new _ _)]; rfl, h.below (below_alloc _ _), hlen, hn⟩⟩
theorem flatten_take_snoc (L : List (List UInt8)) (k : Nat) (h : k < L.length) : (L.take (k + 1)).flatten = (L.take k).flatten ++ L[k] := by
  rw [take_snoc L k h, List.flatten_append, List.flatten_cons, List.flatten_nil, List.append_nil]
theorem belT {w a b : World} (h : Below w.heap.size w a) (k : Below a.heap.size a b) : Below w.heap.size w b := h.trans (k.mono h.size)
theorem Bs_of_heap {w : World} {b : Nat} {t : TypeId} {fr : Nat × Nat} {l : List UInt8} {c : Array Value} (h : w.heap[b]? = some (.cells c t fr)) (hc : ∀ i (h : i < l.length), c[i]? = some (.int .u8 (l[i].toNat : Int))) :
    Bs w (some ⟨b, 0, none⟩) l :=
  ⟨fun _ => ⟨_, _, rfl⟩, fun b' o' e i hi => by
    obtain ⟨rfl, rfl, _⟩ := e
    rw [Nat.zero_add, cell_of_row _ _ _ _ _ _ h]; exact hc i hi⟩
def u8s (l : List UInt8) : Array Value := (l.map fun c => Value.int .u8 (c.toNat : Int)).toArray
theorem u8s_get (l : List UInt8) (i : Nat) (h : i < l.length) : (u8s l)[i]? = some (.int .u8 (l[i].toNat : Int)) := by
  simp [u8s, h]
theorem Bs_alloc (w : World) (l : List UInt8) (c : Array Value) (t : TypeId) (fr : Nat × Nat) (n : Nat) (hc : c = u8s l) (hn : n = w.heap.size) : Bs (w.alloc (.cells c t fr)) (some ⟨n, 0, none⟩) l := by
  subst hc; subst hn
  exact Bs_of_heap (heap_alloc_new _ _) (u8s_get l)
theorem BBs_two {w : World} {a b : Option Addr} {ca cb n : Nat} {l m : List UInt8} (hn : n = w.heap.size) (h : Bs w a l) (h' : Bs w b m) (hl : l.length ≤ 9223372036854775807) (hm : m.length ≤ 9223372036854775807) (hna : a = none → ca = 0) (hnb : b = none → cb = 0) :
    BBs (w.alloc (.cells #[.slice a l.length ca, .slice b m.length cb] 24)) (some ⟨n, 0, none⟩) [l, m] := by
  subst hn
  exact ⟨fun _ => ⟨_, _, rfl⟩, fun b' o e i hi => by
    obtain ⟨rfl, rfl, _⟩ := e
    have : i = 0 ∨ i = 1 := by simp at hi; omega
    rcases this with rfl | rfl
    · exact ⟨a, ca, by rw [cell_of_row _ _ _ _ _ _ (heap_alloc_new _ _)]; rfl, h.below (below_alloc _ _), hl, hna⟩
    · exact ⟨b, cb, by rw [cell_of_row _ _ _ _ _ _ (heap_alloc_new _ _)]; rfl, h'.below (below_alloc _ _), hm, hnb⟩⟩
theorem BBs_one' {w : World} {a : Option Addr} {cap n : Nat} {l : List UInt8} (hn : n = w.heap.size) (h : Bs w a l) (hlen : l.length ≤ 9223372036854775807) (hna : a = none → cap = 0) :
    BBs (w.alloc (.cells #[.slice a l.length cap] 24)) (some ⟨n, 0, none⟩) [l] := by
  subst hn; exact BBs_one h hlen hna
theorem cell_setCell_other {w : World} {q k b o : Nat} {v : Value} (h : q ≠ b) : (w.setCell ⟨q, k, none⟩ v).cell? ⟨b, o, none⟩ = w.cell? ⟨b, o, none⟩ :=
  World.cell?_of_block (w := w) (Below.heap_setCell _ _ _ _ (show b ≠ q from fun e => h e.symm))
/-! ### bytes that the call itself has made -/
def bv (l : List UInt8) : List Value := l.map fun c => .int .u8 (c.toNat : Int)
theorem bv_length (l : List UInt8) : (bv l).length = l.length := by simp [bv]
theorem bv_get (l : List UInt8) (i : Nat) (h : i < l.length) : (bv l)[i]? = some (.int .u8 (l[i].toNat : Int)) := by simp [bv, h]
theorem bv_append (l m : List UInt8) : bv (l ++ m) = bv l ++ bv m := by simp [bv]
theorem bv_one (l : List UInt8) : ∀ u ∈ bv l, u.oneCell' = true := by
  intro u hu
  simp [bv] at hu
  obtain ⟨c, _, rfl⟩ := hu
  rfl
def OwnB (w : World) (base : Nat) (v : Value) (l : List UInt8) : Prop := w.ownsRow base 5 1 v l.length (bv l)
theorem OwnB.nil (w : World) (base : Nat) : OwnB w base (.slice none 0 0) [] := World.ownsRow_nil _ _ _ _
theorem OwnB.form {w : World} {base : Nat} {v : Value} {l : List UInt8} (h : OwnB w base v l) : ∃ a cap, v = .slice a l.length cap ∧ Bs w a l ∧ l.length ≤ cap ∧ (∀ x, a = some x → ∃ g, x = ⟨g, 0, none⟩ ∧ base ≤ g ∧ g < w.heap.size) := by
  have hc := h
  rcases h.2 with ⟨rfl, h0⟩ | ⟨g, cap, cur, rfl, hb, hg, hn, hm, hs, ht⟩
  · have : l = [] := List.eq_nil_of_length_eq_zero h0
    subst this
    exact ⟨none, 0, rfl, ⟨fun h => absurd rfl h, fun b o e => by cases e⟩, Nat.le_refl _, fun x e => by cases e⟩
  · refine ⟨_, cap, rfl, ⟨fun _ => ⟨_, _, rfl⟩, fun b o e i hi => ?_⟩, hn, fun x e => ⟨g, by simpa using e.symm, hb, lt_of_block hg⟩⟩
    obtain ⟨rfl, rfl, _⟩ := e
    rw [Nat.zero_add, hc.cellAt i (by omega)]
    exact bv_get l i hi
theorem info5' : (Try.prog.info? 5).map (fun i => (i.zero, i.size, i.bytes)) = some (some (.int .u8 0), 1, 1) := by kernel_rfl
theorem madeCells_u8 (n : Nat) : (madeCells (Value.int .u8 0).cells (n * 1)).toList = bv (List.replicate n 0) := by
  rw [Nat.mul_one]
  show (madeCells #[Value.int .u8 0] n).toList = _
  rw [toList_madeCells_one]; simp [bv]
theorem run_make_b (w : World) (base n : Nat) (b2 : n ≤ 281474976710656) (b4 : base ≤ w.heap.size) :
    ∃ w', (Instr.makeSlice 24 (.int .i64 n) (.int .i64 n)).run Try.prog w = .ok (.slice (some ⟨w.heap.size, 0, none⟩) n n) w' ∧ OwnB w' base (.slice (some ⟨w.heap.size, 0, none⟩) n n) (List.replicate n 0) ∧ w.grownBy w' none := by
  obtain ⟨i0, hi, hz0, hz1, hz2⟩ := info_parts info5'
  obtain ⟨w', h1, h2, h3⟩ := run_make_full (P := Try.prog) w base 24 5 i0 (.int .u8 0) 1 Try.underlying24 hi hz0 hz1 .i64 .i64 n (by rw [hz2]; omega) (by unfold maxLen; omega) b4
  refine ⟨w', h1, ?_, h3⟩
  unfold OwnB
  rw [List.length_replicate, ← madeCells_u8]
  exact h2
theorem run_append_b (w : World) (base : Nat) (ty : TypeId) (v : Value) (l : List UInt8) (h : OwnB w base v l) (a : Option Addr) (m : List UInt8) (c : Nat) (hm : Bs w a m) (hn : a = none → c = 0)
    (hlen : l.length + m.length ≤ 140737488355328) (hb : base ≤ w.heap.size) :
    ∃ v' w', (Builtin.append_ #[24, 24] ty #[v, .slice a m.length c]).run Try.prog w = .ok v' w' ∧ OwnB w' base v' (l ++ m) ∧ w.grownBy w' v.ownBlock := by
  obtain ⟨i0, hi, hz0, hz1, hz2⟩ := info_parts info5'
  cases a with
  | none =>
    have e : m = [] := by
      cases m with
      | nil => rfl
      | cons x m => obtain ⟨_, _, h⟩ := hm.addr (by simp); cases h
    subst e
    obtain rfl := hn rfl
    have := run_append_owned_none (P := Try.prog) (w := w) base 24 ty 5 i0 1 Try.underlying24 hi v l.length (bv l) h
    refine ⟨v, w, by simpa using this, by simpa using h, ⟨rfl, rfl, rfl, Nat.le_refl _, fun _ _ _ => rfl⟩⟩
  | some ad =>
    have hnews : ∀ j u, (bv m)[j]? = some u → w.cell? (ad.add j) = some u := by
      intro j u hj
      have hjl : j < m.length := by
        have := (List.getElem?_eq_some_iff.1 hj).1; rwa [bv_length] at this
      obtain ⟨b, o, e⟩ := hm.ex hjl
      cases e
      rw [Addr.add_mid, hm.cell b o rfl j hjl, ← hj, bv_get m j hjl]
    obtain ⟨v', w', h1, h2, h3, _⟩ := run_append_own (P := Try.prog) w base 24 ty 5 i0 (.int .u8 0) 1 1 Try.underlying24 hi hz0 hz1 hz2 rfl (by decide) v l.length (bv l) h ad m.length c (bv m) (by rw [bv_length]; omega) hnews (bv_one m)
      (by unfold maxLen; omega) (by omega) hb
    refine ⟨v', w', h1, ?_, h3⟩
    unfold OwnB
    rw [bv_append, List.length_append]
    exact h2
def str (l : List UInt8) : ByteArray := ⟨l.toArray⟩
theorem conv_str (a : Option Addr) (c : Nat) (l : List UInt8) (w : World) (h : Bs w a l) : (convert 24 9 (.slice a l.length c)).run Try.prog w = .ok (.string (str l)) w := by
  cases a with
  | none =>
    have e : l = [] := by
      cases l with
      | nil => rfl
      | cons x l => obtain ⟨_, _, h⟩ := h.addr (by simp); cases h
    subst e
    exact run_convert_bytes_nil w 24 5 Try.underlying24 Try.underlying5 _ _ 9 Try.underlying9
  | some x =>
    rw [run_convert_bytes_string w 24 9 5 _ _ _ Try.underlying24 Try.underlying5 Try.underlying9]
    rw [run_bytesToString w x l.length c (l.map fun c => (c.toNat : Int))]
    · congr 2
      have : ∀ (l : List UInt8) (s : ByteArray), (l.map fun c => (c.toNat : Int)).foldl (fun r n => r.push (UInt8.ofNat n.toNat)) s = ⟨s.data ++ l.toArray⟩ := by
        intro l
        induction l with
        | nil => intro s; simp
        | cons c l ih =>
          intro s
          rw [List.map_cons, List.foldl_cons, ih]
          simp [ByteArray.push]
      rw [this]; simp [str]
    · have := run_loadCells_list (P := Try.prog) w x (bv l) (fun j v hj => by
        have hjl : j < l.length := by
          have := (List.getElem?_eq_some_iff.1 hj).1; rwa [bv_length] at this
        obtain ⟨b, o, e⟩ := h.ex hjl
        cases e
        rw [Addr.add_mid, h.cell b o rfl j hjl, ← hj, bv_get l j hjl])
      rw [bv_length] at this
      rw [this]; simp [bv]
theorem str_toList (l : List UInt8) : (str l).toList = l := ByteArray.toList_mk l
theorem str_beq (l m : List UInt8) : ((str l).toList == (str m).toList) = decide (l = m) := by
  rw [str_toList, str_toList]
  by_cases h : l = m <;> simp [h]
/-- a slice of a slice -/
theorem Bs.takeL {w : World} {a : Option Addr} {l : List UInt8} (h : Bs w a l) (k : Nat) : Bs w a (l.take k) :=
  ⟨fun hne => h.addr (by intro e; rw [e] at hne; simp at hne), fun b o e i hi => by
    rw [List.getElem_take]; exact h.cell b o e i (by simp at hi; omega)⟩
theorem Bs.dropL {w : World} {a : Option Addr} {l : List UInt8} {c : Nat} (h : Bs w a l) (k : Nat) (hc : l.length ≤ c) : Bs w (if c = k then a else Option.map (fun x => x.add k) a) (l.drop k) := by
  refine ⟨fun hne => ?_, fun b o e i hi => ?_⟩
  · have hk : k < l.length := by
      rcases Nat.lt_or_ge k l.length with h' | h'
      · exact h'
      · exact absurd (List.drop_eq_nil_of_le h') hne
    obtain ⟨b, o, rfl⟩ := h.ex hk
    rw [if_neg (by omega)]
    exact ⟨b, o + k, by rw [Option.map_some, Addr.add_mid]⟩
  · have hk : k + i < l.length := by simp at hi; omega
    obtain ⟨b', o', rfl⟩ := h.ex hk
    rw [if_neg (by omega), Option.map_some, Addr.add_mid] at e
    cases e
    rw [List.getElem_drop, Nat.add_assoc]
    exact h.cell _ _ rfl (k + i) hk
theorem wp_append_b {o : Oper} {a : Act} {w : World} {K : Act → World → Prop} {Q : Exit → Act → World → Prop} (s x : Operand)
    (ho : o.op = .call { callee := .builtin .append, args := #[s, x], argTypes := #[24, 24] }) (base : Nat) (v : Value) (l : List UInt8) (hs : a.eval s = v) (h : OwnB w base v l)
    (ad : Option Addr) (m : List UInt8) (k c : Nat) (hx : a.eval x = .slice ad k c) (hk : k = m.length) (hm : Bs w ad m) (hn : ad = none → c = 0) (hlen : l.length + m.length ≤ 140737488355328) (hb : base ≤ w.heap.size)
    (hK : ∀ v' w', OwnB w' base v' (l ++ m) → w.grownBy w' v.ownBlock → K (a.put o.dst v') w') : o.wp Try.prog a w K Q := by
  subst hk
  obtain ⟨v', w', hr, h2, h3⟩ := run_append_b w base o.type v l h ad m c hm hn hlen hb
  unfold Oper.wp execOp
  simp only [ho, resolve, invoke, builtin, Sem.run_bind, Sem.run_pure, Result.andThen_ok, List.map_toArray, List.map_cons, List.map_nil, hs, hx, hr]
  exact hK v' w' h2 h3
theorem wpList_append_b {ops : Array Oper} {rest : List Oper} {o : Oper} {a : Act} {w : World} {Q : Exit → Act → World → Prop} (hgd : o.guard = none) (s x : Operand)
    (ho : o.op = .call { callee := .builtin .append, args := #[s, x], argTypes := #[24, 24] }) (base : Nat) (v : Value) (l : List UInt8) (hs : a.eval s = v) (h : OwnB w base v l)
    (ad : Option Addr) (m : List UInt8) (k c : Nat) (hx : a.eval x = .slice ad k c) (hk : k = m.length) (hm : Bs w ad m) (hn : ad = none → c = 0) (hlen : l.length + m.length ≤ 140737488355328) (hb : base ≤ w.heap.size)
    (hK : ∀ v' w', OwnB w' base v' (l ++ m) → w.grownBy w' v.ownBlock → wpList Try.prog ops Q rest (a.put o.dst v') w') : wpList Try.prog ops Q (o :: rest) a w :=
  wpList_plain hgd fun _ hk' => wp_append_b s x ho base v l hs h ad m k c hx hk hm hn hlen hb fun v' w' h1 h2 => hk' _ _ (hK v' w' h1 h2)
theorem step_append_b {ops : Array Oper} {o : Oper} {a : Act} {w : World} {K : Act → World → Prop} {Q : Exit → Act → World → Prop} {E : Prop} (hgd : o.guard = none) (s x : Operand)
    (ho : o.op = .call { callee := .builtin .append, args := #[s, x], argTypes := #[24, 24] }) (base : Nat) (v : Value) (l : List UInt8) (hs : a.eval s = v) (h : OwnB w base v l)
    (ad : Option Addr) (m : List UInt8) (k c : Nat) (hx : a.eval x = .slice ad k c) (hk : k = m.length) (hm : Bs w ad m) (hn : ad = none → c = 0) (hlen : l.length + m.length ≤ 140737488355328) (hb : base ≤ w.heap.size)
    (hK : ∀ v' w', OwnB w' base v' (l ++ m) → w.grownBy w' v.ownBlock → K (a.put o.dst v') w') : if Region.wanted o (yielded ops a.tmps) = true then Oper.wp Try.prog o a w K Q else E := by
  rw [if_pos (by simp [Region.wanted, hgd])]
  exact wp_append_b s x ho base v l hs h ad m k c hx hk hm hn hlen hb hK
theorem wp_make_b {o : Oper} {a : Act} {w : World} {K : Act → World → Prop} {Q : Exit → Act → World → Prop} (l c : Operand) (hop : o.op = .makeSlice 24 l c) (base n : Nat) (x : Int) (hx : x = (n : Int))
    (hl : a.eval l = .int .i64 x) (hc : a.eval c = .int .i64 x) (b2 : n ≤ 281474976710656) (b4 : base ≤ w.heap.size)
    (hK : ∀ w', OwnB w' base (.slice (some ⟨w.heap.size, 0, none⟩) n n) (List.replicate n 0) → w.grownBy w' none → K (a.put o.dst (.slice (some ⟨w.heap.size, 0, none⟩) n n)) w') : o.wp Try.prog a w K Q := by
  subst hx
  obtain ⟨w', hrun, r1, r2⟩ := run_make_b w base n b2 b4
  unfold Oper.wp
  simp [execOp, hop, hl, hc, hrun, Result.andThen]
  exact hK w' r1 r2
theorem wpList_make_b {ops : Array Oper} {rest : List Oper} {o : Oper} {a : Act} {w : World} {Q : Exit → Act → World → Prop} (hgd : o.guard = none) (l c : Operand) (hop : o.op = .makeSlice 24 l c) (base n : Nat) (x : Int) (hx : x = (n : Int))
    (hl : a.eval l = .int .i64 x) (hc : a.eval c = .int .i64 x) (b2 : n ≤ 281474976710656) (b4 : base ≤ w.heap.size)
    (hK : ∀ w', OwnB w' base (.slice (some ⟨w.heap.size, 0, none⟩) n n) (List.replicate n 0) → w.grownBy w' none → wpList Try.prog ops Q rest (a.put o.dst (.slice (some ⟨w.heap.size, 0, none⟩) n n)) w') : wpList Try.prog ops Q (o :: rest) a w :=
  wpList_plain hgd fun _ hk' => wp_make_b l c hop base n x hx hl hc b2 b4 fun w' h1 h2 => hk' _ _ (hK w' h1 h2)
theorem below_grown_own {B : Nat} {w0 w w' : World} {v : Value} {l : List UInt8} (hb : Below B w0 w) (hB : B ≤ w.heap.size) (h : OwnB w B v l) (hg : w.grownBy w' v.ownBlock) : Below B w0 w' :=
  hb.grown hg hB fun k hk => (h.lt k hk).1
/-- a slice of bytes that came in -/
theorem row_bytes {w : World} {a : Option Addr} {len cap : Nat} {zs : List Int} (h : (a = none ∧ len = 0 ∧ cap = 0 ∧ zs = []) ∨
    ∃ x, a = some x ∧ len ≤ cap ∧ cap ≤ maxLen ∧ zs.length = cap ∧ (∀ i, i < zs.length → w.cell? (x.add i) = some (.int .u8 (zs.getD i 0))) ∧ ∀ n ∈ zs, (Lit.int .u8 n).wf = true) :
    ∃ l : List UInt8, l.length = len ∧ Bs w a l ∧ len ≤ cap ∧ cap ≤ 9223372036854775807 ∧ (a = none → cap = 0) := by
  rcases h with ⟨rfl, rfl, rfl, rfl⟩ | ⟨x, rfl, hl, hm, hz, hc, hw⟩
  · exact ⟨[], rfl, ⟨fun h => absurd rfl h, fun b o e => by cases e⟩, Nat.le_refl _, by omega, fun _ => rfl⟩
  · have hlen : ((zs.take len).map fun z => UInt8.ofNat z.toNat).length = len := by simp; omega
    have hsp : 0 < len → x.spot = none := fun h => by
      have := World.cell?_spot (hc 0 (by omega))
      simpa [Addr.add] using this
    refine ⟨_, hlen, ⟨fun hne => ?_, fun b o e i hi => ?_⟩, hl, by unfold maxLen at hm; omega, fun h => by cases h⟩
    · have hp : 0 < len := by
        rcases Nat.eq_zero_or_pos len with h0 | h0
        · exact absurd (List.eq_nil_of_length_eq_zero (hlen.trans h0)) hne
        · exact h0
      obtain ⟨b, o, s⟩ := x
      have := hsp hp
      simp only at this
      subst this
      exact ⟨b, o, rfl⟩
    · rw [hlen] at hi
      cases e
      have h1 := hc i (by omega)
      rw [Addr.add_mid] at h1
      rw [h1]
      have hmem : zs.getD i 0 ∈ zs := by
        rw [List.getD_eq_getElem?_getD, List.getElem?_eq_getElem (by omega : i < zs.length)]; simp
      have hwf := hw _ hmem
      simp [Lit.wf, IntKind.min, IntKind.max, IntKind.signed, IntKind.bits] at hwf
      congr 2
      rw [List.getElem_map, List.getElem_take, UInt8.toNat_ofNat']
      rw [List.getElem?_eq_getElem (by omega : i < zs.length)] at hwf
      rw [List.getD_eq_getElem?_getD, List.getElem?_eq_getElem (by omega : i < zs.length)]
      simp only [Option.getD_some] at hwf ⊢
      omega
theorem int_of {x : Int} (h : (Lit.int .i64 x).wf = true) : -9223372036854775808 ≤ x ∧ x ≤ 9223372036854775807 := by
  simp [Lit.wf, IntKind.min, IntKind.max, IntKind.signed, IntKind.bits] at h
  omega
/-- a fresh row: nothing that was there has turned -/
theorem below_grown {w w' : World} (h : w.grownBy w' none) : Below w.heap.size w w' := ⟨h.os, h.tape, h.output, h.size, fun k hk => h.block k hk (by simp)⟩
theorem xor_u8 (a b : UInt8) : bits .xor .u8 (a.toNat : Int) (b.toNat : Int) = ((a ^^^ b).toNat : Int) := by
  rw [xor_u8_nat _ _ a.toNat_lt b.toNat_lt]; simp
theorem OwnB.set {w : World} {base g cap : Nat} {l : List UInt8} {n : Nat} (hn : n = l.length) (h : OwnB w base (.slice (some ⟨g, 0, none⟩) n cap) l) (i : Nat) (hi : i < l.length) (c : UInt8) :
    OwnB (w.setCell ⟨g, i, none⟩ (.int .u8 (c.toNat : Int))) base (.slice (some ⟨g, 0, none⟩) n cap) (l.set i c) ∧ w.grownBy (w.setCell ⟨g, i, none⟩ (.int .u8 (c.toNat : Int))) (some g) := by
  subst hn
  rcases h.2 with ⟨h', _⟩ | ⟨g', cap', cur, h', hb, hg, hn, hm, hs, ht⟩
  · simp at h'
  · simp only [Value.slice.injEq, Option.some.injEq, Addr.mk.injEq, and_true, true_and] at h'
    obtain ⟨rfl, rfl⟩ := h'
    have hcur : i < cur.size := by rw [hs]; omega
    refine ⟨⟨by rw [bv_length]; simp, .inr ⟨g, cap, cur.setIfInBounds i (.int .u8 (c.toNat : Int)), by rw [List.length_set], hb, heap_setCell_same _ _ _ _ _ _ hg, by rw [List.length_set]; exact hn, hm, by simp [hs], ?_⟩⟩, ⟨rfl, rfl, rfl, by simp [World.setCell], fun k _ hne => Below.heap_setCell _ _ _ _ (fun e => hne (by rw [e]))⟩⟩
    rw [Array.toList_setIfInBounds, List.take_set, List.length_set, ht]
    simp [bv, List.map_set]
theorem OwnB.cell {w : World} {base g cap n : Nat} {l : List UInt8} (hn : n = l.length) (h : OwnB w base (.slice (some ⟨g, 0, none⟩) n cap) l) (i : Nat) (hi : i < l.length) :
    w.cell? ⟨g, i, none⟩ = some (.int .u8 (l[i].toNat : Int)) ∧ w.frozen? ⟨g, i, none⟩ = false := by
  subst hn
  refine ⟨(h.cellAt i (by omega)).trans (bv_get l i hi), ?_⟩
  rcases h.2 with ⟨h', _⟩ | ⟨g', cap', cur, h', hb, hg, _⟩
  · simp at h'
  · simp only [Value.slice.injEq, Option.some.injEq, Addr.mk.injEq, and_true, true_and] at h'
    obtain ⟨rfl, rfl⟩ := h'
    exact frozen_of_row _ _ _ _ _ hg
theorem OwnB.below {w w' : World} {base : Nat} {v : Value} {l : List UInt8} (h : OwnB w base v l) (hb : Below w.heap.size w w') : OwnB w' base v l := by
  rcases h.2 with ⟨h', h2⟩ | ⟨g', cap', cur, h', hb', hg, hr⟩
  · exact ⟨h.1, .inl ⟨h', h2⟩⟩
  · exact ⟨h.1, .inr ⟨g', cap', cur, h', hb', (hb.block _ (Array.getElem?_eq_some_iff.1 hg).1).trans hg, hr⟩⟩
theorem OwnB.head {w : World} {base : Nat} {v : Value} {l : List UInt8} {N : Nat} (h : OwnB w base v l) (hN : l.length = N) (h0 : 0 < N) :
    ∃ g cap, v = .slice (some ⟨g, 0, none⟩) N cap ∧ base ≤ g ∧ g < w.heap.size ∧ N ≤ cap := by
  subst hN
  obtain ⟨a, cap, rfl, hB, hc, hn⟩ := h.form
  obtain ⟨b, o, rfl⟩ := hB.addr (by intro e; rw [e] at h0; simp at h0)
  obtain ⟨g, e, h1, h2⟩ := hn _ rfl
  cases e
  exact ⟨b, cap, rfl, h1, h2, hc⟩
theorem OwnB.bs {w : World} {base : Nat} {a : Option Addr} {n cap : Nat} {l : List UInt8} (h : OwnB w base (.slice a n cap) l) : Bs w a l := by
  obtain ⟨a', cap', e, hB, _⟩ := h.form
  cases e; exact hB
theorem conv_N (a : Option Addr) (c N : Nat) (l : List UInt8) (hN : l.length = N) (w : World) (h : Bs w a l) : (convert 24 9 (.slice a N c)).run Try.prog w = .ok (.string (str l)) w := by
  subst hN; exact conv_str a c l w h
theorem own_row {w : World} {base g : Nat} {l : List UInt8} {N : Nat} (hN : l.length = N) (h9 : N ≤ 9000) (hg : base ≤ g) (h : w.heap[g]? = some (.cells (bv l).toArray 5 (0, 0))) : OwnB w base (.slice (some ⟨g, 0, none⟩) N N) l := by
  subst hN
  refine ⟨by rw [bv_length]; simp, .inr ⟨g, l.length, (bv l).toArray, rfl, hg, h, Nat.le_refl _, by unfold maxLen; omega, by simp [bv_length], ?_⟩⟩
  simp [List.take_of_length_le, bv_length]
theorem Bs_setCell {w : World} {g b k : Nat} {l : List UInt8} {v : Value} (h : Bs w (some ⟨b, 0, none⟩) l) (hne : g ≠ b) : Bs (w.setCell ⟨g, k, none⟩ v) (some ⟨b, 0, none⟩) l :=
  ⟨h.addr, fun b' o e i hi => by cases e; rw [cell_setCell_other hne]; exact h.cell _ _ rfl i hi⟩
theorem wpList_copy_row {w : World} {ops : Array Oper} {rest : List Oper} {o : Oper} {a : Act} {Q : Exit → Act → World → Prop} (hgd : o.guard = none) (d s : Operand)
    (ho : o.op = .call { callee := .builtin .copy, args := #[d, s], argTypes := #[24, 24] })
    (dp sp : Option Addr) (dLen dCap sLen sCap : Nat) (hd : a.eval d = .slice dp dLen dCap) (hs : a.eval s = .slice sp sLen sCap)
    (g : Nat) (cur : List Value) (t : TypeId) (hg : w.heap[g]? = some (.cells cur.toArray t (0, 0))) (cs : List Value) (hn : cs.length = Nat.min sLen dLen)
    (hpos : 0 < cs.length → dp = some ⟨g, 0, none⟩ ∧ ∃ ad, sp = some ad ∧ ∀ j v, cs[j]? = some v → w.cell? (ad.add j) = some v)
    (hfit : cs.length ≤ cur.length) (h1 : ∀ v ∈ cs, v.oneCell' = true) (B : Nat) (w0 : World) (hb : Below B w0 w) (hBg : B ≤ g)
    (h : ∀ w', Hid (w'.heap[g]? = some (.cells (splice cur 0 cs).toArray t (0, 0))) → Hid (∀ k, k ≠ g → w'.heap[k]? = w.heap[k]?) → Below B w0 w' → wpList Try.prog ops Q rest (a.put o.dst (goInt cs.length)) w') :
    wpList Try.prog ops Q (o :: rest) a w := by
  by_cases h0 : cs.length = 0
  · obtain rfl : cs = [] := List.eq_nil_of_length_eq_zero h0
    refine wpList_copy_nothing hgd d s 24 24 ho 5 Try.underlying24 (by kernel_rfl) dp sp dLen dCap sLen sCap hd hs (by simpa using hn.symm) ?_
    exact h w (show _ = _ by simpa [splice] using hg) (fun _ _ => rfl) hb
  · obtain ⟨rfl, ad, rfl, hsrc⟩ := hpos (by omega)
    refine wpList_copy_own hgd d s 24 24 ho 5 Try.underlying24 (by kernel_rfl) g 0 dLen dCap ad sLen sCap hd hs cur.toArray t hg cs hn hsrc (by simpa using hfit) h1 ?_
    exact h _ (show _ = _ by simpa [splice] using setRow_heap w g _ _ t _ hg) (fun k hk => setRow_other w g k _ hk) (below_setRow hb hBg _)
theorem BBs.belowB {B : Nat} {w w' : World} {a : Option Addr} {L : List (List UInt8)} (hs : w.heap.size = B) (h : BBs w a L) (hb : Below B w w') : BBs w' a L := by
  subst hs; exact h.below hb
end Go.Proofs.Ytokijkinlcdjeaa

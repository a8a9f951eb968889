/- Bytes that a call itself has made: make, append; bytes that came in. No condition. -/
import Derived.Test.YtfheeanpmcgajaaWalkF
namespace Go.Proofs.Ytfheeanpmcgajaa
open Go.RowKit CrcM

/-! ### bytes that the call itself has made -/
def bv (l : List UInt8) : List Value := l.map fun c => .int .u8 (c.toNat : Int)
theorem bv_length (l : List UInt8) : (bv l).length = l.length := by simp [bv]
theorem bv_get (l : List UInt8) (i : Nat) (h : i < l.length) : (bv l)[i]? = some (.int .u8 (l[i].toNat : Int)) := by simp [bv, h]
theorem bv_append (l m : List UInt8) : bv (l ++ m) = bv l ++ bv m := by simp [bv]
theorem bv_one (l : List UInt8) : ∀ u ∈ bv l, u.oneCell' = true := by
  intro u hu
  simp [bv] at hu
  obtain ⟨c, _, rfl⟩ := hu
  rfl
def OwnB (w : World) (base : Nat) (v : Value) (l : List UInt8) : Prop := w.ownsRow base 5 1 v l.length (bv l)
theorem OwnB.nil (w : World) (base : Nat) : OwnB w base (.slice none 0 0) [] := World.ownsRow_nil _ _ _ _
theorem OwnB.form {w : World} {base : Nat} {v : Value} {l : List UInt8} (h : OwnB w base v l) : ∃ a cap, v = .slice a l.length cap ∧ Bs w a l ∧ l.length ≤ cap ∧ (∀ x, a = some x → ∃ g, x = ⟨g, 0, none⟩ ∧ base ≤ g ∧ g < w.heap.size) := by
  have hc := h
  rcases h.2 with ⟨rfl, h0⟩ | ⟨g, cap, cur, rfl, hb, hg, hn, hm, hs, ht⟩
  · have : l = [] := List.eq_nil_of_length_eq_zero h0
    subst this
    exact ⟨none, 0, rfl, ⟨fun h => absurd rfl h, fun b o e => by cases e⟩, Nat.le_refl _, fun x e => by cases e⟩
  · refine ⟨_, cap, rfl, ⟨fun _ => ⟨_, _, rfl⟩, fun b o e i hi => ?_⟩, hn, fun x e => ⟨g, by simpa using e.symm, hb, lt_of_block hg⟩⟩
    obtain ⟨rfl, rfl, _⟩ := e
    rw [Nat.zero_add, hc.cellAt i (by omega)]
    exact bv_get l i hi
theorem info5' : (Try.prog.info? 5).map (fun i => (i.zero, i.size, i.bytes)) = some (some (.int .u8 0), 1, 1) := by kernel_rfl
theorem madeCells_u8 (n : Nat) : (madeCells (Value.int .u8 0).cells (n * 1)).toList = bv (List.replicate n 0) := by
  rw [Nat.mul_one]
  show (madeCells #[Value.int .u8 0] n).toList = _
  rw [toList_madeCells_one]; simp [bv]
theorem run_make_b (w : World) (base n : Nat) (b2 : n ≤ 281474976710656) (b4 : base ≤ w.heap.size) :
    ∃ w', (Instr.makeSlice 22 (.int .i64 n) (.int .i64 n)).run Try.prog w = .ok (.slice (some ⟨w.heap.size, 0, none⟩) n n) w' ∧ OwnB w' base (.slice (some ⟨w.heap.size, 0, none⟩) n n) (List.replicate n 0) ∧ w.grownBy w' none := by
  obtain ⟨i0, hi, hz0, hz1, hz2⟩ := info_parts info5'
  obtain ⟨w', h1, h2, h3⟩ := run_make_full (P := Try.prog) w base 22 5 i0 (.int .u8 0) 1 Try.underlying22 hi hz0 hz1 .i64 .i64 n (by rw [hz2]; omega) (by unfold maxLen; omega) b4
  refine ⟨w', h1, ?_, h3⟩
  unfold OwnB
  rw [List.length_replicate, ← madeCells_u8]
  exact h2
theorem run_append_b (w : World) (base : Nat) (ty : TypeId) (v : Value) (l : List UInt8) (h : OwnB w base v l) (a : Option Addr) (m : List UInt8) (c : Nat) (hm : Bs w a m) (hn : a = none → c = 0)
    (hlen : l.length + m.length ≤ 140737488355328) (hb : base ≤ w.heap.size) :
    ∃ v' w', (Builtin.append_ #[22, 22] ty #[v, .slice a m.length c]).run Try.prog w = .ok v' w' ∧ OwnB w' base v' (l ++ m) ∧ w.grownBy w' v.ownBlock := by
  obtain ⟨i0, hi, hz0, hz1, hz2⟩ := info_parts info5'
  cases a with
  | none =>
    have e : m = [] := by
      cases m with
      | nil => rfl
      | cons x m => obtain ⟨_, _, h⟩ := hm.addr (by simp); cases h
    subst e
    obtain rfl := hn rfl
    have := run_append_owned_none (P := Try.prog) (w := w) base 22 ty 5 i0 1 Try.underlying22 hi v l.length (bv l) h
    refine ⟨v, w, by simpa using this, by simpa using h, ⟨rfl, rfl, rfl, Nat.le_refl _, fun _ _ _ => rfl⟩⟩
  | some ad =>
    have hnews : ∀ j u, (bv m)[j]? = some u → w.cell? (ad.add j) = some u := by
      intro j u hj
      have hjl : j < m.length := by
        have := (List.getElem?_eq_some_iff.1 hj).1; rwa [bv_length] at this
      obtain ⟨b, o, e⟩ := hm.ex hjl
      cases e
      rw [Addr.add_mid, hm.cell b o rfl j hjl, ← hj, bv_get m j hjl]
    obtain ⟨v', w', h1, h2, h3, _⟩ := run_append_own (P := Try.prog) w base 22 ty 5 i0 (.int .u8 0) 1 1 Try.underlying22 hi hz0 hz1 hz2 rfl (by decide) v l.length (bv l) h ad m.length c (bv m) (by rw [bv_length]; omega) hnews (bv_one m)
      (by unfold maxLen; omega) (by omega) hb
    refine ⟨v', w', h1, ?_, h3⟩
    unfold OwnB
    rw [bv_append, List.length_append]
    exact h2
def str (l : List UInt8) : ByteArray := ⟨l.toArray⟩
theorem conv_str (a : Option Addr) (c : Nat) (l : List UInt8) (w : World) (h : Bs w a l) : (convert 22 9 (.slice a l.length c)).run Try.prog w = .ok (.string (str l)) w := by
  cases a with
  | none =>
    have e : l = [] := by
      cases l with
      | nil => rfl
      | cons x l => obtain ⟨_, _, h⟩ := h.addr (by simp); cases h
    subst e
    exact run_convert_bytes_nil w 22 5 Try.underlying22 Try.underlying5 _ _ 9 Try.underlying9
  | some x =>
    rw [run_convert_bytes_string w 22 9 5 _ _ _ Try.underlying22 Try.underlying5 Try.underlying9]
    rw [run_bytesToString w x l.length c (l.map fun c => (c.toNat : Int))]
    · congr 2
      have : ∀ (l : List UInt8) (s : ByteArray), (l.map fun c => (c.toNat : Int)).foldl (fun r n => r.push (UInt8.ofNat n.toNat)) s = ⟨s.data ++ l.toArray⟩ := by
        intro l
        induction l with
        | nil => intro s; simp
        | cons c l ih =>
          intro s
          rw [List.map_cons, List.foldl_cons, ih]
          simp [ByteArray.push]
      rw [this]; simp [str]
    · have := run_loadCells_list (P := Try.prog) w x (bv l) (fun j v hj => by
        have hjl : j < l.length := by
          have := (List.getElem?_eq_some_iff.1 hj).1; rwa [bv_length] at this
        obtain ⟨b, o, e⟩ := h.ex hjl
        cases e
        rw [Addr.add_mid, h.cell b o rfl j hjl, ← hj, bv_get l j hjl])
      rw [bv_length] at this
      rw [this]; simp [bv]
theorem str_toList (l : List UInt8) : (str l).toList = l := ByteArray.toList_mk l
theorem str_beq (l m : List UInt8) : ((str l).toList == (str m).toList) = decide (l = m) := by
  rw [str_toList, str_toList]
  by_cases h : l = m <;> simp [h]
/-- a slice of a slice -/
theorem Bs.takeL {w : World} {a : Option Addr} {l : List UInt8} (h : Bs w a l) (k : Nat) : Bs w a (l.take k) :=
  ⟨fun hne => h.addr (by intro e; rw [e] at hne; simp at hne), fun b o e i hi => by
    rw [List.getElem_take]; exact h.cell b o e i (by simp at hi; omega)⟩
theorem Bs.dropL {w : World} {a : Option Addr} {l : List UInt8} {c : Nat} (h : Bs w a l) (k : Nat) (hc : l.length ≤ c) : Bs w (if c = k then a else Option.map (fun x => x.add k) a) (l.drop k) := by
  refine ⟨fun hne => ?_, fun b o e i hi => ?_⟩
  · have hk : k < l.length := by
      rcases Nat.lt_or_ge k l.length with h' | h'
      · exact h'
      · exact absurd (List.drop_eq_nil_of_le h') hne
    obtain ⟨b, o, rfl⟩ := h.ex hk
    rw [if_neg (by omega)]
    exact ⟨b, o + k, by rw [Option.map_some, Addr.add_mid]⟩
  · have hk : k + i < l.length := by simp at hi; omega
    obtain ⟨b', o', rfl⟩ := h.ex hk
    rw [if_neg (by omega), Option.map_some, Addr.add_mid] at e
    cases e
    rw [List.getElem_drop, Nat.add_assoc]
    exact h.cell _ _ rfl (k + i) hk
theorem wp_append_b {o : Oper} {a : Act} {w : World} {K : Act → World → Prop} {Q : Exit → Act → World → Prop} (s x : Operand)
    (ho : o.op = .call { callee := .builtin .append, args := #[s, x], argTypes := #[22, 22] }) (base : Nat) (v : Value) (l : List UInt8) (hs : a.eval s = v) (h : OwnB w base v l)
    (ad : Option Addr) (m : List UInt8) (k c : Nat) (hx : a.eval x = .slice ad k c) (hk : k = m.length) (hm : Bs w ad m) (hn : ad = none → c = 0) (hlen : l.length + m.length ≤ 140737488355328) (hb : base ≤ w.heap.size)
    (hK : ∀ v' w', OwnB w' base v' (l ++ m) → w.grownBy w' v.ownBlock → K (a.put o.dst v') w') : o.wp Try.prog a w K Q := by
  subst hk
  obtain ⟨v', w', hr, h2, h3⟩ := run_append_b w base o.type v l h ad m c hm hn hlen hb
  unfold Oper.wp execOp
  simp only [ho, resolve, invoke, builtin, Sem.run_bind, Sem.run_pure, Result.andThen_ok, List.map_toArray, List.map_cons, List.map_nil, hs, hx, hr]
  exact hK v' w' h2 h3
theorem wpList_append_b {ops : Array Oper} {rest : List Oper} {o : Oper} {a : Act} {w : World} {Q : Exit → Act → World → Prop} (hgd : o.guard = none) (s x : Operand)
    (ho : o.op = .call { callee := .builtin .append, args := #[s, x], argTypes := #[22, 22] }) (base : Nat) (v : Value) (l : List UInt8) (hs : a.eval s = v) (h : OwnB w base v l)
    (ad : Option Addr) (m : List UInt8) (k c : Nat) (hx : a.eval x = .slice ad k c) (hk : k = m.length) (hm : Bs w ad m) (hn : ad = none → c = 0) (hlen : l.length + m.length ≤ 140737488355328) (hb : base ≤ w.heap.size)
    (hK : ∀ v' w', OwnB w' base v' (l ++ m) → w.grownBy w' v.ownBlock → wpList Try.prog ops Q rest (a.put o.dst v') w') : wpList Try.prog ops Q (o :: rest) a w :=
  wpList_plain hgd fun _ hk' => wp_append_b s x ho base v l hs h ad m k c hx hk hm hn hlen hb fun v' w' h1 h2 => hk' _ _ (hK v' w' h1 h2)
theorem step_append_b {ops : Array Oper} {o : Oper} {a : Act} {w : World} {K : Act → World → Prop} {Q : Exit → Act → World → Prop} {E : Prop} (hgd : o.guard = none) (s x : Operand)
    (ho : o.op = .call { callee := .builtin .append, args := #[s, x], argTypes := #[22, 22] }) (base : Nat) (v : Value) (l : List UInt8) (hs : a.eval s = v) (h : OwnB w base v l)
    (ad : Option Addr) (m : List UInt8) (k c : Nat) (hx : a.eval x = .slice ad k c) (hk : k = m.length) (hm : Bs w ad m) (hn : ad = none → c = 0) (hlen : l.length + m.length ≤ 140737488355328) (hb : base ≤ w.heap.size)
    (hK : ∀ v' w', OwnB w' base v' (l ++ m) → w.grownBy w' v.ownBlock → K (a.put o.dst v') w') : if Region.wanted o (yielded ops a.tmps) = true then Oper.wp Try.prog o a w K Q else E := by
  rw [if_pos (by simp [Region.wanted, hgd])]
  exact wp_append_b s x ho base v l hs h ad m k c hx hk hm hn hlen hb hK
theorem wp_make_b {o : Oper} {a : Act} {w : World} {K : Act → World → Prop} {Q : Exit → Act → World → Prop} (l c : Operand) (hop : o.op = .makeSlice 22 l c) (base n : Nat) (x : Int) (hx : x = (n : Int))
    (hl : a.eval l = .int .i64 x) (hc : a.eval c = .int .i64 x) (b2 : n ≤ 281474976710656) (b4 : base ≤ w.heap.size)
    (hK : ∀ w', OwnB w' base (.slice (some ⟨w.heap.size, 0, none⟩) n n) (List.replicate n 0) → w.grownBy w' none → K (a.put o.dst (.slice (some ⟨w.heap.size, 0, none⟩) n n)) w') : o.wp Try.prog a w K Q := by
  subst hx
  obtain ⟨w', hrun, r1, r2⟩ := run_make_b w base n b2 b4
  unfold Oper.wp
  simp [execOp, hop, hl, hc, hrun, Result.andThen]
  exact hK w' r1 r2
theorem wpList_make_b {ops : Array Oper} {rest : List Oper} {o : Oper} {a : Act} {w : World} {Q : Exit → Act → World → Prop} (hgd : o.guard = none) (l c : Operand) (hop : o.op = .makeSlice 22 l c) (base n : Nat) (x : Int) (hx : x = (n : Int))
    (hl : a.eval l = .int .i64 x) (hc : a.eval c = .int .i64 x) (b2 : n ≤ 281474976710656) (b4 : base ≤ w.heap.size)
    (hK : ∀ w', OwnB w' base (.slice (some ⟨w.heap.size, 0, none⟩) n n) (List.replicate n 0) → w.grownBy w' none → wpList Try.prog ops Q rest (a.put o.dst (.slice (some ⟨w.heap.size, 0, none⟩) n n)) w') : wpList Try.prog ops Q (o :: rest) a w :=
  wpList_plain hgd fun _ hk' => wp_make_b l c hop base n x hx hl hc b2 b4 fun w' h1 h2 => hk' _ _ (hK w' h1 h2)
theorem below_grown_own {B : Nat} {w0 w w' : World} {v : Value} {l : List UInt8} (hb : Below B w0 w) (hB : B ≤ w.heap.size) (h : OwnB w B v l) (hg : w.grownBy w' v.ownBlock) : Below B w0 w' :=
  hb.grown hg hB fun k hk => (h.lt k hk).1
/-- a slice of bytes that came in -/
theorem row_bytes {w : World} {a : Option Addr} {len cap : Nat} {zs : List Int} (h : (a = none ∧ len = 0 ∧ cap = 0 ∧ zs = []) ∨
    ∃ x, a = some x ∧ len ≤ cap ∧ cap ≤ maxLen ∧ zs.length = cap ∧ (∀ i, i < zs.length → w.cell? (x.add i) = some (.int .u8 (zs.getD i 0))) ∧ ∀ n ∈ zs, (Lit.int .u8 n).wf = true) :
    ∃ l : List UInt8, l.length = len ∧ Bs w a l ∧ len ≤ cap ∧ cap ≤ 9223372036854775807 ∧ (a = none → cap = 0) := by
  rcases h with ⟨rfl, rfl, rfl, rfl⟩ | ⟨x, rfl, hl, hm, hz, hc, hw⟩
  · exact ⟨[], rfl, ⟨fun h => absurd rfl h, fun b o e => by cases e⟩, Nat.le_refl _, by omega, fun _ => rfl⟩
  · have hlen : ((zs.take len).map fun z => UInt8.ofNat z.toNat).length = len := by simp; omega
    have hsp : 0 < len → x.spot = none := fun h => by
      have := World.cell?_spot (hc 0 (by omega))
      simpa [Addr.add] using this
    refine ⟨_, hlen, ⟨fun hne => ?_, fun b o e i hi => ?_⟩, hl, by unfold maxLen at hm; omega, fun h => by cases h⟩
    · have hp : 0 < len := by
        rcases Nat.eq_zero_or_pos len with h0 | h0
        · exact absurd (List.eq_nil_of_length_eq_zero (hlen.trans h0)) hne
        · exact h0
      obtain ⟨b, o, s⟩ := x
      have := hsp hp
      simp only at this
      subst this
      exact ⟨b, o, rfl⟩
    · rw [hlen] at hi
      cases e
      have h1 := hc i (by omega)
      rw [Addr.add_mid] at h1
      rw [h1]
      have hmem : zs.getD i 0 ∈ zs := by
        rw [List.getD_eq_getElem?_getD, List.getElem?_eq_getElem (by omega : i < zs.length)]; simp
      have hwf := hw _ hmem
      simp [Lit.wf, IntKind.min, IntKind.max, IntKind.signed, IntKind.bits] at hwf
      congr 2
      rw [List.getElem_map, List.getElem_take, UInt8.toNat_ofNat']
      rw [List.getElem?_eq_getElem (by omega : i < zs.length)] at hwf
      rw [List.getD_eq_getElem?_getD, List.getElem?_eq_getElem (by omega : i < zs.length)]
      simp only [Option.getD_some] at hwf ⊢
      omega
theorem word_of {x : Int} (h : (Lit.int .u32 x).wf = true) : ∃ s : W, x = c32 s := by
  simp [Lit.wf, IntKind.min, IntKind.max, IntKind.signed, IntKind.bits] at h
  refine ⟨BitVec.ofNat 32 x.toNat, ?_⟩
  rw [← c32_lit _ (by omega)]; omega
theorem int_of {x : Int} (h : (Lit.int .i64 x).wf = true) : -9223372036854775808 ≤ x ∧ x ≤ 9223372036854775807 := by
  simp [Lit.wf, IntKind.min, IntKind.max, IntKind.signed, IntKind.bits] at h
  omega
/-- a fresh row: nothing that was there has turned -/
theorem below_grown {w w' : World} (h : w.grownBy w' none) : Below w.heap.size w w' := ⟨h.os, h.tape, h.output, h.size, fun k hk => h.block k hk (by simp)⟩
end Go.Proofs.Ytfheeanpmcgajaa

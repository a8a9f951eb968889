/- Lists of uint64 in memory; appends that say where the new block lies; slices.Equal; what is asked of numbers. -/
import Derived.Test.YtokijkinlcdjeaaWalkH
import Derived.Maps.AppendAt
namespace Go.Proofs.Ytokijkinlcdjeaa
open Go.RowKit WireM

structure Us (w : World) (a : Option Addr) (l : List Nat) : Prop where
  addr : l ≠ [] → ∃ b o, a = some ⟨b, o, none⟩
  cell : ∀ b o, a = some ⟨b, o, none⟩ → ∀ i (h : i < l.length), w.cell? ⟨b, o + i, none⟩ = some (.int .u64 (l[i] : Int))
theorem Us.below {w w' : World} {a : Option Addr} {l : List Nat} (h : Us w a l) (hb : Below w.heap.size w w') : Us w' a l :=
  ⟨h.addr, fun b o e i hi => Below.cellSome hb (h.cell b o e i hi)⟩
theorem Us.ex {w : World} {a : Option Addr} {l : List Nat} (h : Us w a l) {k : Nat} (hk : k < l.length) : ∃ b o, a = some ⟨b, o, none⟩ :=
  h.addr (by intro e; rw [e] at hk; simp at hk)
def uv (l : List Nat) : List Value := l.map fun c => .int .u64 ((c : Nat) : Int)
theorem uv_length (l : List Nat) : (uv l).length = l.length := by simp [uv]
theorem uv_get (l : List Nat) (i : Nat) (h : i < l.length) : (uv l)[i]? = some (.int .u64 (l[i] : Int)) := by simp [uv, h]
theorem uv_append (l m : List Nat) : uv (l ++ m) = uv l ++ uv m := by simp [uv]
theorem uv_one (l : List Nat) : ∀ u ∈ uv l, u.oneCell' = true := by
  intro u hu
  simp [uv] at hu
  obtain ⟨c, _, rfl⟩ := hu
  rfl
def OwnU (w : World) (base : Nat) (v : Value) (l : List Nat) : Prop := w.ownsRow base 23 1 v l.length (uv l)
theorem OwnU.nil (w : World) (base : Nat) : OwnU w base (.slice none 0 0) [] := World.ownsRow_nil _ _ _ _
theorem OwnU.form {w : World} {base : Nat} {v : Value} {l : List Nat} (h : OwnU w base v l) : ∃ a cap, v = .slice a l.length cap ∧ Us w a l ∧ l.length ≤ cap ∧ (∀ x, a = some x → ∃ g, x = ⟨g, 0, none⟩ ∧ base ≤ g ∧ g < w.heap.size) := by
  have hc := h
  rcases h.2 with ⟨rfl, h0⟩ | ⟨g, cap, cur, rfl, hb, hg, hn, hm, hs, ht⟩
  · have : l = [] := List.eq_nil_of_length_eq_zero h0
    subst this
    exact ⟨none, 0, rfl, ⟨fun h => absurd rfl h, fun b o e => by cases e⟩, Nat.le_refl _, fun x e => by cases e⟩
  · refine ⟨_, cap, rfl, ⟨fun _ => ⟨_, _, rfl⟩, fun b o e i hi => ?_⟩, hn, fun x e => ⟨g, by simpa using e.symm, hb, lt_of_block hg⟩⟩
    obtain ⟨rfl, rfl, _⟩ := e
    rw [Nat.zero_add, hc.cellAt i (by omega)]
    exact uv_get l i hi
theorem info23' : (Try.prog.info? 23).map (fun i => (i.zero, i.size, i.bytes)) = some (some (.int .u64 0), 1, 8) := by kernel_rfl
theorem run_append_u (w : World) (base : Nat) (ty : TypeId) (v : Value) (l : List Nat) (h : OwnU w base v l) (a : Option Addr) (m : List Nat) (c : Nat) (hm : Us w a m) (hn : a = none → c = 0)
    (hlen : l.length + m.length ≤ 17592186044416) (hb : base ≤ w.heap.size) :
    ∃ v' w', (Builtin.append_ #[25, 25] ty #[v, .slice a m.length c]).run Try.prog w = .ok v' w' ∧ OwnU w' base v' (l ++ m) ∧ w.grownBy w' v.ownBlock := by
  obtain ⟨i0, hi, hz0, hz1, hz2⟩ := info_parts info23'
  cases a with
  | none =>
    have e : m = [] := by
      cases m with
      | nil => rfl
      | cons x m => obtain ⟨_, _, h⟩ := hm.addr (by simp); cases h
    subst e
    obtain rfl := hn rfl
    have := run_append_owned_none (P := Try.prog) (w := w) base 25 ty 23 i0 1 Try.underlying25 hi v l.length (uv l) h
    refine ⟨v, w, by simpa using this, by simpa using h, ⟨rfl, rfl, rfl, Nat.le_refl _, fun _ _ _ => rfl⟩⟩
  | some ad =>
    have hnews : ∀ j u, (uv m)[j]? = some u → w.cell? (ad.add j) = some u := by
      intro j u hj
      have hjl : j < m.length := by
        have := (List.getElem?_eq_some_iff.1 hj).1; rwa [uv_length] at this
      obtain ⟨b, o, e⟩ := hm.ex hjl
      cases e
      rw [Addr.add_mid, hm.cell b o rfl j hjl, ← hj, uv_get m j hjl]
    obtain ⟨v', w', h1, h2, h3, _⟩ := run_append_own (P := Try.prog) w base 25 ty 23 i0 (.int .u64 0) 1 8 Try.underlying25 hi hz0 hz1 hz2 rfl (by decide) v l.length (uv l) h ad m.length c (uv m) (by rw [uv_length]; omega) hnews (uv_one m)
      (by unfold maxLen; omega) (by omega) hb
    refine ⟨v', w', h1, ?_, h3⟩
    unfold OwnU
    rw [uv_append, List.length_append]
    exact h2
theorem OwnU.below {w w' : World} {base : Nat} {v : Value} {l : List Nat} (h : OwnU w base v l) (hb : Below w.heap.size w w') : OwnU w' base v l := by
  rcases h.2 with ⟨h', h2⟩ | ⟨g', cap', cur, h', hb', hg, hr⟩
  · exact ⟨h.1, .inl ⟨h', h2⟩⟩
  · exact ⟨h.1, .inr ⟨g', cap', cur, h', hb', (hb.block _ (Array.getElem?_eq_some_iff.1 hg).1).trans hg, hr⟩⟩
theorem OwnU.bs {w : World} {base : Nat} {a : Option Addr} {n cap : Nat} {l : List Nat} (h : OwnU w base (.slice a n cap) l) : Us w a l := by
  obtain ⟨a', cap', e, hB, _⟩ := h.form
  cases e; exact hB
theorem OwnU.mono {w : World} {base base' : Nat} {v : Value} {l : List Nat} (h : OwnU w base v l) (hb : base' ≤ base) : OwnU w base' v l := by
  rcases h.2 with ⟨h', h2⟩ | ⟨g', cap', cur, h', hg', hr⟩
  · exact ⟨h.1, .inl ⟨h', h2⟩⟩
  · exact ⟨h.1, .inr ⟨g', cap', cur, h', Nat.le_trans hb hg', hr⟩⟩
theorem run_append_b_at (w : World) (base : Nat) (ty : TypeId) (v : Value) (l : List UInt8) (h : OwnB w base v l) (a : Option Addr) (m : List UInt8) (c : Nat) (hm : Bs w a m) (hn : a = none → c = 0)
    (hlen : l.length + m.length ≤ 140737488355328) (hb : base ≤ w.heap.size) :
    ∃ v' w', (Builtin.append_ #[24, 24] ty #[v, .slice a m.length c]).run Try.prog w = .ok v' w' ∧ OwnB w' base v' (l ++ m) ∧ w.grownBy w' v.ownBlock ∧ (v'.ownBlock = v.ownBlock ∨ v'.ownBlock = some w.heap.size) := by
  obtain ⟨i0, hi, hz0, hz1, hz2⟩ := info_parts info5'
  cases a with
  | none =>
    have e : m = [] := by
      cases m with
      | nil => rfl
      | cons x m => obtain ⟨_, _, h⟩ := hm.addr (by simp); cases h
    subst e
    obtain rfl := hn rfl
    have := run_append_owned_none (P := Try.prog) (w := w) base 24 ty 5 i0 1 Try.underlying24 hi v l.length (bv l) h
    refine ⟨v, w, by simpa using this, by simpa using h, ⟨rfl, rfl, rfl, Nat.le_refl _, fun _ _ _ => rfl⟩, .inl rfl⟩
  | some ad =>
    have hnews : ∀ j u, (bv m)[j]? = some u → w.cell? (ad.add j) = some u := by
      intro j u hj
      have hjl : j < m.length := by
        have := (List.getElem?_eq_some_iff.1 hj).1; rwa [bv_length] at this
      obtain ⟨b, o, e⟩ := hm.ex hjl
      cases e
      rw [Addr.add_mid, hm.cell b o rfl j hjl, ← hj, bv_get m j hjl]
    obtain ⟨v', w', h1, h2, h3, _, h5⟩ := run_append_own_at (P := Try.prog) (w := w) base 24 ty 5 i0 (.int .u8 0) 1 1 Try.underlying24 hi hz0 hz1 hz2 rfl (by decide) v l.length (bv l) h ad m.length c (bv m) (by rw [bv_length]; omega) hnews (bv_one m)
      (by unfold maxLen; omega) (by omega) hb
    refine ⟨v', w', h1, ?_, h3, h5⟩
    unfold OwnB
    rw [bv_append, List.length_append]
    exact h2
theorem wp_append_b_at {o : Oper} {a : Act} {w : World} {K : Act → World → Prop} {Q : Exit → Act → World → Prop} (s x : Operand)
    (ho : o.op = .call { callee := .builtin .append, args := #[s, x], argTypes := #[24, 24] }) (base : Nat) (v : Value) (l : List UInt8) (hs : a.eval s = v) (h : OwnB w base v l)
    (ad : Option Addr) (m : List UInt8) (k c : Nat) (hx : a.eval x = .slice ad k c) (hk : k = m.length) (hm : Bs w ad m) (hn : ad = none → c = 0) (hlen : l.length + m.length ≤ 140737488355328) (hb : base ≤ w.heap.size)
    (hK : ∀ v' w', OwnB w' base v' (l ++ m) → w.grownBy w' v.ownBlock → (v'.ownBlock = v.ownBlock ∨ v'.ownBlock = some w.heap.size) → K (a.put o.dst v') w') : o.wp Try.prog a w K Q := by
  subst hk
  obtain ⟨v', w', hr, h2, h3, h5⟩ := run_append_b_at w base o.type v l h ad m c hm hn hlen hb
  unfold Oper.wp execOp
  simp only [ho, resolve, invoke, builtin, Sem.run_bind, Sem.run_pure, Result.andThen_ok, List.map_toArray, List.map_cons, List.map_nil, hs, hx, hr]
  exact hK v' w' h2 h3 h5
theorem wpList_append_b_at {ops : Array Oper} {rest : List Oper} {o : Oper} {a : Act} {w : World} {Q : Exit → Act → World → Prop} (hgd : o.guard = none) (s x : Operand)
    (ho : o.op = .call { callee := .builtin .append, args := #[s, x], argTypes := #[24, 24] }) (base : Nat) (v : Value) (l : List UInt8) (hs : a.eval s = v) (h : OwnB w base v l)
    (ad : Option Addr) (m : List UInt8) (k c : Nat) (hx : a.eval x = .slice ad k c) (hk : k = m.length) (hm : Bs w ad m) (hn : ad = none → c = 0) (hlen : l.length + m.length ≤ 140737488355328) (hb : base ≤ w.heap.size)
    (hK : ∀ v' w', OwnB w' base v' (l ++ m) → w.grownBy w' v.ownBlock → (v'.ownBlock = v.ownBlock ∨ v'.ownBlock = some w.heap.size) → wpList Try.prog ops Q rest (a.put o.dst v') w') : wpList Try.prog ops Q (o :: rest) a w :=
  wpList_plain hgd fun _ hk' => wp_append_b_at s x ho base v l hs h ad m k c hx hk hm hn hlen hb fun v' w' h1 h2 h3 => hk' _ _ (hK v' w' h1 h2 h3)
theorem run_append_u_at (w : World) (base : Nat) (ty : TypeId) (v : Value) (l : List Nat) (h : OwnU w base v l) (a : Option Addr) (m : List Nat) (c : Nat) (hm : Us w a m) (hn : a = none → c = 0)
    (hlen : l.length + m.length ≤ 17592186044416) (hb : base ≤ w.heap.size) :
    ∃ v' w', (Builtin.append_ #[25, 25] ty #[v, .slice a m.length c]).run Try.prog w = .ok v' w' ∧ OwnU w' base v' (l ++ m) ∧ w.grownBy w' v.ownBlock ∧ (v'.ownBlock = v.ownBlock ∨ v'.ownBlock = some w.heap.size) := by
  obtain ⟨i0, hi, hz0, hz1, hz2⟩ := info_parts info23'
  cases a with
  | none =>
    have e : m = [] := by
      cases m with
      | nil => rfl
      | cons x m => obtain ⟨_, _, h⟩ := hm.addr (by simp); cases h
    subst e
    obtain rfl := hn rfl
    have := run_append_owned_none (P := Try.prog) (w := w) base 25 ty 23 i0 1 Try.underlying25 hi v l.length (uv l) h
    refine ⟨v, w, by simpa using this, by simpa using h, ⟨rfl, rfl, rfl, Nat.le_refl _, fun _ _ _ => rfl⟩, .inl rfl⟩
  | some ad =>
    have hnews : ∀ j u, (uv m)[j]? = some u → w.cell? (ad.add j) = some u := by
      intro j u hj
      have hjl : j < m.length := by
        have := (List.getElem?_eq_some_iff.1 hj).1; rwa [uv_length] at this
      obtain ⟨b, o, e⟩ := hm.ex hjl
      cases e
      rw [Addr.add_mid, hm.cell b o rfl j hjl, ← hj, uv_get m j hjl]
    obtain ⟨v', w', h1, h2, h3, _, h5⟩ := run_append_own_at (P := Try.prog) (w := w) base 25 ty 23 i0 (.int .u64 0) 1 8 Try.underlying25 hi hz0 hz1 hz2 rfl (by decide) v l.length (uv l) h ad m.length c (uv m) (by rw [uv_length]; omega) hnews (uv_one m)
      (by unfold maxLen; omega) (by omega) hb
    refine ⟨v', w', h1, ?_, h3, h5⟩
    unfold OwnU
    rw [uv_append, List.length_append]
    exact h2
theorem wp_append_u_at {o : Oper} {a : Act} {w : World} {K : Act → World → Prop} {Q : Exit → Act → World → Prop} (s x : Operand)
    (ho : o.op = .call { callee := .builtin .append, args := #[s, x], argTypes := #[25, 25] }) (base : Nat) (v : Value) (l : List Nat) (hs : a.eval s = v) (h : OwnU w base v l)
    (ad : Option Addr) (m : List Nat) (k c : Nat) (hx : a.eval x = .slice ad k c) (hk : k = m.length) (hm : Us w ad m) (hn : ad = none → c = 0) (hlen : l.length + m.length ≤ 17592186044416) (hb : base ≤ w.heap.size)
    (hK : ∀ v' w', OwnU w' base v' (l ++ m) → w.grownBy w' v.ownBlock → (v'.ownBlock = v.ownBlock ∨ v'.ownBlock = some w.heap.size) → K (a.put o.dst v') w') : o.wp Try.prog a w K Q := by
  subst hk
  obtain ⟨v', w', hr, h2, h3, h5⟩ := run_append_u_at w base o.type v l h ad m c hm hn hlen hb
  unfold Oper.wp execOp
  simp only [ho, resolve, invoke, builtin, Sem.run_bind, Sem.run_pure, Result.andThen_ok, List.map_toArray, List.map_cons, List.map_nil, hs, hx, hr]
  exact hK v' w' h2 h3 h5
theorem wpList_append_u_at {ops : Array Oper} {rest : List Oper} {o : Oper} {a : Act} {w : World} {Q : Exit → Act → World → Prop} (hgd : o.guard = none) (s x : Operand)
    (ho : o.op = .call { callee := .builtin .append, args := #[s, x], argTypes := #[25, 25] }) (base : Nat) (v : Value) (l : List Nat) (hs : a.eval s = v) (h : OwnU w base v l)
    (ad : Option Addr) (m : List Nat) (k c : Nat) (hx : a.eval x = .slice ad k c) (hk : k = m.length) (hm : Us w ad m) (hn : ad = none → c = 0) (hlen : l.length + m.length ≤ 17592186044416) (hb : base ≤ w.heap.size)
    (hK : ∀ v' w', OwnU w' base v' (l ++ m) → w.grownBy w' v.ownBlock → (v'.ownBlock = v.ownBlock ∨ v'.ownBlock = some w.heap.size) → wpList Try.prog ops Q rest (a.put o.dst v') w') : wpList Try.prog ops Q (o :: rest) a w :=
  wpList_plain hgd fun _ hk' => wp_append_u_at s x ho base v l hs h ad m k c hx hk hm hn hlen hb fun v' w' h1 h2 h3 => hk' _ _ (hK v' w' h1 h2 h3)
set_option maxHeartbeats 800000 in
theorem EqualB (a b : Option Addr) (ca cb : Nat) (l m : List UInt8) (w : World) (ha : Bs w a l) (hb : Bs w b m) (h1 : l.length ≤ 9223372036854775807) (_ : m.length ≤ 9223372036854775807) :
    Calls Try.prog 14 #[.slice a l.length ca, .slice b m.length cb] w fun e w' => e = .returned (.bool (decide (l = m))) ∧ Below w.heap.size w w' := by
  by_cases hlen : l.length = m.length
  · go_enter Try.func14, Try.ntmps14
    go_wp2_with fail
    go_loopw [13] (fun i wr => ∃ k : Nat, k ≤ l.length ∧ i = .int .i64 k ∧ Hid (l.take k = m.take k) ∧ Below w.heap.size w wr) (fun i _ => l.length - (intOf i).toNat)
    case atStart => exact ⟨0, by omega, rfl, by simp [Hid], Below.refl _ _⟩
    case round =>
      obtain ⟨k, hk, rfl, HT, hbel⟩ := hrel
      by_cases hlt : k < l.length
      · obtain ⟨b1, o1, rfl⟩ := ha.ex hlt
        obtain ⟨b2, o2, rfl⟩ := hb.ex (k := k) (by omega)
        have c1 := (ha.below hbel).cell b1 o1 rfl k hlt
        have c2 := (hb.below hbel).cell b2 o2 rfl k (by omega)
        have t1 := Lib.hid (take_snoc l k hlt)
        have t2 := Lib.hid (take_snoc m k (by omega))
        obtain ⟨x, hx⟩ : ∃ x, l[k] = x := ⟨_, rfl⟩
        obtain ⟨y, hy⟩ : ∃ y, m[k]'(by omega) = y := ⟨_, rfl⟩
        rw [hx] at c1 t1
        rw [hy] at c2 t2
        have HX := Lib.hid hx
        have HY := Lib.hid hy
        clear hx hy
        by_cases hxy : x = y
        · subst hxy
          go_wp2_with fail
          go_big_region
          go_wp2_with fail
          go_roundw
          case rel => exact ⟨k + 1, by omega, by go_num, by rw [Hid, t1.out, t2.out, HT.out], hbel.drew⟩
          case measure => simp [intOf]; omega
        · have hne : ((x.toNat : Int) != (y.toNat : Int)) = true := by simpa using fun e => hxy (UInt8.toNat_inj.1 (by exact_mod_cast e))
          have HN := Lib.hid hxy
          clear hxy
          have HE : l ≠ m := by
            intro e
            have e1 := HX.out
            have e2 := HY.out
            apply HN.out
            rw [← e1, ← e2]
            simp [e]
          have HE := Lib.hid HE
          go_wp2_with fail
          go_big_region
          go_wp2_with fail
          go_ret
          exact ⟨by rw [decide_eq_false HE.out]; rfl, hbel.drew⟩
      · go_wp2
        go_ret
        refine ⟨?_, hbel⟩
        have e := HT.out
        rw [List.take_of_length_le (by omega), List.take_of_length_le (by omega)] at e
        simp [e]
  · have hne : ((l.length : Int) != (m.length : Int)) = true := by simpa using fun e => hlen (by exact_mod_cast e)
    go_enter Try.func14, Try.ntmps14
    rw [decide_eq_false (fun e => hlen (by rw [e]))]
    go_wp2
    go_ret
    exact ⟨rfl, Below.refl _ _⟩
set_option maxHeartbeats 800000 in
theorem EqualU (a b : Option Addr) (ca cb : Nat) (l m : List Nat) (w : World) (ha : Us w a l) (hb : Us w b m) (h1 : l.length ≤ 9223372036854775807) (_ : m.length ≤ 9223372036854775807) :
    Calls Try.prog 15 #[.slice a l.length ca, .slice b m.length cb] w fun e w' => e = .returned (.bool (decide (l = m))) ∧ Below w.heap.size w w' := by
  by_cases hlen : l.length = m.length
  · go_enter Try.func15, Try.ntmps15
    go_wp2_with fail
    go_loopw [13] (fun i wr => ∃ k : Nat, k ≤ l.length ∧ i = .int .i64 k ∧ Hid (l.take k = m.take k) ∧ Below w.heap.size w wr) (fun i _ => l.length - (intOf i).toNat)
    case atStart => exact ⟨0, by omega, rfl, by simp [Hid], Below.refl _ _⟩
    case round =>
      obtain ⟨k, hk, rfl, HT, hbel⟩ := hrel
      by_cases hlt : k < l.length
      · obtain ⟨b1, o1, rfl⟩ := ha.ex hlt
        obtain ⟨b2, o2, rfl⟩ := hb.ex (k := k) (by omega)
        have c1 := (ha.below hbel).cell b1 o1 rfl k hlt
        have c2 := (hb.below hbel).cell b2 o2 rfl k (by omega)
        have t1 := Lib.hid (take_snoc l k hlt)
        have t2 := Lib.hid (take_snoc m k (by omega))
        obtain ⟨x, hx⟩ : ∃ x, l[k] = x := ⟨_, rfl⟩
        obtain ⟨y, hy⟩ : ∃ y, m[k]'(by omega) = y := ⟨_, rfl⟩
        rw [hx] at c1 t1
        rw [hy] at c2 t2
        have HX := Lib.hid hx
        have HY := Lib.hid hy
        clear hx hy
        by_cases hxy : x = y
        · subst hxy
          go_wp2_with fail
          go_big_region
          go_wp2_with fail
          go_roundw
          case rel => exact ⟨k + 1, by omega, by go_num, by rw [Hid, t1.out, t2.out, HT.out], hbel.drew⟩
          case measure => simp [intOf]; omega
        · have hne : ((x : Int) != (y : Int)) = true := by simpa using fun e => hxy (by exact_mod_cast e)
          have HN := Lib.hid hxy
          clear hxy
          have HE : l ≠ m := by
            intro e
            have e1 := HX.out
            have e2 := HY.out
            apply HN.out
            rw [← e1, ← e2]
            simp [e]
          have HE := Lib.hid HE
          go_wp2_with fail
          go_big_region
          go_wp2_with fail
          go_ret
          exact ⟨by rw [decide_eq_false HE.out]; rfl, hbel.drew⟩
      · go_wp2
        go_ret
        refine ⟨?_, hbel⟩
        have e := HT.out
        rw [List.take_of_length_le (by omega), List.take_of_length_le (by omega)] at e
        simp [e]
  · have hne : ((l.length : Int) != (m.length : Int)) = true := by simpa using fun e => hlen (by exact_mod_cast e)
    go_enter Try.func15, Try.ntmps15
    rw [decide_eq_false (fun e => hlen (by rw [e]))]
    go_wp2
    go_ret
    exact ⟨rfl, Below.refl _ _⟩
theorem xidF (n : Nat) (w : World) : Calls Try.prog 24 #[.int .u64 n] w fun e w' => e = .returned (.bool (decide (1 ≤ n ∧ n ≤ 4000))) ∧ w = w' := by
  by_cases h1 : 1 ≤ n
  · by_cases h2 : n ≤ 4000
    · rw [decide_eq_true ⟨h1, h2⟩]
      have hd : decide ((n : Int) ≤ 4000) = true := by simp; omega
      go_enter Try.func24, Try.ntmps24
      go_wp2
      go_ret
      exact ⟨rfl, rfl⟩
    · rw [decide_eq_false (by omega)]
      have hd : decide ((n : Int) ≤ 4000) = false := by simp; omega
      go_enter Try.func24, Try.ntmps24
      go_wp2
      go_ret
      exact ⟨rfl, rfl⟩
  · rw [decide_eq_false (by omega)]
    go_enter Try.func24, Try.ntmps24
    go_wp2
    go_ret
    exact ⟨rfl, rfl⟩
def risingL (above below : Nat) : List Nat → Bool
  | [] => true
  | n :: l => decide (above < n ∧ n < below) && risingL n below l
def lastL (above : Nat) (l : List Nat) : Nat := l.foldl (fun _ n => n) above
theorem lastL_snoc (a : Nat) (l : List Nat) (x : Nat) : lastL a (l ++ [x]) = x := by simp [lastL]
theorem rising_snoc (a b : Nat) (l : List Nat) (x : Nat) : risingL a b (l ++ [x]) = (risingL a b l && decide (lastL a l < x ∧ x < b)) := by
  induction l generalizing a with
  | nil => simp only [List.nil_append, risingL, lastL, List.foldl_nil, Bool.and_true, Bool.true_and]; exact decide_eq_decide.2 Iff.rfl
  | cons n l ih => simp only [List.cons_append, risingL, ih, Bool.and_assoc]; rfl
theorem rising_take (a b : Nat) (l : List Nat) (k : Nat) (h : risingL a b (l.take k) = false) : risingL a b l = false := by
  induction l generalizing a k with
  | nil => simp [risingL] at h
  | cons n l ih =>
    cases k with
    | zero => simp [risingL] at h
    | succ k =>
      simp only [List.take_succ_cons, risingL, Bool.and_eq_false_iff] at h ⊢
      rcases h with h | h
      · exact .inl h
      · exact .inr (ih n k h)
set_option maxHeartbeats 800000 in
theorem risingF (a : Option Addr) (ca : Nat) (l : List Nat) (ab be most : Nat) (w : World) (ha : Us w a l) (h1 : l.length ≤ 9223372036854775807) :
    Calls Try.prog 25 #[.slice a l.length ca, .int .u64 ab, .int .u64 be, .int .i64 most] w fun e w' => e = .returned (.bool (risingL ab be l && decide (l.length ≤ most))) ∧ Below w.heap.size w w' := by
  go_enter Try.func25, Try.ntmps25
  go_wp2_with fail
  go_loopw [1, 13] (fun u i wr => ∃ k : Nat, k ≤ l.length ∧ i = .int .i64 k ∧ (∃ x : Nat, u = .int .u64 x ∧ Hid (x = lastL ab (l.take k))) ∧ Hid (risingL ab be (l.take k) = true) ∧ Below w.heap.size w wr) (fun _ i _ => l.length - (intOf i).toNat)
  case atStart => exact ⟨0, by omega, rfl, ⟨ab, rfl, by simp [Hid, lastL]⟩, by simp [Hid, risingL], Below.refl _ _⟩
  case round =>
    obtain ⟨k, hk, rfl, ⟨u, rfl, HU⟩, HT, hbel⟩ := hrel
    by_cases hlt : k < l.length
    · obtain ⟨b1, o1, rfl⟩ := ha.ex hlt
      have c1 := (ha.below hbel).cell b1 o1 rfl k hlt
      have t1 := Lib.hid (take_snoc l k hlt)
      obtain ⟨x, hx⟩ : ∃ x, l[k] = x := ⟨_, rfl⟩
      rw [hx] at c1 t1
      clear hx
      have HR : Hid (risingL ab be (l.take (k + 1)) = decide (u < x ∧ x < be)) := by rw [Hid, t1.out, rising_snoc, HT.out, ← HU.out]; simp
      by_cases hxy : u < x
      · by_cases hxb : x < be
        · go_wp2
          go_roundw
          case rel => exact ⟨k + 1, by omega, by go_num, ⟨x, rfl, by rw [Hid, t1.out, lastL_snoc]⟩, by rw [Hid, HR.out]; simp; omega, hbel⟩
          case measure => simp [intOf]; omega
        · go_wp2
          go_ret
          exact ⟨by rw [rising_take ab be l (k + 1) (by rw [HR.out]; simp; omega)]; rfl, hbel⟩
      · go_wp2
        go_ret
        exact ⟨by rw [rising_take ab be l (k + 1) (by rw [HR.out]; simp; omega)]; rfl, hbel⟩
    · have e : risingL ab be l = true := by have := HT.out; rwa [List.take_of_length_le (by omega)] at this
      by_cases hm : l.length ≤ most
      · have hd : decide ((l.length : Int) ≤ (most : Int)) = true := by simp; omega
        go_wp2
        go_ret
        exact ⟨by rw [e, decide_eq_true hm]; first | rfl | exact congrArg (fun x => Ending.returned (.bool x)) hd, hbel⟩
      · have hd : decide ((l.length : Int) ≤ (most : Int)) = false := by simp; omega
        go_wp2
        go_ret
        exact ⟨by rw [e, decide_eq_false hm]; first | rfl | exact congrArg (fun x => Ending.returned (.bool x)) hd, hbel⟩
end Go.Proofs.Ytokijkinlcdjeaa

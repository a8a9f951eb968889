/- Contracts of wire's Read and of the reference's readers. -/
import Derived.Test.YtcfcdnoebgdfeaaWalkG
namespace Go.Proofs.Ytcfcdnoebgdfeaa
open Go.RowKit WireM

theorem run_fits_b (w : World) (base g k cap : Nat) (ty : TypeId) (xs : List UInt8) (hk : k = xs.length) (h : OwnB w base (.slice (some ⟨g, 0, none⟩) k cap) xs) (a : Option Addr) (m : List UInt8) (c : Nat) (hm : Bs w a m) (hn : a = none → c = 0) (hfit : k + m.length ≤ cap) :
    ∃ w', (Builtin.append_ #[23, 23] ty #[.slice (some ⟨g, 0, none⟩) k cap, .slice a m.length c]).run Try.prog w = .ok (.slice (some ⟨g, 0, none⟩) (k + m.length) cap) w' ∧ OwnB w' base (.slice (some ⟨g, 0, none⟩) (k + m.length) cap) (xs ++ m) ∧ w.grownBy w' (some g) := by
  subst hk
  obtain ⟨i0, hi, hz0, hz1, hz2⟩ := info_parts info5'
  cases a with
  | none =>
    have e : m = [] := by
      cases m with
      | nil => rfl
      | cons x m => obtain ⟨_, _, h⟩ := hm.addr (by simp); cases h
    subst e
    obtain rfl := hn rfl
    have := run_append_owned_none (P := Try.prog) (w := w) base 23 ty 5 i0 1 Try.underlying23 hi _ xs.length (bv xs) h
    exact ⟨w, by simpa using this, by simpa using h, ⟨rfl, rfl, rfl, Nat.le_refl _, fun _ _ _ => rfl⟩⟩
  | some ad =>
    have hnews : ∀ j u, (bv m)[j]? = some u → w.cell? (ad.add j) = some u := by
      intro j u hj
      have hjl : j < m.length := by
        have := (List.getElem?_eq_some_iff.1 hj).1; rwa [bv_length] at this
      obtain ⟨b, o, e⟩ := hm.ex hjl
      cases e
      rw [Addr.add_mid, hm.cell b o rfl j hjl, ← hj, bv_get m j hjl]
    obtain ⟨w', h1, h2, h3⟩ := run_append_fits (P := Try.prog) w base 23 ty 5 i0 1 Try.underlying23 hi hz1 g xs.length cap (bv xs) h ad m.length c (bv m) (by rw [bv_length]; omega) hnews (bv_one m) hfit
    refine ⟨w', h1, ?_, h3⟩
    unfold OwnB
    rw [bv_append, List.length_append]
    exact h2
theorem wpList_fits_b {ops : Array Oper} {rest : List Oper} {o : Oper} {act : Act} {w : World} {Q : Exit → Act → World → Prop} (hgd : o.guard = none) (s x : Operand)
    (ho : o.op = .call { callee := .builtin .append, args := #[s, x], argTypes := #[23, 23] }) (base g k cap : Nat) (xs : List UInt8) (hk : k = xs.length) (hs : act.eval s = .slice (some ⟨g, 0, none⟩) k cap) (h : OwnB w base (.slice (some ⟨g, 0, none⟩) k cap) xs)
    (a : Option Addr) (m : List UInt8) (c : Nat) (hx : act.eval x = .slice a m.length c) (hm : Bs w a m) (hn : a = none → c = 0) (hfit : k + m.length ≤ cap)
    (hK : ∀ w', OwnB w' base (.slice (some ⟨g, 0, none⟩) (k + m.length) cap) (xs ++ m) → w.grownBy w' (some g) → wpList Try.prog ops Q rest (act.put o.dst (.slice (some ⟨g, 0, none⟩) (k + m.length) cap)) w') : wpList Try.prog ops Q (o :: rest) act w := by
  refine wpList_plain hgd fun K hK' => ?_
  obtain ⟨w', hrun, r1, r2⟩ := run_fits_b w base g k cap o.type xs hk h a m c hm hn hfit
  unfold Oper.wp
  simp [execOp, ho, resolve, invoke, builtin, hs, hx, hrun, Result.andThen]
  exact hK' _ _ (hK w' r1 r2)
set_option maxHeartbeats 800000 in
theorem Read_any (a : Option Addr) (cap : Nat) (l : List UInt8) (w : World) (h : Bs w a l) (hna : a = none → cap = 0) (hl : l.length ≤ 140737488355327) :
    Calls Try.prog 19 #[.slice a l.length cap] w fun e w' => (∃ g, e = .returned (.pointer (some ⟨g, 0, none⟩)) ∧ Rd w' w.heap.size w'.heap.size g l 0) ∧ Below w.heap.size w w' := by
  obtain ⟨i0, hi, hz0, hz1, hz2⟩ := info_parts info5'
  have hw1 : IntKind.i64.wrap ((l.length : Int) + 1) = ((l.length + 1 : Nat) : Int) := by rw [IntKind.wrap_i64]; omega
  have hmk : ∀ w1 : World, w1.ownsRow w.heap.size 5 1 (.slice (some ⟨w.heap.size, 0, none⟩) 0 (l.length + 1)) 0 [] → w.grownBy w1 none → OwnB w1 w.heap.size (.slice (some ⟨w.heap.size, 0, none⟩) 0 (l.length + 1)) [] ∧ Below w.heap.size w w1 ∧ Bs w1 a l ∧ w.heap.size ≤ w1.heap.size :=
    fun w1 h1 h2 => ⟨h1, below_grown h2, h.below (below_grown h2), h2.size⟩
  have HM := Lib.hid hmk
  clear hmk h
  go_enter Try.func19, Try.ntmps19
  go_wp2_with (first | (at_builtin; refine wpList_fits_b rfl (.tmp 6) (.tmp 7) rfl w.heap.size w.heap.size 0 (l.length + 1) [] rfl rfl hown1 a l cap rfl hB hna (by omega) ?_; intro w2 hown2 hg2; have hb2 := hb1.grown hg2 hsz (fun k hk => by cases hk; exact Nat.le_refl _); clear hg2; rw [List.nil_append, Nat.zero_add] at hown2) | (refine wpList_make_own _ rfl _ _ 23 rfl w.heap.size 5 i0 (.int .u8 0) 1 Try.underlying23 hi hz0 hz1 .i64 .i64 _ (l.length + 1) rfl rfl (by omega) (by rw [hz2]; omega) (by unfold maxLen; omega) (Nat.le_refl _) ?_; intro w1 hown1' hg1; obtain ⟨hown1, hb1, hB, hsz⟩ := HM.out w1 hown1' hg1; clear hown1' hg1))
  go_ret
  have hlt : w.heap.size < w2.heap.size := by
    obtain ⟨_, _, e, _, _, hx⟩ := hown2.form
    cases e
    obtain ⟨g, e, _, h2⟩ := hx _ rfl
    cases e
    exact h2
  have hs3 : (w2.alloc (Obj.cells #[Value.slice (some ⟨w.heap.size, 0, none⟩) l.length (l.length + 1), Value.int IntKind.i64 0] 66)).heap.size = w2.heap.size + 1 := by simp
  refine ⟨⟨w2.heap.size, rfl, ⟨by omega, by omega, w.heap.size, l.length + 1, heap_alloc_new _ _, by omega, hown2.below (below_alloc _ _), Nat.le_refl _, by omega⟩⟩, belT hb2 (below_alloc _ _)⟩
/-! ### the reference's readers -/
def restAt (l : List UInt8) (p : Int) : List UInt8 := if p < 0 then [] else l.drop p.toNat
structure RRd (w : World) (base top g : Nat) (l : List UInt8) (p : Int) : Prop where
  up : base ≤ g
  lt : g < top
  cells : ∃ a n c, w.heap[g]? = some (.cells #[.slice a n c, .bool (decide (p < 0))] 42 (0, 0)) ∧ n = (restAt l p).length ∧ n ≤ c ∧ (a = none → c = 0) ∧ Bs w a (restAt l p) ∧ Away a base top g ∧ ∀ x, a = some x → x.spot = none
theorem Bs.grown {w w' : World} {a : Option Addr} {l : List UInt8} {g : Nat} (h : Bs w a l) (hg : w.grownBy w' (some g)) (hne : ∀ b o s, a = some ⟨b, o, s⟩ → b ≠ g) : Bs w' a l :=
  ⟨h.addr, fun b o e i hi => by
    have hc := h.cell b o e i hi
    have hlt := block_lt_of_cell hc
    rw [World.cell?_of_block (w := w) (hg.block b hlt (by simpa using hne b o none e))]
    exact hc⟩
theorem RRd.fail {w : World} {base top g : Nat} {l : List UInt8} {p : Int} (h : RRd w base top g l p) (q : Int) (hq : q < 0) :
    RRd ((w.setCell ⟨g, 1, none⟩ (.bool true)).setCell ⟨g, 0, none⟩ (.slice none 0 0)) base top g l q ∧ w.grownBy ((w.setCell ⟨g, 1, none⟩ (.bool true)).setCell ⟨g, 0, none⟩ (.slice none 0 0)) (some g) := by
  obtain ⟨a, n, c, hg, hn, hc, hna, hbs, haw, _⟩ := h.cells
  have e1 : restAt l q = [] := by unfold restAt; rw [if_pos hq]
  have hgr : w.grownBy ((w.setCell ⟨g, 1, none⟩ (.bool true)).setCell ⟨g, 0, none⟩ (.slice none 0 0)) (some g) := ⟨rfl, rfl, rfl, by simp [World.setCell], fun k _ hne => by
    have hk : k ≠ g := fun e => hne (by rw [e])
    rw [Below.heap_setCell _ _ _ _ hk, Below.heap_setCell _ _ _ _ hk]⟩
  refine ⟨⟨h.up, h.lt, none, 0, 0, ?_, by rw [e1]; rfl, Nat.le_refl _, fun _ => rfl, by rw [e1]; exact ⟨fun h => absurd rfl h, fun b o e => by cases e⟩, fun b o s e => (by cases e), fun x e => (by cases e)⟩, hgr⟩
  rw [heap_setCell_same _ _ _ _ _ _ (heap_setCell_same _ _ _ _ _ _ hg)]
  simp [hq]
theorem RRd.adv {w : World} {base top g : Nat} {l : List UInt8} {p : Int} (h : RRd w base top g l p) (q : Int) (hp : 0 ≤ p) (hq : 0 ≤ q) (a : Option Addr) (n c : Nat) (hn : n = (restAt l q).length) (hc : n ≤ c) (hna : a = none → c = 0) (hbs : Bs w a (restAt l q)) (haw : Away a base top g) (hfl : ∀ x, a = some x → x.spot = none) :
    RRd (w.setCell ⟨g, 0, none⟩ (.slice a n c)) base top g l q ∧ w.grownBy (w.setCell ⟨g, 0, none⟩ (.slice a n c)) (some g) := by
  obtain ⟨a0, n0, c0, hg, _⟩ := h.cells
  have hgr : w.grownBy (w.setCell ⟨g, 0, none⟩ (.slice a n c)) (some g) := ⟨rfl, rfl, rfl, by simp [World.setCell], fun k _ hne => Below.heap_setCell _ _ _ _ (fun e => hne (by rw [e]))⟩
  refine ⟨⟨h.up, h.lt, a, n, c, ?_, hn, hc, hna, hbs.grown hgr (fun b o s e => (haw b o s e).2.2), haw, hfl⟩, hgr⟩
  rw [heap_setCell_same _ _ _ _ _ _ hg, show decide (q < 0) = decide (p < 0) by simp; omega]; rfl
theorem RRd.below {w w' : World} {base top g : Nat} {l : List UInt8} {p : Int} (h : RRd w base top g l p) (hb : Below w.heap.size w w') : RRd w' base top g l p :=
  ⟨h.up, h.lt, let ⟨a, n, c, hg, hr⟩ := h.cells; ⟨a, n, c, (hb.block _ (Array.getElem?_eq_some_iff.1 hg).1).trans hg, hr.1, hr.2.1, hr.2.2.1, hr.2.2.2.1.below hb, hr.2.2.2.2⟩⟩
def RBytesPost (w : World) (base top g : Nat) (l : List UInt8) (p n : Int) (e : Ending) (w' : World) : Prop :=
  (∃ a c, e = .returned (.slice a (gotAt l p n).length c) ∧ (gotAt l p n).length ≤ c ∧ Bs w' a (gotAt l p n) ∧ Away a base top g) ∧ RRd w' base top g l (stepAt l p n) ∧ w.grownBy w' (some g)
set_option maxHeartbeats 800000 in
theorem RBytes_any (base top g : Nat) (l : List UInt8) (p n : Int) (w : World) (h : RRd w base top g l p) (hl : l.length ≤ 140737488355328) (hp : p ≤ l.length) :
    Calls Try.prog 37 #[.pointer (some ⟨g, 0, none⟩), .int .i64 n] w (RBytesPost w base top g l p n) := by
  obtain ⟨a, k, c, hg, hk, hc, hna, hbs, haw, hfl⟩ := h.cells
  have c0 := cell_of_row w g 0 _ _ _ hg
  have c1 := cell_of_row w g 1 _ _ _ hg
  have f0 := frozen_of_row w g 0 _ _ hg
  have f1 := frozen_of_row w g 1 _ _ hg
  simp at c0 c1
  have HG := Lib.hid hg
  by_cases hp0 : p < 0
  · have hd : decide (p < 0) = true := by simpa using hp0
    have H := Lib.hid (h.fail p hp0)
    have e1 : Hid (stepAt l p n = p) := by show _ = _; simp [stepAt, hp0]
    have e2 : Hid (gotAt l p n = []) := by show _ = _; unfold gotAt; rw [if_neg (by omega)]
    rw [hd] at c1
    clear hg hk hbs haw hd h hna
    go_enter Try.func37, Try.ntmps37
    go_wp2
    go_ret
    unfold RBytesPost
    rw [e1.out, e2.out]
    exact ⟨⟨none, 0, rfl, Nat.le_refl _, ⟨fun h => absurd rfl h, fun b o e => (by cases e)⟩, fun b o s e => (by cases e)⟩, H.out.1, H.out.2⟩
  · have hd : decide (p < 0) = false := by simpa using hp0
    have er : restAt l p = l.drop p.toNat := by unfold restAt; rw [if_neg hp0]
    rw [hd] at c1
    by_cases hn : 0 ≤ n ∧ p + n ≤ l.length
    · obtain ⟨m, rfl⟩ : ∃ m : Nat, n = (m : Int) := ⟨n.toNat, by omega⟩
      have hmk : m ≤ k := by rw [hk, er]; simp; omega
      have hmkI : (m : Int) ≤ (k : Int) := by omega
      have e1 : Hid (stepAt l p (m : Int) = p + m) := by show _ = _; unfold stepAt; rw [if_neg hp0, if_pos hn]
      have e2 : Hid (gotAt l p (m : Int) = (restAt l p).take m) := by show _ = _; unfold gotAt; rw [if_pos (by omega), er]; rfl
      have e3 : Hid (restAt l (p + m) = (restAt l p).drop m) := by
        show _ = _
        rw [er, List.drop_drop]; unfold restAt; rw [if_neg (by omega)]; congr 1; omega
      have hmk2 : m ≤ c := by omega
      by_cases hmc : c = m
      · subst hmc
        have hck : k = c := by omega
        subst hck
        have H := Lib.hid (h.adv (p + k) (by omega) (by omega) a 0 0 (by rw [e3.out]; simp [← hk]) (by omega) (by simp) (by rw [e3.out, List.drop_of_length_le (by omega)]; exact ⟨fun h => absurd rfl h, fun b o e i hi => by simp at hi⟩) haw hfl)
        have HB := Lib.hid (And.intro hbs (And.intro hk haw))
        clear hg hk hbs haw hd h er hna hmk hn hmkI hmk2
        go_enter Try.func37, Try.ntmps37
        go_wp2
        go_ret
        unfold RBytesPost
        rw [e1.out, e2.out]
        have hlen : ((restAt l p).take k).length = k := by simp; have := HB.out.2.1; omega
        rw [hlen]
        exact ⟨⟨a, k, rfl, Nat.le_refl _, (HB.out.1.takeL k).grown H.out.2 (fun b o s e => (HB.out.2.2 b o s e).2.2), HB.out.2.2⟩, H.out.1, H.out.2⟩
      · obtain ⟨b, o, rfl⟩ : ∃ b o, a = some ⟨b, o, none⟩ := by
          cases a with
          | none => have := hna rfl; omega
          | some x => obtain ⟨b, o, s⟩ := x; have := hfl _ rfl; simp only at this; subst this; exact ⟨b, o, rfl⟩
        have hdr := hbs.dropL (c := c) m (by omega)
        rw [if_neg hmc, Option.map_some, Addr.add_mid] at hdr
        have H := Lib.hid (h.adv (p + m) (by omega) (by omega) (some ⟨b, o + m, none⟩) (k - m) (c - m) (by rw [e3.out]; simp [← hk]) (by omega) (by simp) (by rw [e3.out]; exact hdr) (fun b' o' s e => by cases e; exact haw _ _ _ rfl) (fun x e => by cases e; rfl))
        have HB := Lib.hid (And.intro hbs (And.intro hk haw))
        clear hg hk hbs haw hd h er hna hn hdr hfl
        go_enter Try.func37, Try.ntmps37
        go_wp2
        go_ret
        unfold RBytesPost
        rw [e1.out, e2.out]
        have hlen : ((restAt l p).take m).length = m := by simp; have := HB.out.2.1; omega
        rw [hlen]
        exact ⟨⟨some ⟨b, o, none⟩, c, rfl, hmk2, (HB.out.1.takeL m).grown H.out.2 (fun b o s e => (HB.out.2.2 b o s e).2.2), HB.out.2.2⟩, H.out.1, H.out.2⟩
    · have H := Lib.hid (h.fail (-1) (by omega))
      have e1 : Hid (stepAt l p n = -1) := by show _ = _; unfold stepAt; rw [if_neg hp0, if_neg hn]
      have e2 : Hid (gotAt l p n = []) := by show _ = _; unfold gotAt; rw [if_neg (by omega)]
      have hkk : (k : Int) = l.length - p := by rw [hk, er]; simp; omega
      have hor : n < 0 ∨ (k : Int) < n := by omega
      clear hg hk hbs haw hd h hna hn hkk er
      rcases hor with hor | hor
      · go_enter Try.func37, Try.ntmps37
        go_wp2
        go_ret
        unfold RBytesPost
        rw [e1.out, e2.out]
        exact ⟨⟨none, 0, rfl, Nat.le_refl _, ⟨fun h => absurd rfl h, fun b o e => (by cases e)⟩, fun b o s e => (by cases e)⟩, H.out.1, H.out.2⟩
      · have hn0 : ¬ n < 0 := by omega
        go_enter Try.func37, Try.ntmps37
        go_wp2
        go_ret
        unfold RBytesPost
        rw [e1.out, e2.out]
        exact ⟨⟨none, 0, rfl, Nat.le_refl _, ⟨fun h => absurd rfl h, fun b o e => (by cases e)⟩, fun b o s e => (by cases e)⟩, H.out.1, H.out.2⟩
end Go.Proofs.Ytcfcdnoebgdfeaa

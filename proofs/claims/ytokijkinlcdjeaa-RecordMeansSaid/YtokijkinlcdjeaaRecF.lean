/- The writer: its methods, by the bytes that it holds. -/
import Derived.Test.YtokijkinlcdjeaaRecD
import Derived.Test.YtokijkinlcdjeaaRecE
namespace Go.Proofs.Ytokijkinlcdjeaa
open Go.RowKit WireM

/-- but for two blocks, what was there is as it was -/
structure G2 (w w' : World) (gw : Nat) (b : Option Nat) : Prop where
  os : w'.os = w.os
  tape : w'.tape = w.tape
  output : w'.output = w.output
  size : w.heap.size ≤ w'.heap.size
  block : ∀ j, j < w.heap.size → j ≠ gw → b ≠ some j → w'.heap[j]? = w.heap[j]?
theorem G2.refl (w : World) (gw : Nat) (b : Option Nat) : G2 w w gw b := ⟨rfl, rfl, rfl, Nat.le_refl _, fun _ _ _ _ => rfl⟩
theorem G2.trans {a b c : World} {gw : Nat} {x y : Option Nat} (h : G2 a b gw x) (k : G2 b c gw y) (hy : y = x ∨ ∃ n, y = some n ∧ a.heap.size ≤ n) : G2 a c gw x :=
  ⟨k.os.trans h.os, k.tape.trans h.tape, k.output.trans h.output, Nat.le_trans h.size k.size, fun j hj h1 h2 =>
    (k.block j (Nat.lt_of_lt_of_le hj h.size) h1 (by
      rcases hy with rfl | ⟨n, rfl, hn⟩
      · exact h2
      · intro e; injection e with e; omega)).trans (h.block j hj h1 h2)⟩
theorem G2.of_below {w w' : World} (h : Below w.heap.size w w') (gw : Nat) (b : Option Nat) : G2 w w' gw b := ⟨h.os, h.tape, h.output, h.size, fun j hj _ _ => h.block j hj⟩
theorem G2.of_grown {w w' : World} {g : Option Nat} (h : w.grownBy w' g) (gw : Nat) : G2 w w' gw g := ⟨h.os, h.tape, h.output, h.size, fun j hj _ h2 => h.block j hj (fun e => h2 e.symm)⟩
theorem G2.set (w : World) (gw k : Nat) (v : Value) (b : Option Nat) : G2 w (w.setCell ⟨gw, k, none⟩ v) gw b :=
  ⟨rfl, rfl, rfl, by simp [World.setCell], fun j _ h1 _ => Below.heap_setCell _ _ _ _ h1⟩
structure WB (w : World) (base gw : Nat) (v : Value) (m : List UInt8) : Prop where
  up : base ≤ gw
  cell : w.heap[gw]? = some (.cells #[v] 65 (0, 0))
  own : OwnB w base v m
  ne : v.ownBlock ≠ some gw
theorem WB.lt {w : World} {base gw : Nat} {v : Value} {m : List UInt8} (h : WB w base gw v m) : gw < w.heap.size := (Array.getElem?_eq_some_iff.1 h.cell).1
theorem WB.blk {w : World} {base gw : Nat} {v : Value} {m : List UInt8} (h : WB w base gw v m) {j : Nat} (e : v.ownBlock = some j) : base ≤ j ∧ j < w.heap.size := h.own.lt j e
theorem G2.below {w w' : World} {base gw : Nat} {v : Value} {m : List UInt8} (h : WB w base gw v m) (g : G2 w w' gw v.ownBlock) : Below base w w' :=
  ⟨g.os, g.tape, g.output, g.size, fun j hj => g.block j (Nat.lt_of_lt_of_le hj (Nat.le_trans h.up (Nat.le_of_lt h.lt))) (by have := h.up; omega) (fun e => by have := (h.blk e).1; omega)⟩
theorem WB.below {w w' : World} {base gw : Nat} {v : Value} {m : List UInt8} (h : WB w base gw v m) (hb : Below w.heap.size w w') : WB w' base gw v m :=
  ⟨h.up, (hb.block gw h.lt).trans h.cell, h.own.below hb, h.ne⟩
/-- one step of writing: where the bytes lie afterwards, and what else is touched -/
def WStep (w : World) (base gw : Nat) (v : Value) (m : List UInt8) (w' : World) : Prop :=
  ∃ v', WB w' base gw v' m ∧ (v'.ownBlock = v.ownBlock ∨ ∃ n, v'.ownBlock = some n ∧ w.heap.size ≤ n) ∧ G2 w w' gw v.ownBlock
theorem WStep.refl {w : World} {base gw : Nat} {v : Value} {m : List UInt8} (h : WB w base gw v m) : WStep w base gw v m w := ⟨v, h, .inl rfl, G2.refl _ _ _⟩
theorem WStep.trans {w w' w'' : World} {base gw : Nat} {v v' : Value} {m m' : List UInt8} (hv : v'.ownBlock = v.ownBlock ∨ ∃ n, v'.ownBlock = some n ∧ w.heap.size ≤ n) (g : G2 w w' gw v.ownBlock) (_ : WB w' base gw v' m)
    (k : WStep w' base gw v' m' w'') : WStep w base gw v m' w'' := by
  obtain ⟨v2, h2, hv2, g2⟩ := k
  refine ⟨v2, h2, ?_, g.trans g2 hv⟩
  rcases hv2 with e | ⟨n, e, hn⟩
  · rw [e]; exact hv
  · exact .inr ⟨n, e, Nat.le_trans g.size hn⟩
theorem WStep.ext {w w' w'' : World} {base gw : Nat} {v : Value} {m : List UInt8} (hb : Below w.heap.size w w') (k : WStep w' base gw v m w'') : WStep w base gw v m w'' := by
  obtain ⟨v2, h2, hv2, g2⟩ := k
  refine ⟨v2, h2, ?_, (G2.of_below hb gw v.ownBlock).trans g2 (.inl rfl)⟩
  rcases hv2 with e | ⟨n, e, hn⟩
  · exact .inl e
  · exact .inr ⟨n, e, Nat.le_trans hb.size hn⟩
theorem WStep.low {w w' : World} {base gw : Nat} {v : Value} {m m' : List UInt8} (h : WB w base gw v m) (k : WStep w base gw v m' w') : Below base w w' := by
  obtain ⟨v2, h2, hv2, g2⟩ := k
  exact g2.below h
theorem OwnB.sl {w : World} {base : Nat} {v : Value} {m : List UInt8} (h : OwnB w base v m) : ∃ a c, v = .slice a m.length c := by
  obtain ⟨a, c, e, _⟩ := h.form
  exact ⟨a, c, e⟩
theorem WB.store {w w' : World} {base gw : Nat} {v v' : Value} {m m' : List UInt8} (h : WB w base gw v m) (h1 : OwnB w' base v' m') (h2 : w.grownBy w' v.ownBlock) (h3 : v'.ownBlock = v.ownBlock ∨ v'.ownBlock = some w.heap.size) :
    WStep w base gw v m' (w'.setCell ⟨gw, 0, none⟩ v') := by
  have hc : w'.heap[gw]? = some (.cells #[v] 65 (0, 0)) := (h2.block gw h.lt (fun e => h.ne e.symm)).trans h.cell
  have hne : v'.ownBlock ≠ some gw := by
    rcases h3 with e | e
    · rw [e]; exact h.ne
    · rw [e]; have := h.lt; intro e; injection e; omega
  refine ⟨v', ⟨h.up, ?_, ?_, hne⟩, ?_, (G2.of_grown h2 gw).trans (G2.set w' gw 0 v' v.ownBlock) (.inl rfl)⟩
  · rw [heap_setCell_same _ _ _ _ _ _ hc]; rfl
  · exact World.ownsRow.kept h1 (row := some gw) ⟨rfl, rfl, rfl, by simp [World.setCell], fun k _ hne => Below.heap_setCell _ _ _ _ (fun e => hne (by rw [e]))⟩ (.inr hne)
  · rcases h3 with e | e
    · exact .inl e
    · exact .inr ⟨_, e, Nat.le_refl _⟩
set_option maxHeartbeats 800000 in
theorem putF (n k : Nat) (hr : room n k) (base gw : Nat) (v : Value) (m : List UInt8) (w : World) (h : WB w base gw v m) (hm : m.length ≤ 2000000) (hb : base ≤ w.heap.size) :
    Calls Try.prog 26 #[.pointer (some ⟨gw, 0, none⟩), .int .u64 n, .int .i64 k] w fun e w' => e = .returned (.tuple #[]) ∧ WStep w base gw v (m ++ be n k) w' := by
  have hk8 : 1 ≤ k ∧ k ≤ 8 := ⟨by have := hr.1; omega, by have := hr.2.1; omega⟩
  have hl := be_length n k
  obtain ⟨q, hq⟩ : ∃ q, be n k = q := ⟨_, rfl⟩
  have HP := Lib.hid (put_room n k hr)
  rw [hq] at HP hl ⊢
  clear hq hr
  go_enter Try.func26, Try.ntmps26
  go_wp2_with (first | (go_at_call 46; refine (HP.out w).mono ?_; rintro e w1 ⟨⟨a1, c1, rfl, hc1, hB1⟩, hb1⟩; have hw1 := h.below hb1; have hz : w1.cell? ⟨gw, 0, none⟩ = some v := cell_of_row _ gw 0 _ _ _ hw1.cell; have ha1 : a1 = none → c1 = 0 := (fun e => by obtain ⟨b, o, e'⟩ := hB1.ex (k := 0) (by omega); rw [e] at e'; cases e')) | (refine wpList_append_b_at rfl (.tmp 18) (.tmp 19) rfl base v m rfl hw1.own a1 q k c1 rfl hl.symm hB1 ha1 (by omega) (by have := hb1.size; omega) ?_; intro v' w2 ho2 hg2 hs2; obtain ⟨a3, c3, rfl⟩ := ho2.sl; have hr2 : w2.heap[gw]? = some (.cells #[v] 65 (0, 0)) := (hg2.block gw hw1.lt (fun e => hw1.ne e.symm)).trans hw1.cell; have hz2 : w2.cell? ⟨gw, 0, none⟩ = some v := cell_of_row _ gw 0 _ _ _ hr2; have hf2 := frozen_of_row _ gw 0 _ _ hr2))
  go_end0
  have e := (hw1.store ho2 hg2 hs2).ext hb1
  rw [List.length_append, hl] at e
  exact ⟨rfl, e⟩
structure RN (R : Rec) : Prop where
  x : R.xid < 18446744073709551616
  n : R.next < 18446744073709551616
  r : R.redo < 18446744073709551616
  t : R.tl < 18446744073709551616
  p0 : 0 ≤ R.page
  p : R.page < 65536
  o0 : 0 ≤ R.off
  o : R.off < 65536
  l : R.bytes.length ≤ 65535
  u : R.subs.length ≤ 65535
  us : ∀ n ∈ R.subs, n < 18446744073709551616
def beS (u : List Nat) : List UInt8 := (u.map fun n => be n 8).flatten
theorem beS_snoc (u : List Nat) (n : Nat) : beS (u ++ [n]) = beS u ++ be n 8 := by simp [beS]
theorem beS_len (u : List Nat) : (beS u).length = 8 * u.length := by
  induction u with
  | nil => rfl
  | cons n u ih => simp only [beS, List.map_cons, List.flatten_cons, List.length_append, be_length, List.length_cons] at ih ⊢; omega
theorem room8 (n : Nat) (h : n < 18446744073709551616) : room n ((8 : Nat) : Int) := ⟨by decide, by decide, by simpa using h⟩
theorem room2 (n : Nat) (h : n < 65536) : room n ((2 : Nat) : Int) := ⟨by decide, by decide, by simpa using h⟩
theorem room4 (n : Nat) (h : n < 4294967296) : room n ((4 : Nat) : Int) := ⟨by decide, by decide, by simpa using h⟩

set_option maxHeartbeats 1600000 in
theorem wXid (k : Int) (x : Nat) (p o : Int) (ab sb : Option Addr) (cb cs : Nat) (l : List UInt8) (u : List Nat) (n r t : Nat) (hN : RN ⟨k, x, p, o, l, u, n, r, t⟩) (w0 w : World) (gw : Nat) (v : Value) (m : List UInt8) (_ : RB w0 ⟨k, x, p, o, l, u, n, r, t⟩ ab sb cb cs) (hlow : Below w0.heap.size w0 w) (h : WB w w0.heap.size gw v m) (hm : m.length ≤ 500000) :
    Calls Try.prog 30 #[.pointer (some ⟨gw, 0, none⟩), rv k x p o ab l.length cb sb u.length cs n r t] w fun e w' => e = .returned (.tuple #[]) ∧ WStep w w0.heap.size gw v (m ++ be x 8) w' := by
  have hr : room x ((8 : Nat) : Int) := room8 _ hN.x
  clear hN
  go_enter Try.func30, Try.ntmps30
  go_wp2_with (go_at_call 26; refine (putF _ 8 hr _ gw v m _ (h.below (below_alloc w _)) (by omega) (by simp; have := hlow.size; omega)).mono ?_; rintro e w2 ⟨rfl, hs⟩)
  go_end0
  exact ⟨rfl, hs.ext (below_alloc _ _)⟩
set_option maxHeartbeats 1600000 in
theorem wNext (k : Int) (x : Nat) (p o : Int) (ab sb : Option Addr) (cb cs : Nat) (l : List UInt8) (u : List Nat) (n r t : Nat) (hN : RN ⟨k, x, p, o, l, u, n, r, t⟩) (w0 w : World) (gw : Nat) (v : Value) (m : List UInt8) (_ : RB w0 ⟨k, x, p, o, l, u, n, r, t⟩ ab sb cb cs) (hlow : Below w0.heap.size w0 w) (h : WB w w0.heap.size gw v m) (hm : m.length ≤ 500000) :
    Calls Try.prog 32 #[.pointer (some ⟨gw, 0, none⟩), rv k x p o ab l.length cb sb u.length cs n r t] w fun e w' => e = .returned (.tuple #[]) ∧ WStep w w0.heap.size gw v (m ++ be n 8) w' := by
  have hr : room n ((8 : Nat) : Int) := room8 _ hN.n
  clear hN
  go_enter Try.func32, Try.ntmps32
  go_wp2_with (go_at_call 26; refine (putF _ 8 hr _ gw v m _ (h.below (below_alloc w _)) (by omega) (by simp; have := hlow.size; omega)).mono ?_; rintro e w2 ⟨rfl, hs⟩)
  go_end0
  exact ⟨rfl, hs.ext (below_alloc _ _)⟩
set_option maxHeartbeats 1600000 in
theorem wRedo (k : Int) (x : Nat) (p o : Int) (ab sb : Option Addr) (cb cs : Nat) (l : List UInt8) (u : List Nat) (n r t : Nat) (hN : RN ⟨k, x, p, o, l, u, n, r, t⟩) (w0 w : World) (gw : Nat) (v : Value) (m : List UInt8) (_ : RB w0 ⟨k, x, p, o, l, u, n, r, t⟩ ab sb cb cs) (hlow : Below w0.heap.size w0 w) (h : WB w w0.heap.size gw v m) (hm : m.length ≤ 500000) :
    Calls Try.prog 34 #[.pointer (some ⟨gw, 0, none⟩), rv k x p o ab l.length cb sb u.length cs n r t] w fun e w' => e = .returned (.tuple #[]) ∧ WStep w w0.heap.size gw v (m ++ be r 8) w' := by
  have hr : room r ((8 : Nat) : Int) := room8 _ hN.r
  clear hN
  go_enter Try.func34, Try.ntmps34
  go_wp2_with (go_at_call 26; refine (putF _ 8 hr _ gw v m _ (h.below (below_alloc w _)) (by omega) (by simp; have := hlow.size; omega)).mono ?_; rintro e w2 ⟨rfl, hs⟩)
  go_end0
  exact ⟨rfl, hs.ext (below_alloc _ _)⟩
set_option maxHeartbeats 1600000 in
theorem wTl (k : Int) (x : Nat) (p o : Int) (ab sb : Option Addr) (cb cs : Nat) (l : List UInt8) (u : List Nat) (n r t : Nat) (hN : RN ⟨k, x, p, o, l, u, n, r, t⟩) (w0 w : World) (gw : Nat) (v : Value) (m : List UInt8) (_ : RB w0 ⟨k, x, p, o, l, u, n, r, t⟩ ab sb cb cs) (hlow : Below w0.heap.size w0 w) (h : WB w w0.heap.size gw v m) (hm : m.length ≤ 500000) :
    Calls Try.prog 36 #[.pointer (some ⟨gw, 0, none⟩), rv k x p o ab l.length cb sb u.length cs n r t] w fun e w' => e = .returned (.tuple #[]) ∧ WStep w w0.heap.size gw v (m ++ be t 8) w' := by
  have hr : room t ((8 : Nat) : Int) := room8 _ hN.t
  clear hN
  go_enter Try.func36, Try.ntmps36
  go_wp2_with (go_at_call 26; refine (putF _ 8 hr _ gw v m _ (h.below (below_alloc w _)) (by omega) (by simp; have := hlow.size; omega)).mono ?_; rintro e w2 ⟨rfl, hs⟩)
  go_end0
  exact ⟨rfl, hs.ext (below_alloc _ _)⟩
set_option maxHeartbeats 1600000 in
theorem wPage (k : Int) (x : Nat) (p o : Int) (ab sb : Option Addr) (cb cs : Nat) (l : List UInt8) (u : List Nat) (n r t : Nat) (hN : RN ⟨k, x, p, o, l, u, n, r, t⟩) (w0 w : World) (gw : Nat) (v : Value) (m : List UInt8) (_ : RB w0 ⟨k, x, p, o, l, u, n, r, t⟩ ab sb cb cs) (hlow : Below w0.heap.size w0 w) (h : WB w w0.heap.size gw v m) (hm : m.length ≤ 500000) :
    Calls Try.prog 38 #[.pointer (some ⟨gw, 0, none⟩), rv k x p o ab l.length cb sb u.length cs n r t] w fun e w' => e = .returned (.tuple #[]) ∧ WStep w w0.heap.size gw v (m ++ be p.toNat 2) w' := by
  obtain ⟨q, rfl⟩ : ∃ q : Nat, p = (q : Int) := ⟨p.toNat, by have := hN.p0; simp at this; omega⟩
  have hq : q < 65536 := by have := hN.p; simp at this; omega
  have hr : room q ((2 : Nat) : Int) := room2 _ hq
  have hwr : IntKind.u64.wrap (q : Int) = (q : Int) := by rw [IntKind.wrap_u64]; omega
  rw [Int.toNat_natCast]
  clear hN
  go_enter Try.func38, Try.ntmps38
  go_wp2_with (go_at_call 26; refine (putF _ 2 hr _ gw v m _ (h.below (below_alloc w _)) (by omega) (by simp; have := hlow.size; omega)).mono ?_; rintro e w2 ⟨rfl, hs⟩)
  go_end0
  exact ⟨rfl, hs.ext (below_alloc _ _)⟩
set_option maxHeartbeats 1600000 in
theorem wOff (k : Int) (x : Nat) (p o : Int) (ab sb : Option Addr) (cb cs : Nat) (l : List UInt8) (u : List Nat) (n r t : Nat) (hN : RN ⟨k, x, p, o, l, u, n, r, t⟩) (w0 w : World) (gw : Nat) (v : Value) (m : List UInt8) (_ : RB w0 ⟨k, x, p, o, l, u, n, r, t⟩ ab sb cb cs) (hlow : Below w0.heap.size w0 w) (h : WB w w0.heap.size gw v m) (hm : m.length ≤ 500000) :
    Calls Try.prog 40 #[.pointer (some ⟨gw, 0, none⟩), rv k x p o ab l.length cb sb u.length cs n r t] w fun e w' => e = .returned (.tuple #[]) ∧ WStep w w0.heap.size gw v (m ++ be o.toNat 2) w' := by
  obtain ⟨q, rfl⟩ : ∃ q : Nat, o = (q : Int) := ⟨o.toNat, by have := hN.o0; simp at this; omega⟩
  have hq : q < 65536 := by have := hN.o; simp at this; omega
  have hr : room q ((2 : Nat) : Int) := room2 _ hq
  have hwr : IntKind.u64.wrap (q : Int) = (q : Int) := by rw [IntKind.wrap_u64]; omega
  rw [Int.toNat_natCast]
  clear hN
  go_enter Try.func40, Try.ntmps40
  go_wp2_with (go_at_call 26; refine (putF _ 2 hr _ gw v m _ (h.below (below_alloc w _)) (by omega) (by simp; have := hlow.size; omega)).mono ?_; rintro e w2 ⟨rfl, hs⟩)
  go_end0
  exact ⟨rfl, hs.ext (below_alloc _ _)⟩
theorem step_append_b_at {ops : Array Oper} {o : Oper} {a : Act} {w : World} {K : Act → World → Prop} {Q : Exit → Act → World → Prop} {E : Prop} (hgd : o.guard = none) (s x : Operand)
    (ho : o.op = .call { callee := .builtin .append, args := #[s, x], argTypes := #[24, 24] }) (base : Nat) (v : Value) (l : List UInt8) (hs : a.eval s = v) (h : OwnB w base v l)
    (ad : Option Addr) (m : List UInt8) (k c : Nat) (hx : a.eval x = .slice ad k c) (hk : k = m.length) (hm : Bs w ad m) (hn : ad = none → c = 0) (hlen : l.length + m.length ≤ 140737488355328) (hb : base ≤ w.heap.size)
    (hK : ∀ v' w', OwnB w' base v' (l ++ m) → w.grownBy w' v.ownBlock → (v'.ownBlock = v.ownBlock ∨ v'.ownBlock = some w.heap.size) → K (a.put o.dst v') w') : if Region.wanted o (yielded ops a.tmps) = true then Oper.wp Try.prog o a w K Q else E := by
  rw [if_pos (by simp [Region.wanted, hgd])]
  exact wp_append_b_at s x ho base v l hs h ad m k c hx hk hm hn hlen hb hK
theorem G2.at {B : Obj} {w w' : World} {base gw : Nat} {v : Value} {m : List UInt8} (h : WB w base gw v m) (g : G2 (w.alloc B) w' gw v.ownBlock) : w'.heap[w.heap.size]? = some B := by
  rw [g.block w.heap.size (by simp) (by have := h.lt; omega) (fun e => by have := (h.blk e).2; omega)]
  exact heap_alloc_new _ _
set_option maxHeartbeats 1600000 in
theorem wBytes (k : Int) (x : Nat) (p o : Int) (ab sb : Option Addr) (cb cs : Nat) (l : List UInt8) (u : List Nat) (n r t : Nat) (hN : RN ⟨k, x, p, o, l, u, n, r, t⟩) (w0 w : World) (gw : Nat) (v : Value) (m : List UInt8) (hRB : RB w0 ⟨k, x, p, o, l, u, n, r, t⟩ ab sb cb cs) (hlow : Below w0.heap.size w0 w) (h : WB w w0.heap.size gw v m) (hm : m.length ≤ 500000) :
    Calls Try.prog 42 #[.pointer (some ⟨gw, 0, none⟩), rv k x p o ab l.length cb sb u.length cs n r t] w fun e w' => e = .returned (.tuple #[]) ∧ WStep w w0.heap.size gw v (m ++ (be l.length 2 ++ l)) w' := by
  have hr : room l.length ((2 : Nat) : Int) := room2 _ (by have := hN.l; simp at this; omega)
  have hl : l.length ≤ 65535 := hN.l
  have hwr : IntKind.u64.wrap (l.length : Int) = (l.length : Int) := by rw [IntKind.wrap_u64]; omega
  clear hN
  go_enter Try.func42, Try.ntmps42
  go_wp2_with (go_at_call 26; refine (putF _ 2 hr _ gw v m _ (h.below (below_alloc w _)) (by omega) (by simp; have := hlow.size; omega)).mono ?_; rintro e w2 ⟨rfl, v1, h1, hv1, g1⟩; have hbx := Lib.hid (G2.at h g1); have z1 : w2.cell? ⟨w.heap.size, 4, none⟩ = some (.slice ab l.length cb) := cell_of_row _ _ 4 _ _ _ hbx.out; obtain ⟨a3, c3, rfl⟩ := h1.own.sl; have z2 : w2.cell? ⟨gw, 0, none⟩ = _ := cell_of_row _ gw 0 _ _ _ h1.cell)
  have hlow2 : Below w0.heap.size w0 w2 := hlow.trans (((below_alloc w _).mono hlow.size).trans (g1.below (h.below (below_alloc w _))))
  have hbs := hRB.b.below hlow2
  have hs1 : WStep w w0.heap.size gw v (m ++ be l.length 2) w2 := WStep.ext (below_alloc w _) ⟨_, h1, hv1, g1⟩
  have hlen : (m ++ be l.length 2).length ≤ 600000 := by simp [be_length]; omega
  obtain ⟨M, hM⟩ : ∃ M, m ++ be l.length 2 = M := ⟨_, rfl⟩
  rw [hM] at h1 hs1 hlen z2 hv1
  have HM := Lib.hid hM
  clear hM
  have hd := h1.below (Below.refl w2.heap.size w2).drew
  have KF : ∀ w' : World, w'.cell? ⟨w.heap.size, 4, none⟩ = some (.slice ab l.length cb) → w'.cell? ⟨w.heap.size, 4, none⟩ = some (.slice ab l.length cb) := fun _ h => h
  have hbox : w.heap.size < w2.heap.size := by have := g1.size; simp at this; omega
  have n1 : w.heap.size ≠ gw := by have := h.lt; omega
  have n2 : ∀ j, (Value.slice a3 M.length c3).ownBlock = some j → w.heap.size ≠ j := fun j e => by
    rcases hv1 with e2 | ⟨q, e2, hq⟩
    · rw [e2] at e; have := (h.blk e).2; omega
    · rw [e2] at e; injection e with e; simp at hq; omega
  refine seqS_start (fun w' : World => w'.cell? ⟨w.heap.size, 4, none⟩ = some (.slice ab l.length cb)) 11 [false, false, false, false, false, false, false, false, false, false, false] (by kernel_rfl) rfl rfl z1 ?_
  refine seqS_take 0 (v := ?_) rfl (by kernel_rfl) (fun _ _ _ h => h) (Or.inl ⟨by rfl, fun w' hb => ?_⟩) ?_
  rotate_left
  · have kf := KF w' hb
    go_simp
    with_reducible rfl
  simp only [Act.put, List.setIfInBounds_toArray, List.set_cons_zero, List.set_cons_succ]
  refine seqS_take 1 (v := ?_) rfl (by kernel_rfl) (fun _ _ _ h => h) (Or.inl ⟨by rfl, fun w' hb => ?_⟩) ?_
  rotate_left
  · have kf := KF w' hb
    go_simp
    with_reducible rfl
  simp only [Act.put, List.setIfInBounds_toArray, List.set_cons_zero, List.set_cons_succ]
  refine seqS_take 2 (v := ?_) rfl (by kernel_rfl) (fun _ _ _ h => h) (Or.inl ⟨by rfl, fun w' hb => ?_⟩) ?_
  rotate_left
  · have kf := KF w' hb
    go_simp
    with_reducible rfl
  simp only [Act.put, List.setIfInBounds_toArray, List.set_cons_zero, List.set_cons_succ]
  refine seqS_take 3 (v := ?_) rfl (by kernel_rfl) (fun _ _ _ h => h) (Or.inl ⟨by rfl, fun w' hb => ?_⟩) ?_
  rotate_left
  · have kf := KF w' hb
    go_simp
    with_reducible rfl
  simp only [Act.put, List.setIfInBounds_toArray, List.set_cons_zero, List.set_cons_succ]
  refine seqS_take 5 (v := ?_) rfl (by kernel_rfl) (fun _ _ _ h => h) (Or.inl ⟨by rfl, fun w' hb => ?_⟩) ?_
  rotate_left
  · have kf := KF w' hb
    go_simp
    with_reducible rfl
  simp only [Act.put, List.setIfInBounds_toArray, List.set_cons_zero, List.set_cons_succ]
  refine seqS_take 6 (v := ?_) rfl (by kernel_rfl) (fun _ _ _ h => h) (Or.inl ⟨by rfl, fun w' hb => ?_⟩) ?_
  rotate_left
  · have kf := KF w' hb
    go_simp
    with_reducible rfl
  simp only [Act.put, List.setIfInBounds_toArray, List.set_cons_zero, List.set_cons_succ]
  refine seqS_do 4 rfl (by kernel_rfl) (fun K hK => ?_)
  go_simp
  refine hK.out _ _ _ (fun _ h => h) z1 ?_
  clear hK K
  simp only [List.set_cons_zero, List.set_cons_succ]
  refine seqS_do 7 rfl (by kernel_rfl) (fun K hK => ?_)
  refine step_append_b_at rfl (.tmp 14) (.tmp 16) rfl w0.heap.size (.slice a3 M.length c3) M rfl hd.own ab l l.length cb rfl rfl (hbs.below (Below.refl _ _).drew) hRB.nb (by omega) hlow2.size ?_
  intro v' w3 ho3 hg3 hs3
  obtain ⟨a4, c4, rfl⟩ := ho3.sl
  have z3 : w3.cell? ⟨w.heap.size, 4, none⟩ = some (.slice ab l.length cb) := cell_of_row _ _ 4 _ _ _ ((hg3.block _ hbox (fun e => n2 _ e.symm rfl)).trans hbx.out)
  refine hK.out _ _ _ (fun _ h => h) z3 ?_
  clear hK K
  simp only [List.set_cons_zero, List.set_cons_succ]
  have hr2 : w3.heap[gw]? = some _ := (hg3.block gw hd.lt (fun e => hd.ne e.symm)).trans hd.cell
  have hz2 : w3.cell? ⟨gw, 0, none⟩ = _ := cell_of_row _ gw 0 _ _ _ hr2
  have hf2 := frozen_of_row _ gw 0 _ _ hr2
  refine seqS_take 8 (v := ?_) rfl (by kernel_rfl) (fun _ _ _ h => h) (Or.inl ⟨by rfl, fun w' hb => ?_⟩) ?_
  rotate_left
  · have kf := KF w' hb
    go_simp
    with_reducible rfl
  simp only [Act.put, List.setIfInBounds_toArray, List.set_cons_zero, List.set_cons_succ]
  refine seqS_take 9 (v := ?_) rfl (by kernel_rfl) (fun _ _ _ h => h) (Or.inl ⟨by rfl, fun w' hb => ?_⟩) ?_
  rotate_left
  · have kf := KF w' hb
    go_simp
    with_reducible rfl
  simp only [Act.put, List.setIfInBounds_toArray, List.set_cons_zero, List.set_cons_succ]
  refine seqS_do 10 rfl (by kernel_rfl) (fun K hK => ?_)
  go_simp
  refine hK.out _ _ _ (fun _ h => h) (by rw [cell_setCell_other n1.symm]; exact z3) ?_
  clear hK K
  simp only [List.set_cons_zero, List.set_cons_succ]
  refine seqS_end (by kernel_rfl) (fun hEnd => ?_)
  go_wp2_with fail
  go_end0
  have e := (hd.store ho3 hg3 hs3).ext (Below.refl w2.heap.size w2).drew
  rw [List.length_append, ← List.append_assoc, HM.out] at *
  exact ⟨rfl, WStep.ext (below_alloc w _) (WStep.trans hv1 g1 h1 e)⟩
set_option maxHeartbeats 1600000 in
theorem wSubs (k : Int) (x : Nat) (p o : Int) (ab sb : Option Addr) (cb cs : Nat) (l : List UInt8) (u : List Nat) (n r t : Nat) (hN : RN ⟨k, x, p, o, l, u, n, r, t⟩) (w0 w : World) (gw : Nat) (v : Value) (m : List UInt8) (hRB : RB w0 ⟨k, x, p, o, l, u, n, r, t⟩ ab sb cb cs) (hlow : Below w0.heap.size w0 w) (h : WB w w0.heap.size gw v m) (hm : m.length ≤ 500000) :
    Calls Try.prog 44 #[.pointer (some ⟨gw, 0, none⟩), rv k x p o ab l.length cb sb u.length cs n r t] w fun e w' => e = .returned (.tuple #[]) ∧ WStep w w0.heap.size gw v (m ++ (be u.length 2 ++ beS u)) w' := by
  have hr : room u.length ((2 : Nat) : Int) := room2 _ (by have := hN.u; simp at this; omega)
  have hl : u.length ≤ 65535 := hN.u
  have hus : ∀ n ∈ u, n < 18446744073709551616 := hN.us
  have hwr : IntKind.u64.wrap (u.length : Int) = (u.length : Int) := by rw [IntKind.wrap_u64]; omega
  clear hN
  have hlen : (m ++ be u.length 2).length ≤ 600000 - 65535 := by simp [be_length]; omega
  rw [← List.append_assoc]
  obtain ⟨M, hM⟩ : ∃ M, m ++ be u.length 2 = M := ⟨_, rfl⟩
  rw [hM] at hlen ⊢
  have HM := Lib.hid hM
  clear hM
  go_enter Try.func44, Try.ntmps44
  go_wp2_with (go_at_call 26; refine (putF _ 2 hr _ gw v m _ (h.below (below_alloc w _)) (by omega) (by simp; have := hlow.size; omega)).mono ?_; rintro e w2 ⟨rfl, v1, h1, hv1, g1⟩; have z1 : w2.cell? ⟨w.heap.size, 5, none⟩ = some (.slice sb u.length cs) := cell_of_row _ _ 5 _ _ _ (G2.at h g1))
  rw [HM.out] at h1
  have hs1 : WStep w w0.heap.size gw v M w2 := WStep.ext (below_alloc w _) ⟨_, h1, hv1, g1⟩
  clear h1 hv1 g1 z1 hr
  go_loopw [15] (fun i wr => ∃ k : Nat, k ≤ u.length ∧ i = .int .i64 k ∧ WStep w w0.heap.size gw v (M ++ beS (u.take k)) wr) (fun i _ => u.length - (intOf i).toNat)
  case atStart => exact ⟨0, by omega, rfl, by simpa [beS] using hs1⟩
  case round =>
    clear hs1
    obtain ⟨j, hj, rfl, hs⟩ := hrel
    by_cases hlt : j < u.length
    · have hl2 := hlow.trans (hs.low h)
      obtain ⟨b1, o1, rfl⟩ := hRB.s.ex (k := j) hlt
      have c1 := (hRB.s.below hl2).cell b1 o1 rfl j hlt
      have hts := Lib.hid (take_snoc u j hlt)
      have hrm := Lib.hid (room8 (u[j]) (hus _ (List.getElem_mem hlt)))
      simp only at c1
      obtain ⟨q, hq⟩ : ∃ q, u[j] = q := ⟨_, rfl⟩
      rw [hq] at c1 hts hrm
      clear hq
      obtain ⟨v1, h1, hv1, g1⟩ := hs
      have hln : (M ++ beS (u.take j)).length ≤ 2000000 := by have := List.length_take_le j u; rw [List.length_append, beS_len]; omega
      go_wp2_with (go_at_call 26; refine (putF _ 8 hrm.out _ gw v1 _ _ h1 hln (by have := hl2.size; omega)).mono ?_; rintro e w3 ⟨rfl, hs3⟩)
      go_roundw
      case rel => exact ⟨j + 1, by omega, by go_num, by rw [hts.out, beS_snoc, ← List.append_assoc]; exact WStep.trans hv1 g1 h1 hs3⟩
      case measure => simp [intOf]; omega
    · rw [List.take_of_length_le (by omega)] at hs
      go_wp2_with fail
      go_end0
      exact ⟨rfl, hs⟩
end Go.Proofs.Ytokijkinlcdjeaa

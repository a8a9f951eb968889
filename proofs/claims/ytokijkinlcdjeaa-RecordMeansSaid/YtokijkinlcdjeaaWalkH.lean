/- Read; laws of readers. -/
import Derived.Test.YtokijkinlcdjeaaWalkE
namespace Go.Proofs.Ytokijkinlcdjeaa
open Go.RowKit WireM
theorem szOf_yes (n : Int) (h : 0 < n ∧ n ≤ 8) : szOf n = n := by unfold szOf; rw [if_pos h]
theorem szOf_no (n : Int) (h : ¬ (0 < n ∧ n ≤ 8)) : szOf n = -1 := by unfold szOf; rw [if_neg h]
theorem run_fits_b (w : World) (base g k cap : Nat) (ty : TypeId) (xs : List UInt8) (hk : k = xs.length) (h : OwnB w base (.slice (some ⟨g, 0, none⟩) k cap) xs) (a : Option Addr) (m : List UInt8) (c : Nat) (hm : Bs w a m) (hn : a = none → c = 0) (hfit : k + m.length ≤ cap) :
    ∃ w', (Builtin.append_ #[24, 24] ty #[.slice (some ⟨g, 0, none⟩) k cap, .slice a m.length c]).run Try.prog w = .ok (.slice (some ⟨g, 0, none⟩) (k + m.length) cap) w' ∧ OwnB w' base (.slice (some ⟨g, 0, none⟩) (k + m.length) cap) (xs ++ m) ∧ w.grownBy w' (some g) := by
  subst hk
  obtain ⟨i0, hi, hz0, hz1, hz2⟩ := info_parts info5'
  cases a with
  | none =>
    have e : m = [] := by
      cases m with
      | nil => rfl
      | cons x m => obtain ⟨_, _, h⟩ := hm.addr (by simp); cases h
    subst e
    obtain rfl := hn rfl
    have := run_append_owned_none (P := Try.prog) (w := w) base 24 ty 5 i0 1 Try.underlying24 hi _ xs.length (bv xs) h
    exact ⟨w, by simpa using this, by simpa using h, ⟨rfl, rfl, rfl, Nat.le_refl _, fun _ _ _ => rfl⟩⟩
  | some ad =>
    have hnews : ∀ j u, (bv m)[j]? = some u → w.cell? (ad.add j) = some u := by
      intro j u hj
      have hjl : j < m.length := by
        have := (List.getElem?_eq_some_iff.1 hj).1; rwa [bv_length] at this
      obtain ⟨b, o, e⟩ := hm.ex hjl
      cases e
      rw [Addr.add_mid, hm.cell b o rfl j hjl, ← hj, bv_get m j hjl]
    obtain ⟨w', h1, h2, h3⟩ := run_append_fits (P := Try.prog) w base 24 ty 5 i0 1 Try.underlying24 hi hz1 g xs.length cap (bv xs) h ad m.length c (bv m) (by rw [bv_length]; omega) hnews (bv_one m) hfit
    refine ⟨w', h1, ?_, h3⟩
    unfold OwnB
    rw [bv_append, List.length_append]
    exact h2
theorem wpList_fits_b {ops : Array Oper} {rest : List Oper} {o : Oper} {act : Act} {w : World} {Q : Exit → Act → World → Prop} (hgd : o.guard = none) (s x : Operand)
    (ho : o.op = .call { callee := .builtin .append, args := #[s, x], argTypes := #[24, 24] }) (base g k cap : Nat) (xs : List UInt8) (hk : k = xs.length) (hs : act.eval s = .slice (some ⟨g, 0, none⟩) k cap) (h : OwnB w base (.slice (some ⟨g, 0, none⟩) k cap) xs)
    (a : Option Addr) (m : List UInt8) (c : Nat) (hx : act.eval x = .slice a m.length c) (hm : Bs w a m) (hn : a = none → c = 0) (hfit : k + m.length ≤ cap)
    (hK : ∀ w', OwnB w' base (.slice (some ⟨g, 0, none⟩) (k + m.length) cap) (xs ++ m) → w.grownBy w' (some g) → wpList Try.prog ops Q rest (act.put o.dst (.slice (some ⟨g, 0, none⟩) (k + m.length) cap)) w') : wpList Try.prog ops Q (o :: rest) act w := by
  refine wpList_plain hgd fun K hK' => ?_
  obtain ⟨w', hrun, r1, r2⟩ := run_fits_b w base g k cap o.type xs hk h a m c hm hn hfit
  unfold Oper.wp
  simp [execOp, ho, resolve, invoke, builtin, hs, hx, hrun, Result.andThen]
  exact hK' _ _ (hK w' r1 r2)
set_option maxHeartbeats 800000 in
theorem Read_any (a : Option Addr) (cap : Nat) (l : List UInt8) (w : World) (h : Bs w a l) (hna : a = none → cap = 0) (hl : l.length ≤ 140737488355327) :
    Calls Try.prog 19 #[.slice a l.length cap] w fun e w' => (∃ g, e = .returned (.pointer (some ⟨g, 0, none⟩)) ∧ Rd w' w.heap.size w'.heap.size g l 0) ∧ Below w.heap.size w w' := by
  obtain ⟨i0, hi, hz0, hz1, hz2⟩ := info_parts info5'
  have hw1 : IntKind.i64.wrap ((l.length : Int) + 1) = ((l.length + 1 : Nat) : Int) := by rw [IntKind.wrap_i64]; omega
  have hmk : ∀ w1 : World, w1.ownsRow w.heap.size 5 1 (.slice (some ⟨w.heap.size, 0, none⟩) 0 (l.length + 1)) 0 [] → w.grownBy w1 none → OwnB w1 w.heap.size (.slice (some ⟨w.heap.size, 0, none⟩) 0 (l.length + 1)) [] ∧ Below w.heap.size w w1 ∧ Bs w1 a l ∧ w.heap.size ≤ w1.heap.size :=
    fun w1 h1 h2 => ⟨h1, below_grown h2, h.below (below_grown h2), h2.size⟩
  have HM := Lib.hid hmk
  clear hmk h
  go_enter Try.func19, Try.ntmps19
  go_wp2_with (first | (at_builtin; refine wpList_fits_b rfl (.tmp 6) (.tmp 7) rfl w.heap.size w.heap.size 0 (l.length + 1) [] rfl rfl hown1 a l cap rfl hB hna (by omega) ?_; intro w2 hown2 hg2; have hb2 := hb1.grown hg2 hsz (fun k hk => by cases hk; exact Nat.le_refl _); clear hg2; rw [List.nil_append, Nat.zero_add] at hown2) | (refine wpList_make_own _ rfl _ _ 24 rfl w.heap.size 5 i0 (.int .u8 0) 1 Try.underlying24 hi hz0 hz1 .i64 .i64 _ (l.length + 1) rfl rfl (by omega) (by rw [hz2]; omega) (by unfold maxLen; omega) (Nat.le_refl _) ?_; intro w1 hown1' hg1; obtain ⟨hown1, hb1, hB, hsz⟩ := HM.out w1 hown1' hg1; clear hown1' hg1))
  go_ret
  have hlt : w.heap.size < w2.heap.size := by
    obtain ⟨_, _, e, _, _, hx⟩ := hown2.form
    cases e
    obtain ⟨g, e, _, h2⟩ := hx _ rfl
    cases e
    exact h2
  have hs3 : (w2.alloc (Obj.cells #[Value.slice (some ⟨w.heap.size, 0, none⟩) l.length (l.length + 1), Value.int IntKind.i64 0] 71)).heap.size = w2.heap.size + 1 := by simp
  refine ⟨⟨w2.heap.size, rfl, ⟨by omega, by omega, w.heap.size, l.length + 1, heap_alloc_new _ _, by omega, hown2.below (below_alloc _ _), Nat.le_refl _, by omega⟩⟩, belT hb2 (below_alloc _ _)⟩
theorem Bs.grown {w w' : World} {a : Option Addr} {l : List UInt8} {g : Nat} (h : Bs w a l) (hg : w.grownBy w' (some g)) (hne : ∀ b o s, a = some ⟨b, o, s⟩ → b ≠ g) : Bs w' a l :=
  ⟨h.addr, fun b o e i hi => by
    have hc := h.cell b o e i hi
    have hlt := block_lt_of_cell hc
    rw [World.cell?_of_block (w := w) (hg.block b hlt (by simpa using hne b o none e))]
    exact hc⟩
theorem grown_below {w a b : World} {g : Nat} (h : w.grownBy a (some g)) (k : Below a.heap.size a b) : w.grownBy b (some g) :=
  grown_trans h ⟨k.os, k.tape, k.output, k.size, fun j hj _ => k.block j hj⟩
theorem stepAt_neg (l : List UInt8) (p n : Int) (h : p < 0) : stepAt l p n = p := by unfold stepAt; rw [if_pos h]
theorem gotAt_neg (l : List UInt8) (p n : Int) (h : p < 0) : gotAt l p n = [] := by unfold gotAt; rw [if_neg (by omega)]
theorem blob_two (l : List UInt8) (p : Int) : blobAt l p = gotAt l (stepAt l p 2) (numAt l p 2) ∧ blobStep l p = stepAt l (stepAt l p 2) (numAt l p 2) := by
  have e2 : szOf 2 = 2 := by simp [szOf]
  unfold blobAt blobStep numAt
  rw [e2]
  by_cases h : stepAt l p 2 < 0
  · rw [if_pos h, if_pos h, gotAt_neg _ _ _ h, stepAt_neg _ _ _ h]; exact ⟨rfl, rfl⟩
  · rw [if_neg h, if_neg h]; exact ⟨rfl, rfl⟩
theorem val_lt16 (l : List UInt8) (p : Int) : numAt l p 2 < 65536 := by
  have h1 := val_lt (gotAt l p (szOf 2))
  have h2 : (gotAt l p (szOf 2)).length ≤ 2 := gotAt_len l p (szOf 2) 2 (by simp [szOf])
  have h3 : 256 ^ (gotAt l p (szOf 2)).length ≤ 256 ^ 2 := Nat.pow_le_pow_right (by omega) h2
  unfold numAt; omega
theorem below_grow {B : Nat} {w0 w w' : World} {g : Nat} (h : Below B w0 w) (hB : B ≤ w.heap.size) (hg : w.grownBy w' (some g)) (hg0 : B ≤ g) : Below B w0 w' :=
  h.grown hg hB (fun k hk => by cases hk; exact hg0)
theorem Rd.kept {w w' : World} {base top g g' : Nat} {l : List UInt8} {p : Int} (h : Rd w base top g l p) (hg : w.grownBy w' (some g')) (hd : g' < base ∨ top ≤ g') : Rd w' base top g l p := by
  obtain ⟨b, cap, hc, hne, hown, h1, h2⟩ := h.cells
  have hu := h.up
  have hl := h.lt
  exact ⟨hu, hl, b, cap, (hg.block _ (Array.getElem?_eq_some_iff.1 hc).1 (by simp; omega)).trans hc, hne, hown.kept hg (.inr (by simp [Value.ownBlock]; omega)), h1, h2⟩
theorem Rd.below {w w' : World} {base top g : Nat} {l : List UInt8} {p : Int} (h : Rd w base top g l p) (hb : Below w.heap.size w w') : Rd w' base top g l p := by
  obtain ⟨b, cap, hc, hne, hown, h1, h2⟩ := h.cells
  exact ⟨h.up, h.lt, b, cap, (hb.block _ (Array.getElem?_eq_some_iff.1 hc).1).trans hc, hne, hown.below hb, h1, h2⟩
theorem Got.keep {w w' : World} {base top g g' : Nat} {a : Option Addr} {m : List UInt8} (h : Got w base top g a m) (hg : w.grownBy w' (some g')) (hd : g' = g ∨ g' < base ∨ top ≤ g') : Got w' base top g a m :=
  ⟨h.bs.grown hg (fun b o s e => by have := h.away b o s e; omega), h.nn, h.away⟩
theorem Got.below {w w' : World} {base top g : Nat} {a : Option Addr} {m : List UInt8} (h : Got w base top g a m) (hb : Below w.heap.size w w') : Got w' base top g a m :=
  ⟨h.bs.below hb, h.nn, h.away⟩
theorem Number_at (base top g : Nat) (l : List UInt8) (p n q : Int) (N : Nat) (hq : stepAt l p (szOf n) = q) (hN : numAt l p n = N) (w : World) (h : Rd w base top g l p) (hl : l.length ≤ 140737488355328) (hp : p ≤ l.length) :
    Calls Try.prog 20 #[.pointer (some ⟨g, 0, none⟩), .int .i64 n] w fun e w' => e = .returned (.int .u64 (N : Int)) ∧ Rd w' base top g l q ∧ w.grownBy w' (some g) := by
  refine (Number_any base top g l p n w h hl hp).mono ?_
  rintro e w' ⟨h1, h3⟩
  rw [hN] at h1
  rw [hq] at h3
  exact ⟨h1, h3⟩
theorem Failed_at (base top g : Nat) (l : List UInt8) (p : Int) (z : Bool) (hz : decide (p < 0) = z) (w : World) (h : Rd w base top g l p) :
    Calls Try.prog 50 #[.pointer (some ⟨g, 0, none⟩)] w fun e w' => e = .returned (.bool z) ∧ w = w' := by
  have := Failed_any base top g l p w h
  rwa [hz] at this
theorem blobL_len (l : List UInt8) : (blobL l).length = l.length + 2 := by simp [blobL, be_length]; omega
theorem got_mid (pre m post : List UInt8) : gotAt (pre ++ (m ++ post)) pre.length m.length = m ∧ stepAt (pre ++ (m ++ post)) pre.length m.length = ((pre.length + m.length : Nat) : Int) := by
  unfold gotAt stepAt
  have hl : ((pre ++ (m ++ post)).length : Int) = pre.length + (m.length + post.length) := by simp
  rw [if_pos (by omega), if_neg (by omega), if_pos (by omega)]
  refine ⟨?_, by omega⟩
  simp
theorem num_mid (pre post : List UInt8) (n k : Nat) (h : room n k) : numAt (pre ++ (be n k ++ post)) pre.length k = n ∧ stepAt (pre ++ (be n k ++ post)) pre.length (szOf k) = ((pre.length + k : Nat) : Int) := by
  obtain ⟨h1, h2, h3⟩ := h
  simp only [Int.toNat_natCast] at h3
  have := got_mid pre (be n k) post
  rw [be_length] at this
  unfold numAt
  rw [szOf_yes _ (by omega), this.1, this.2, val_be]
  exact ⟨Nat.mod_eq_of_lt h3, rfl⟩
theorem blob_mid (pre post b : List UInt8) (h : b.length ≤ 65535) : blobAt (pre ++ (blobL b ++ post)) pre.length = b ∧ blobStep (pre ++ (blobL b ++ post)) pre.length = ((pre.length + (blobL b).length : Nat) : Int) := by
  obtain ⟨h1, h2⟩ := blob_two (pre ++ (blobL b ++ post)) pre.length
  have e : pre ++ (blobL b ++ post) = pre ++ (be b.length 2 ++ (b ++ post)) := by simp [blobL]
  have h3 := num_mid pre (b ++ post) b.length 2 ⟨by omega, by omega, by show b.length < 256 ^ 2; omega⟩
  have hs : szOf ((2 : Nat) : Int) = 2 := szOf_yes 2 (by omega)
  rw [hs] at h3
  rw [h1, h2, e]
  have e1 : numAt (pre ++ (be b.length 2 ++ (b ++ post))) (pre.length : Int) 2 = b.length := h3.1
  rw [e1, h3.2]
  have e2 : pre ++ (be b.length 2 ++ (b ++ post)) = (pre ++ be b.length 2) ++ (b ++ post) := by simp
  have h4 := got_mid (pre ++ be b.length 2) b post
  rw [List.length_append, be_length] at h4
  rw [e2, h4.1, h4.2, blobL_len]
  exact ⟨rfl, by omega⟩
end Go.Proofs.Ytokijkinlcdjeaa

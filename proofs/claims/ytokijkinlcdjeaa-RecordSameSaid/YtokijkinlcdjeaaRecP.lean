/- Reading what was written: the plain law. -/
import Derived.Test.YtokijkinlcdjeaaRecJ
namespace Go.Proofs.Ytokijkinlcdjeaa
open Go.RowKit WireM

def rdStep (d : List UInt8) (c : UInt8) (s : Int × Rec) : Int × Rec :=
  if c = 120 then (stepAt d s.1 (szOf 8), { s.2 with xid := numAt d s.1 8 }) else if c = 110 then (stepAt d s.1 (szOf 8), { s.2 with next := numAt d s.1 8 }) else if c = 114 then (stepAt d s.1 (szOf 8), { s.2 with redo := numAt d s.1 8 }) else if c = 116 then (stepAt d s.1 (szOf 8), { s.2 with tl := numAt d s.1 8 }) else
  if c = 112 then (stepAt d s.1 (szOf 2), { s.2 with page := ((numAt d s.1 2 : Nat) : Int) }) else if c = 111 then (stepAt d s.1 (szOf 2), { s.2 with off := ((numAt d s.1 2 : Nat) : Int) }) else if c = 98 then (blobStep d s.1, { s.2 with bytes := blobAt d s.1 }) else
  if c = 115 then ((srun d (numAt d s.1 2) (stepAt d s.1 (szOf 2), [])).1, { s.2 with subs := (srun d (numAt d s.1 2) (stepAt d s.1 (szOf 2), [])).2 }) else s
def rdF (d : List UInt8) (F : List UInt8) (s : Int × Rec) : Int × Rec := F.foldl (fun s c => rdStep d c s) s
def rec0 (k : Nat) : Rec := ⟨k, 0, 0, 0, [], [], 0, 0, 0⟩
def rdR (d : List UInt8) : Rec := (rdF d (formL (numAt d 0 1)) (stepAt d 0 (szOf 1), rec0 (numAt d 0 1))).2
def ofL (l : List UInt8) (at_ : Nat) : Option (Rec × Nat) :=
  if val (l.take 4) < 17 ∨ l.length < val (l.take 4) then none else if mayB (rdR ((l.take (val (l.take 4))).drop 16)) = true ∧ encR (rdR ((l.take (val (l.take 4))).drop 16)) at_ = l.take (val (l.take 4)) then some (rdR ((l.take (val (l.take 4))).drop 16), val (l.take 4)) else none
def setL (r : Rec) (s : Rec) (c : UInt8) : Rec :=
  if c = 120 then { s with xid := r.xid } else if c = 110 then { s with next := r.next } else if c = 114 then { s with redo := r.redo } else if c = 116 then { s with tl := r.tl } else if c = 112 then { s with page := r.page } else if c = 111 then { s with off := r.off } else if c = 98 then { s with bytes := r.bytes } else if c = 115 then { s with subs := r.subs } else s
theorem rdF_snoc (d F : List UInt8) (k : Nat) (h : k < F.length) (s : Int × Rec) : rdF d (F.take (k + 1)) s = rdStep d F[k] (rdF d (F.take k) s) := by
  simp only [rdF, take_snoc F k h, List.foldl_append, List.foldl_cons, List.foldl_nil]
theorem num_at2 (pre post : List UInt8) (n : Nat) (h : n < 65536) : numAt (pre ++ (be n 2 ++ post)) pre.length 2 = n ∧ stepAt (pre ++ (be n 2 ++ post)) pre.length (szOf 2) = ((pre.length + 2 : Nat) : Int) := num_mid pre post n 2 (room2 n h)
theorem num_at8 (pre post : List UInt8) (n : Nat) (h : n < 18446744073709551616) : numAt (pre ++ (be n 8 ++ post)) pre.length 8 = n ∧ stepAt (pre ++ (be n 8 ++ post)) pre.length (szOf 8) = ((pre.length + 8 : Nat) : Int) := num_mid pre post n 8 (room8 n h)
theorem srun_mid (pre post : List UInt8) (u : List Nat) (hu : ∀ n ∈ u, n < 18446744073709551616) : ∀ k, k ≤ u.length → srun (pre ++ (beS u ++ post)) k (((pre.length : Nat) : Int), []) = (((pre.length + 8 * k : Nat) : Int), u.take k) := by
  intro k
  induction k with
  | zero => intro _; simp [srun]
  | succ k ih =>
    intro hk
    have hlt : k < u.length := by omega
    rw [srun, ih (by omega)]
    have e1 : beS u = beS (u.take k) ++ (be u[k] 8 ++ beS (u.drop (k + 1))) := by
      have : u = u.take k ++ (u[k] :: u.drop (k + 1)) := by simp
      have e2 : beS (u.take k ++ (u[k] :: u.drop (k + 1))) = beS (u.take k) ++ (be u[k] 8 ++ beS (u.drop (k + 1))) := by simp only [beS, List.map_append, List.map_cons, List.flatten_append, List.flatten_cons]
      rw [← e2, ← this]
    have e3 : pre ++ (beS u ++ post) = (pre ++ beS (u.take k)) ++ (be u[k] 8 ++ (beS (u.drop (k + 1)) ++ post)) := by rw [e1]; simp
    have e4 : (pre ++ beS (u.take k)).length = pre.length + 8 * k := by rw [List.length_append, beS_len, List.length_take]; omega
    have h := num_at8 (pre ++ beS (u.take k)) (beS (u.drop (k + 1)) ++ post) u[k] (hu _ (List.getElem_mem hlt))
    rw [e4] at h
    rw [e3]
    unfold sstep
    rw [if_neg (by simp only; omega)]
    simp only
    rw [h.1, h.2, take_snoc u k hlt]
    congr 2
theorem rdStep_mid (pre post : List UInt8) (c : UInt8) (hc : isLet c) (r s : Rec) (hN : RN r) : rdStep (pre ++ (encL c r ++ post)) c (((pre.length : Nat) : Int), s) = ((((pre ++ encL c r).length : Nat) : Int), setL r s c) := by
  rw [List.length_append]
  rcases hc with rfl | rfl | rfl | rfl | rfl | rfl | rfl | rfl
  · have h := num_at8 pre post r.xid hN.x
    have e : encL 120 r = be r.xid 8 := rfl
    rw [e, be_length]; show (_, _) = _; rw [h.1, h.2]; rfl
  · have h := num_at8 pre post r.next hN.n
    have e : encL 110 r = be r.next 8 := rfl
    rw [e, be_length]; show (_, _) = _; rw [h.1, h.2]; rfl
  · have h := num_at8 pre post r.redo hN.r
    have e : encL 114 r = be r.redo 8 := rfl
    rw [e, be_length]; show (_, _) = _; rw [h.1, h.2]; rfl
  · have h := num_at8 pre post r.tl hN.t
    have e : encL 116 r = be r.tl 8 := rfl
    rw [e, be_length]; show (_, _) = _; rw [h.1, h.2]; rfl
  · have h := num_at2 pre post r.page.toNat (by have := hN.p; have := hN.p0; omega)
    have e : encL 112 r = be r.page.toNat 2 := rfl
    have e2 : ((r.page.toNat : Nat) : Int) = r.page := by have := hN.p0; omega
    rw [e, be_length]; show (_, _) = _; rw [h.1, h.2, e2]; rfl
  · have h := num_at2 pre post r.off.toNat (by have := hN.o; have := hN.o0; omega)
    have e : encL 111 r = be r.off.toNat 2 := rfl
    have e2 : ((r.off.toNat : Nat) : Int) = r.off := by have := hN.o0; omega
    rw [e, be_length]; show (_, _) = _; rw [h.1, h.2, e2]; rfl
  · have h := blob_mid pre post r.bytes hN.l
    have e : encL 98 r = blobL r.bytes := rfl
    rw [e]; show (_, _) = _; rw [h.1, h.2]; rfl
  · have e : encL 115 r = be r.subs.length 2 ++ beS r.subs := rfl
    rw [e]
    have e2 : pre ++ (be r.subs.length 2 ++ beS r.subs ++ post) = pre ++ (be r.subs.length 2 ++ (beS r.subs ++ post)) := by simp
    have h := num_at2 pre (beS r.subs ++ post) r.subs.length (by have := hN.u; omega)
    rw [e2]
    have e3 : pre ++ (be r.subs.length 2 ++ (beS r.subs ++ post)) = (pre ++ be r.subs.length 2) ++ (beS r.subs ++ post) := by simp
    have h2 := srun_mid (pre ++ be r.subs.length 2) post r.subs hN.us r.subs.length (Nat.le_refl _)
    rw [List.length_append, be_length] at h2
    show (_, _) = _
    rw [h.1, h.2]
    rw [e3, h2, List.take_of_length_le (Nat.le_refl _), List.length_append, be_length, beS_len]
    simp only [setL]
    congr 1
    omega
theorem rdF_mid (F : List UInt8) (hF : ∀ c ∈ F, isLet c) (r : Rec) (hN : RN r) : ∀ (pre post : List UInt8) (s : Rec), rdF (pre ++ (encF F r ++ post)) F (((pre.length : Nat) : Int), s) = ((((pre ++ encF F r).length : Nat) : Int), F.foldl (setL r) s) := by
  induction F with
  | nil => intro pre post s; simp [rdF, encF]
  | cons c F ih =>
    intro pre post s
    have e : encF (c :: F) r = encL c r ++ encF F r := by simp [encF]
    have e2 : pre ++ (encF (c :: F) r ++ post) = pre ++ (encL c r ++ (encF F r ++ post)) := by rw [e]; simp
    have e3 : pre ++ (encL c r ++ (encF F r ++ post)) = (pre ++ encL c r) ++ (encF F r ++ post) := by simp
    have h := ih (fun c hc => hF c (List.mem_cons_of_mem _ hc)) (pre ++ encL c r) post (setL r s c)
    show rdF _ F (rdStep _ c _) = _
    rw [e2, rdStep_mid pre _ c (hF c (List.mem_cons_self ..)) r s hN, e3, h, e]
    simp
theorem set_all (r : Rec) (h : mayB r = true) : (formL r.kind).foldl (setL r) (rec0 r.kind.toNat) = r := by
  obtain ⟨_, _, _, hk1, hk2⟩ := mayN r h
  have hb : r = bareR r := by
    unfold mayB at h
    simp only [Bool.and_eq_true, decide_eq_true_eq] at h
    exact h.1
  have hk : r.kind = 1 ∨ r.kind = 2 ∨ r.kind = 3 ∨ r.kind = 4 ∨ r.kind = 5 ∨ r.kind = 6 ∨ r.kind = 7 ∨ r.kind = 8 := by omega
  obtain ⟨k, x, p, o, l, u, n, rr, t⟩ := r
  simp only at hk
  rcases hk with rfl | rfl | rfl | rfl | rfl | rfl | rfl | rfl <;> (simp [bareR] at hb; simp [formL, setL, rec0, hb])
theorem rdR_body (r : Rec) (h : mayB r = true) : rdR (bodyL r) = r := by
  obtain ⟨hN, _, _, hk1, hk2⟩ := mayN r h
  have e1 : be r.kind.toNat 1 = [UInt8.ofNat r.kind.toNat] := by simp [be]
  have hd : bodyL r = [] ++ (be r.kind.toNat 1 ++ encF (formL r.kind) r) := by rw [e1]; rfl
  have h256 : r.kind.toNat < 256 ^ ((1 : Nat) : Int).toNat := by show r.kind.toNat < 256 ^ 1; omega
  have hn := num_mid [] (encF (formL r.kind) r) r.kind.toNat 1 ⟨by decide, by decide, h256⟩
  rw [← hd] at hn
  have hk : ((r.kind.toNat : Nat) : Int) = r.kind := by omega
  have h1 : numAt (bodyL r) 0 1 = r.kind.toNat := hn.1
  have h2 : stepAt (bodyL r) 0 (szOf 1) = 1 := hn.2
  unfold rdR
  rw [h1, h2, hk]
  have hd2 : bodyL r = [UInt8.ofNat r.kind.toNat] ++ (encF (formL r.kind) r ++ []) := by rw [List.append_nil]; rfl
  have h3 := rdF_mid (formL r.kind) (form_let r.kind) r hN [UInt8.ofNat r.kind.toNat] [] (rec0 r.kind.toNat)
  rw [← hd2] at h3
  have h4 : rdF (bodyL r) (formL r.kind) (1, rec0 r.kind.toNat) = _ := h3
  rw [h4]
  exact set_all r h
theorem headL_len (r : Rec) (a : Nat) : (headL r a).length = 12 := by simp [headL, be_length]
theorem encR_len (r : Rec) (a : Nat) : (encR r a).length = 16 + (bodyL r).length := by simp only [encR, List.length_append, headL_len, be_length]
theorem bodyL_len (r : Rec) (h : mayB r = true) : 1 ≤ (bodyL r).length ∧ (bodyL r).length ≤ 8300 := by
  obtain ⟨_, h1, h2, _, _⟩ := mayN r h
  have := encF_len (formL r.kind) r h1 h2
  have := form_len r.kind
  simp only [bodyL, List.length_cons]
  omega
theorem encR_take4 (r : Rec) (a : Nat) (post : List UInt8) (h : mayB r = true) : val ((encR r a ++ post).take 4) = (encR r a).length := by
  have hl := bodyL_len r h
  have e : (encR r a ++ post).take 4 = be (16 + (bodyL r).length) 4 := by
    have : encR r a ++ post = be (16 + (bodyL r).length) 4 ++ (be a 8 ++ be (CrcM.sum (headL r a ++ bodyL r)).toNat 4 ++ bodyL r ++ post) := by simp [encR, headL]
    rw [this, List.take_append_of_le_length (by rw [be_length]; omega), List.take_of_length_le (by rw [be_length]; omega)]
  rw [e, val_be, encR_len]
  exact Nat.mod_eq_of_lt (by omega)
theorem encR_body (r : Rec) (a : Nat) : (encR r a).drop 16 = bodyL r := by
  have : encR r a = (headL r a ++ be (CrcM.sum (headL r a ++ bodyL r)).toNat 4) ++ bodyL r := rfl
  rw [this, List.drop_left' (by rw [List.length_append, headL_len, be_length])]
/-- what was written is read, with whatever behind it -/
theorem ofL_enc (r : Rec) (a : Nat) (post : List UInt8) (h : mayB r = true) : ofL (encR r a ++ post) a = some (r, (encR r a).length) := by
  have hl := bodyL_len r h
  have hn := encR_len r a
  unfold ofL
  rw [encR_take4 r a post h, List.take_append_of_le_length (Nat.le_refl _), List.take_of_length_le (Nat.le_refl _), encR_body, rdR_body r h, if_neg (by rw [List.length_append]; omega), if_pos ⟨h, rfl⟩]
theorem ofL_cut (r : Rec) (a : Nat) (h : mayB r = true) : ofL ((encR r a).take ((encR r a).length - 1)) a = none := by
  have hl := bodyL_len r h
  have hn := encR_len r a
  have e := encR_take4 r a [] h
  rw [List.append_nil] at e
  unfold ofL
  rw [List.take_take, Nat.min_eq_left (by omega), e, if_pos (.inr (by rw [List.length_take]; omega))]
theorem be_inj (n m k : Nat) (hn : n < 256 ^ k) (hm : m < 256 ^ k) (h : be n k = be m k) : n = m := by
  have := congrArg val h
  rwa [val_be, val_be, Nat.mod_eq_of_lt hn, Nat.mod_eq_of_lt hm] at this
theorem ofL_other (r : Rec) (a b : Nat) (h : mayB r = true) (ha : a < 256 ^ 8) (hb : b < 256 ^ 8) (hne : b ≠ a) : ofL (encR r a) b = none := by
  have hl := bodyL_len r h
  have hn := encR_len r a
  have e := encR_take4 r a [] h
  rw [List.append_nil] at e
  unfold ofL
  rw [e, List.take_of_length_le (Nat.le_refl _), encR_body, rdR_body r h, if_neg (by omega), if_neg]
  rintro ⟨_, h2⟩
  have h3 := congrArg (List.take 12) h2
  have ht : ∀ x, (encR r x).take 12 = headL r x := fun x => by
    have : encR r x = headL r x ++ (be (CrcM.sum (headL r x ++ bodyL r)).toNat 4 ++ bodyL r) := by simp [encR]
    rw [this, List.take_left' (headL_len r x)]
  rw [ht, ht] at h3
  unfold headL at h3
  exact hne (be_inj _ _ 8 hb ha (List.append_cancel_left h3))
/-! ### turned bits -/
open CrcM in
def num4 (l : List UInt8) : W := BitVec.ofNat 32 (val l)
open CrcM in
def chk (l : List UInt8) : W := sum (l.take 12 ++ l.drop 16) ^^^ num4 ((l.drop 12).take 4)
theorem sum_lt (l : List UInt8) : (CrcM.sum l).toNat < 256 ^ 4 := (CrcM.sum l).isLt
open CrcM in
theorem chk_enc (r : Rec) (a : Nat) : chk (encR r a) = 0#32 := by
  have ht : (encR r a).take 12 = headL r a := by
    have : encR r a = headL r a ++ (be (sum (headL r a ++ bodyL r)).toNat 4 ++ bodyL r) := by simp [encR]
    rw [this, List.take_left' (headL_len r a)]
  have hs : ((encR r a).drop 12).take 4 = be (sum (headL r a ++ bodyL r)).toNat 4 := by
    have : encR r a = headL r a ++ (be (sum (headL r a ++ bodyL r)).toNat 4 ++ bodyL r) := by simp [encR]
    rw [this, List.drop_left' (headL_len r a), List.take_left' (be_length _ _)]
  unfold chk num4
  rw [ht, hs, encR_body, val_be, Nat.mod_eq_of_lt (sum_lt _), BitVec.ofNat_toNat, BitVec.setWidth_eq, BitVec.xor_self]
open CrcM in
theorem num_snoc (x : Nat) (c : UInt8) : BitVec.ofNat 32 (x * 256 + c.toNat) = (BitVec.ofNat 32 x <<< 8) ^^^ emb c := by
  apply BitVec.eq_of_getLsbD_eq
  intro i hi
  have h := Nat.testBit_two_pow_mul_add x (b := c.toNat) (i := 8) c.toNat_lt i
  rw [BitVec.getLsbD_xor, BitVec.getLsbD_shiftLeft, BitVec.getLsbD_ofNat, BitVec.getLsbD_ofNat, emb, BitVec.getLsbD_ofNat]
  have e : x * 256 + c.toNat = 2 ^ 8 * x + c.toNat := by omega
  rw [e, h]
  by_cases h8 : i < 8
  · simp [h8, hi]
  · have hc : c.toNat.testBit i = false := Nat.testBit_lt_two_pow (Nat.lt_of_lt_of_le c.toNat_lt (Nat.pow_le_pow_right (by omega) (by omega)))
    have hi8 : i - 8 < 32 := by omega
    simp [h8, hi, hc, hi8]
open CrcM in
def sh (x : W) : W := x <<< 8
open CrcM in
theorem sh_xor (x y : W) : sh (x ^^^ y) = sh x ^^^ sh y := BitVec.shiftLeft_xor_distrib x y 8
open CrcM in
theorem num4_form (a b c d : UInt8) : num4 [a, b, c, d] = sh (sh (sh (emb a) ^^^ emb b) ^^^ emb c) ^^^ emb d := by
  have e : val [a, b, c, d] = ((a.toNat * 256 + b.toNat) * 256 + c.toNat) * 256 + d.toNat := by simp [val]; omega
  unfold num4
  rw [e, num_snoc, num_snoc, num_snoc]; rfl
open CrcM in
theorem sh_bit (j : Nat) (h : j < 24) : sh (bit j) = bit (j + 8) := by
  have : ∀ j : Fin 24, sh (bit j.1) = bit (j.1 + 8) := by decide
  exact this ⟨j, h⟩
theorem xr0 (A B C D E : CrcM.W) : A ^^^ E ^^^ B ^^^ C ^^^ D = A ^^^ B ^^^ C ^^^ D ^^^ E := by ac_rfl
theorem xr1 (A B C D E : CrcM.W) : A ^^^ (B ^^^ E) ^^^ C ^^^ D = A ^^^ B ^^^ C ^^^ D ^^^ E := by ac_rfl
theorem xr2 (A B C D E : CrcM.W) : A ^^^ B ^^^ (C ^^^ E) ^^^ D = A ^^^ B ^^^ C ^^^ D ^^^ E := by ac_rfl
theorem xr3 (A B C D E : CrcM.W) : A ^^^ B ^^^ C ^^^ (D ^^^ E) = A ^^^ B ^^^ C ^^^ D ^^^ E := by ac_rfl
open CrcM in
theorem num4_flip (q : List UInt8) (hq : q.length = 4) (p : Nat) (hp : p < 32) : num4 (flipL q p) = num4 q ^^^ bit (8 * (3 - p / 8) + p % 8) := by
  obtain ⟨a, b, c, d, rfl⟩ : ∃ a b c d, q = [a, b, c, d] := by
    match q, hq with
    | [a, b, c, d], _ => exact ⟨a, b, c, d, rfl⟩
  obtain ⟨j, hjj⟩ : ∃ j, p % 8 = j := ⟨_, rfl⟩
  have hj : j < 8 := by omega
  have hf := emb_flip j hj
  have h1 := sh_bit j (by omega)
  have h2 := sh_bit (j + 8) (by omega)
  have h3 := sh_bit (j + 8 + 8) (by omega)
  have H2 : bit (j + 8 + 8) = sh (sh (bit j)) := by rw [h1, h2]
  have H3 : bit (j + 8 + 8 + 8) = sh (sh (sh (bit j))) := by rw [h1, h2, h3]
  have hp8 : p / 8 = 0 ∨ p / 8 = 1 ∨ p / 8 = 2 ∨ p / 8 = 3 := by omega
  obtain ⟨x, hx⟩ : ∃ x : UInt8, 1 <<< UInt8.ofNat j = x := ⟨_, rfl⟩
  rw [hx] at hf
  rcases hp8 with e | e | e | e
  · have e1 : flipL [a, b, c, d] p = [a ^^^ x, b, c, d] := by unfold flipL; rw [e, hjj, hx]; rfl
    rw [e1, num4_form, num4_form, e, emb_xor, hf, hjj, show 8 * (3 - 0) + j = j + 8 + 8 + 8 by omega, H3]
    repeat rw [sh_xor]
    exact xr0 _ _ _ _ _
  · have e1 : flipL [a, b, c, d] p = [a, b ^^^ x, c, d] := by unfold flipL; rw [e, hjj, hx]; rfl
    rw [e1, num4_form, num4_form, e, emb_xor, hf, hjj, show 8 * (3 - 1) + j = j + 8 + 8 by omega, H2]
    repeat rw [sh_xor]
    exact xr1 _ _ _ _ _
  · have e1 : flipL [a, b, c, d] p = [a, b, c ^^^ x, d] := by unfold flipL; rw [e, hjj, hx]; rfl
    rw [e1, num4_form, num4_form, e, emb_xor, hf, hjj, show 8 * (3 - 2) + j = j + 8 by omega, ← h1]
    repeat rw [sh_xor]
    exact xr2 _ _ _ _ _
  · have e1 : flipL [a, b, c, d] p = [a, b, c, d ^^^ x] := by unfold flipL; rw [e, hjj, hx]; rfl
    rw [e1, num4_form, num4_form, e, emb_xor, hf, hjj, show 8 * (3 - 3) + j = j by omega]
    repeat rw [sh_xor]
    exact xr3 _ _ _ _ _
open CrcM in
theorem bit_one (e : Nat) (h : e < 32) : bit e = Lk (31 - e) one := by
  have := Lk_bit (31 - e) e (by omega)
  rw [show e + (31 - e) = 31 by omega] at this
  rw [one_eq, this]
/-- how far from the end a bit stands, the sum's bits last -/
def xAt (n p : Nat) : Nat := if p < 96 then 8 * n - 1 - p else if p < 128 then 31 - (8 * (3 - (p - 96) / 8) + (p - 96) % 8) else 31 + 8 * n - p
theorem xAt_inj (n p q : Nat) (hp0 : 32 ≤ p) (hp : p < 8 * n) (hq0 : 32 ≤ q) (hq : q < 8 * n) (hn : 16 ≤ n) (h : xAt n p = xAt n q) : p = q := by
  unfold xAt at h
  split at h <;> split at h <;> (try split at h) <;> (try split at h) <;> omega
open CrcM in
theorem flip_app_left (a b : List UInt8) (p : Nat) (h : p < 8 * a.length) : flipL (a ++ b) p = flipL a p ++ b := by
  unfold flipL
  have hp : p / 8 < a.length := by omega
  rw [List.set_append_left _ _ hp, List.getD_eq_getElem?_getD, List.getD_eq_getElem?_getD, List.getElem?_append_left hp]
open CrcM in
theorem flip_app_right (a b : List UInt8) (p : Nat) (h : 8 * a.length ≤ p) : flipL (a ++ b) p = a ++ flipL b (p - 8 * a.length) := by
  unfold flipL
  have hp : a.length ≤ p / 8 := by omega
  have e1 : (p - 8 * a.length) / 8 = p / 8 - a.length := by omega
  have e2 : (p - 8 * a.length) % 8 = p % 8 := by omega
  rw [List.set_append_right _ _ hp, List.getD_eq_getElem?_getD, List.getD_eq_getElem?_getD, List.getElem?_append_right hp, e1, e2]
open CrcM in
theorem chk_parts (a s b : List UInt8) (ha : a.length = 12) (hs : s.length = 4) : chk (a ++ (s ++ b)) = sum (a ++ b) ^^^ num4 s := by
  unfold chk
  rw [List.take_left' ha, List.drop_left' ha, List.take_left' hs]
  have : (a ++ (s ++ b)).drop 16 = b := by
    rw [← List.append_assoc, List.drop_left' (by simp [ha, hs])]
  rw [this]
open CrcM in
theorem chk_flip (l : List UInt8) (p : Nat) (h16 : 16 ≤ l.length) (hp : p < 8 * l.length) : chk (flipL l p) = chk l ^^^ Lk (xAt l.length p) one := by
  obtain ⟨a, s, b, rfl, ha, hs⟩ : ∃ a s b, l = a ++ (s ++ b) ∧ a.length = 12 ∧ s.length = 4 :=
    ⟨l.take 12, (l.drop 12).take 4, l.drop 16, by
      have : l.drop 16 = (l.drop 12).drop 4 := by rw [List.drop_drop]
      rw [this, List.take_append_drop, List.take_append_drop], by rw [List.length_take]; omega, by rw [List.length_take, List.length_drop]; omega⟩
  have hl : (a ++ (s ++ b)).length = 16 + b.length := by simp [ha, hs]; omega
  rw [hl] at hp ⊢
  have hb0 : bit 0 = Lk 31 one := bit0
  by_cases h1 : p < 96
  · rw [flip_app_left _ _ _ (by omega), chk_parts _ _ _ (by rw [flipL_length, ha]) hs, chk_parts _ _ _ ha hs, ← flip_app_left _ _ _ (by omega), sum_flip _ _ (by rw [List.length_append]; omega), hb0, ← Lk_add]
    have : 31 + (8 * (a ++ b).length - p) = xAt (16 + b.length) p := by unfold xAt; rw [if_pos h1, List.length_append]; omega
    rw [this]; ac_rfl
  · rw [flip_app_right _ _ _ (by omega)]
    by_cases h2 : p < 128
    · rw [flip_app_left _ _ _ (by omega), chk_parts _ _ _ ha (by rw [flipL_length, hs]), chk_parts _ _ _ ha hs, num4_flip _ hs _ (by omega), bit_one _ (by omega)]
      have : 31 - (8 * (3 - (p - 8 * a.length) / 8) + (p - 8 * a.length) % 8) = xAt (16 + b.length) p := by unfold xAt; rw [if_neg h1, if_pos h2, ha]
      rw [this]; ac_rfl
    · rw [flip_app_right _ _ _ (by omega), chk_parts _ _ _ ha hs, chk_parts _ _ _ ha hs]
      have e : a ++ flipL b (p - 8 * a.length - 8 * s.length) = flipL (a ++ b) (p - 32) := by
        rw [flip_app_right _ _ _ (by omega)]; congr 2; omega
      rw [e, sum_flip _ _ (by rw [List.length_append]; omega), hb0, ← Lk_add]
      have : 31 + (8 * (a ++ b).length - (p - 32)) = xAt (16 + b.length) p := by unfold xAt; rw [if_neg h1, if_neg h2, List.length_append]; omega
      rw [this]; ac_rfl
open CrcM in
theorem two_ones (x y : Nat) (h : x ≠ y) (hx : x ≤ 72000) (hy : y ≤ 72000) : Lk x one ≠ Lk y one := by
  rcases Nat.lt_or_ge x y with hlt | hge
  · intro e
    have : Lk x one = Lk x (Lk (y - x) one) := by rw [← Lk_add, show y - x + x = y by omega]; exact e
    exact order (y - x) (by omega) (by omega) (Lk_inj _ _ _ this).symm
  · intro e
    have : Lk y one = Lk y (Lk (x - y) one) := by rw [← Lk_add, show x - y + y = x by omega]; exact e.symm
    exact order (x - y) (by omega) (by omega) (Lk_inj _ _ _ this).symm
open CrcM in
theorem one_ne : one ≠ 0#32 := by decide
open CrcM in
theorem par_one (x : Nat) : par (Lk x one) = bit 0 := by rw [par_Lk, one_eq, par_bit 31 (by omega)]
open CrcM in
theorem three_ones (x y z : Nat) : Lk x one ^^^ Lk y one ^^^ Lk z one ≠ 0#32 := by
  intro e
  have h := congrArg par e
  rw [par_lin, par_lin, par_one, par_one, par_one, lin_zero par_lin, BitVec.xor_self, BitVec.zero_xor] at h
  exact bit0_ne h
/-- turned, if the place is behind the first four bytes -/
def turn1 (l : List UInt8) (n : Nat) (b : Int) : List UInt8 := if 32 ≤ b ∧ b < 8 * n then CrcM.flipL l b.toNat else l
theorem turn1_len (l : List UInt8) (n : Nat) (b : Int) : (turn1 l n b).length = l.length := by unfold turn1; split <;> simp [CrcM.flipL_length]
theorem xor_mv (a b c : CrcM.W) (h : a = b ^^^ c) : a ^^^ b = c := by
  rw [h]
  apply BitVec.eq_of_getLsbD_eq
  intro i _
  simp only [BitVec.getLsbD_xor]
  cases b.getLsbD i <;> cases c.getLsbD i <;> rfl
open CrcM in
theorem turn_chk (l : List UInt8) (h16 : 16 ≤ l.length) (hl : l.length ≤ 9000) (b0 b1 b2 : Int) (hne : turn1 (turn1 (turn1 l l.length b0) l.length b1) l.length b2 ≠ l) : chk (turn1 (turn1 (turn1 l l.length b0) l.length b1) l.length b2) ≠ chk l := by
  have hx : ∀ b : Int, 32 ≤ b → b < 8 * l.length → xAt l.length b.toNat ≤ 72000 := fun b h1 h2 => by
    unfold xAt
    split
    · omega
    · split <;> omega
  have hc : ∀ (s x : W), s ^^^ x = s → x = 0#32 := fun s x h => by
    have := xor_mv s s x h.symm
    rw [BitVec.xor_self] at this; exact this.symm
  -- one
  have key1 : ∀ b : Int, 32 ≤ b → b < 8 * l.length → chk (flipL l b.toNat) ≠ chk l := fun b h1 h2 e => by
    rw [chk_flip l _ h16 (by omega)] at e
    exact one_ne (Lk_inj0 _ _ (hc _ _ e))
  have key2 : ∀ b c : Int, 32 ≤ b → b < 8 * l.length → 32 ≤ c → c < 8 * l.length → flipL (flipL l b.toNat) c.toNat ≠ l → chk (flipL (flipL l b.toNat) c.toNat) ≠ chk l := fun b c h1 h2 h3 h4 hn e => by
    have hbc : b ≠ c := by rintro rfl; exact hn (flip_flip _ _)
    rw [chk_flip _ _ (by rw [flipL_length]; exact h16) (by rw [flipL_length]; omega), chk_flip l _ h16 (by omega), flipL_length, BitVec.xor_assoc] at e
    have := xor_eq_zero (hc _ _ e)
    exact two_ones _ _ (fun e2 => hbc (by have := xAt_inj l.length b.toNat c.toNat (by omega) (by omega) (by omega) (by omega) h16 e2; omega)) (hx b h1 h2) (hx c h3 h4) this
  have key3 : ∀ b c d : Int, 32 ≤ b → b < 8 * l.length → 32 ≤ c → c < 8 * l.length → 32 ≤ d → d < 8 * l.length → chk (flipL (flipL (flipL l b.toNat) c.toNat) d.toNat) ≠ chk l := fun b c d h1 h2 h3 h4 h5 h6 e => by
    rw [chk_flip _ _ (by rw [flipL_length, flipL_length]; exact h16) (by rw [flipL_length, flipL_length]; omega), chk_flip _ _ (by rw [flipL_length]; exact h16) (by rw [flipL_length]; omega), chk_flip l _ h16 (by omega), flipL_length, flipL_length, BitVec.xor_assoc, BitVec.xor_assoc] at e
    have := hc _ _ e
    rw [← BitVec.xor_assoc] at this
    exact three_ones _ _ _ this
  revert hne
  unfold turn1
  by_cases c0 : 32 ≤ b0 ∧ b0 < 8 * l.length <;> by_cases c1 : 32 ≤ b1 ∧ b1 < 8 * l.length <;> by_cases c2 : 32 ≤ b2 ∧ b2 < 8 * l.length <;> (simp only [c0, c1, c2, if_true, if_false, and_self]) <;> intro hne
  · exact key3 _ _ _ c0.1 c0.2 c1.1 c1.2 c2.1 c2.2
  · exact key2 _ _ c0.1 c0.2 c1.1 c1.2 hne
  · exact key2 _ _ c0.1 c0.2 c2.1 c2.2 hne
  · exact key1 _ c0.1 c0.2
  · exact key2 _ _ c1.1 c1.2 c2.1 c2.2 hne
  · exact key1 _ c1.1 c1.2
  · exact key1 _ c2.1 c2.2
  · exact absurd rfl hne
theorem take_flip (l : List UInt8) (p k : Nat) (h : k ≤ p / 8) : (CrcM.flipL l p).take k = l.take k := by
  unfold CrcM.flipL
  rw [List.take_set_of_le h]
theorem take_turn (l : List UInt8) (n : Nat) (b : Int) : (turn1 l n b).take 4 = l.take 4 := by
  unfold turn1
  split
  · exact take_flip _ _ _ (by omega)
  · rfl
/-- with bits turned it is read as none -/
theorem ofL_turned (r : Rec) (a : Nat) (h : mayB r = true) (b0 b1 b2 : Int) (hne : turn1 (turn1 (turn1 (encR r a) (encR r a).length b0) (encR r a).length b1) (encR r a).length b2 ≠ encR r a) :
    ofL (turn1 (turn1 (turn1 (encR r a) (encR r a).length b0) (encR r a).length b1) (encR r a).length b2) a = none := by
  have hl := bodyL_len r h
  have hn := encR_len r a
  have hc := turn_chk (encR r a) (by omega) (by omega) b0 b1 b2 hne
  have e := encR_take4 r a [] h
  rw [List.append_nil] at e
  unfold ofL
  rw [take_turn, take_turn, take_turn, e, List.take_of_length_le (by rw [turn1_len, turn1_len, turn1_len]; exact Nat.le_refl _), if_neg (by rw [turn1_len, turn1_len, turn1_len]; omega), if_neg]
  rintro ⟨_, h2⟩
  exact hc (by rw [← h2, chk_enc, chk_enc])
end Go.Proofs.Ytokijkinlcdjeaa

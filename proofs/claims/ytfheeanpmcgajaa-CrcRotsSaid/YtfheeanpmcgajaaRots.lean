/- The walk of understudylaw02.CrcRots: it returns true for any two rows of bytes, any three bits and any burst. -/
import Derived.Test.YtfheeanpmcgajaaFlip
import Derived.Deep.RegionHeld3
import Derived.WalkLawsBesides
import Derived.Deep.RegionLaw
import Derived.Laws.CopyOwn
import Derived.Deep.Cut
import Derived.Deep.CutBlock
namespace Go.Proofs.Ytfheeanpmcgajaa
open Go.RowKit CrcM

theorem OwnB.below {w w' : World} {base : Nat} {v : Value} {l : List UInt8} (h : OwnB w base v l) (hb : Below w.heap.size w w') : OwnB w' base v l := by
  rcases h.2 with ⟨h', h2⟩ | ⟨g', cap', cur, h', hb', hg, hr⟩
  · exact ⟨h.1, .inl ⟨h', h2⟩⟩
  · exact ⟨h.1, .inr ⟨g', cap', cur, h', hb', (hb.block _ (Array.getElem?_eq_some_iff.1 hg).1).trans hg, hr⟩⟩
theorem OwnB.head {w : World} {base : Nat} {v : Value} {l : List UInt8} {N : Nat} (h : OwnB w base v l) (hN : l.length = N) (h0 : 0 < N) :
    ∃ g cap, v = .slice (some ⟨g, 0, none⟩) N cap ∧ base ≤ g ∧ g < w.heap.size ∧ N ≤ cap := by
  subst hN
  obtain ⟨a, cap, rfl, hB, hc, hn⟩ := h.form
  obtain ⟨b, o, rfl⟩ := hB.addr (by intro e; rw [e] at h0; simp at h0)
  obtain ⟨g, e, h1, h2⟩ := hn _ rfl
  cases e
  exact ⟨b, cap, rfl, h1, h2, hc⟩
theorem OwnB.bs {w : World} {base : Nat} {a : Option Addr} {n cap : Nat} {l : List UInt8} (h : OwnB w base (.slice a n cap) l) : Bs w a l := by
  obtain ⟨a', cap', e, hB, _⟩ := h.form
  cases e; exact hB
theorem conv_N (a : Option Addr) (c N : Nat) (l : List UInt8) (hN : l.length = N) (w : World) (h : Bs w a l) : (convert 22 9 (.slice a N c)).run Try.prog w = .ok (.string (str l)) w := by
  subst hN; exact conv_str a c l w h
def pl (n : Int) (N : Nat) : Nat := (n.emod (8 * N)).toNat
theorem pl_lt (n : Int) (N : Nat) (h : 0 < N) : pl n N < 8 * N := by
  unfold pl
  have h1 := Int.emod_nonneg n (show (8 * (N : Int)) ≠ 0 by omega)
  have h2 := Int.emod_lt_of_pos n (show 0 < (8 * (N : Int)) by omega)
  show (n % (8 * (N : Int))).toNat < _
  omega
theorem pl_small (n N : Nat) (h : n < 8 * N) : pl (n : Int) N = n := by
  unfold pl
  show ((n : Int) % (8 * (N : Int))).toNat = n
  rw [Int.emod_eq_of_lt (by omega) (by omega)]; simp
theorem flip_at (g cap base N : Nat) (l : List UInt8) (hN : l.length = N) (n : Int) (w w0 : World) (h : OwnB w base (.slice (some ⟨g, 0, none⟩) N cap) l) (hg : base ≤ g) (hbs : base ≤ w.heap.size) (hbel : Below base w0 w) (h0 : 0 < N) (h9 : N ≤ 9000)
    (hn : -9223372036854775808 ≤ n ∧ n ≤ 9223372036854775807) :
    Calls Try.prog 16 #[.slice (some ⟨g, 0, none⟩) N cap, .int .i64 n] w fun e w' => e = .returned (.tuple #[]) ∧ OwnB w' base (.slice (some ⟨g, 0, none⟩) N cap) (flipL l (pl n N)) ∧ Below base w0 w' := by
  subst hN
  refine (flip_any g cap base l n w h h0 h9 hn).mono ?_
  rintro e w' ⟨rfl, h1, h2⟩
  exact ⟨rfl, h1, hbel.grown h2 hbs (fun k hk => by cases hk; exact hg)⟩
theorem Holds_N (a : Option Addr) (cap N : Nat) (l : List UInt8) (hN : l.length = N) (h9 : N ≤ 9000) (s : W) (w : World) (h : Bs w a l) (hne : sum l ≠ s) :
    Calls Try.prog 10 #[.slice a N cap, .int .u32 (c32 s)] w fun e w' => e = .returned (.bool false) ∧ Below w.heap.size w w' := by
  subst hN
  refine (Holds_any a cap l s w h (by omega)).mono ?_
  rintro e w' ⟨rfl, hb⟩
  exact ⟨by simp [Ne.symm hne], hb⟩
theorem BBs_N {w : World} {a : Option Addr} {cap N : Nat} {l : List UInt8} (h : Bs w a l) (hN : l.length = N) (h9 : N ≤ 9000) : BBs (w.alloc (.cells #[.slice a N cap] 22)) (some ⟨w.heap.size, 0, none⟩) [l] := by
  subst hN; exact BBs_one' rfl h (by omega)
theorem tmod_pl (n : Int) (N : Nat) (h0 : 0 < N) : ∃ q, n.tmod (8 * (N : Int)) = q ∧ ((0 ≤ q ∧ q = (pl n N : Int)) ∨ (q < 0 ∧ -(8 * (N : Int)) < q ∧ q + 8 * (N : Int) = (pl n N : Int))) := by
  refine ⟨_, rfl, ?_⟩
  have hm := Int.tmod_eq_emod (a := n) (b := 8 * (N : Int))
  have h1 := Int.emod_nonneg n (show (8 * (N : Int)) ≠ 0 by omega)
  have h2 := Int.emod_lt_of_pos n (show 0 < (8 * (N : Int)) by omega)
  have hp : (pl n N : Int) = n % (8 * (N : Int)) := by
    unfold pl
    show ((n % (8 * (N : Int))).toNat : Int) = _
    omega
  rw [hp]
  split at hm
  · left; omega
  · have h8 : (8 * (N : Int)).natAbs = 8 * N := by omega
    rw [h8] at hm
    by_cases hz : n % (8 * (N : Int)) = 0
    · rename_i hnd
      exact absurd (.inr (Int.dvd_of_emod_eq_zero hz)) hnd
    · right; omega
theorem shr_bit (u : W) (n : Nat) : c32 u / ((2 ^ n : Nat) : Int) % 2 = if u.getLsbD n then 1 else 0 := by
  rw [c32_shr]
  unfold c32
  have : (u >>> n).toNat % 2 = if u.getLsbD n then 1 else 0 := by
    rw [BitVec.toNat_ushiftRight, BitVec.getLsbD, Nat.testBit_eq_decide_div_mod_eq, Nat.shiftRight_eq_div_pow]
    have := Nat.mod_two_eq_zero_or_one (u.toNat / 2 ^ n)
    rcases this with h | h <;> simp [h]
  have h2 : ((u >>> n).toNat : Int) % 2 = (((u >>> n).toNat % 2 : Nat) : Int) := by omega
  rw [h2, this]; split <;> rfl
theorem shr_bit2 (u : W) (n : Nat) : ((c32 u / (2 : Int) ^ n).tmod 2 == 1) = u.getLsbD n := by
  have h := shr_bit u n
  have e : ((2 ^ n : Nat) : Int) = (2 : Int) ^ n := by simp
  rw [e] at h
  have h0 : 0 ≤ c32 u / (2 : Int) ^ n := by
    rw [← e]; exact Int.ediv_nonneg (c32_lt u).1 (Int.natCast_nonneg _)
  rw [Int.tmod_eq_emod_of_nonneg h0, h]
  cases u.getLsbD n <;> rfl
theorem mk_b (n : Nat) (h : n ≤ 9000) (w : World) : (Instr.makeSlice 22 (.int .i64 (n : Int)) (.int .i64 (n : Int))).run Try.prog w = .ok (.slice (some ⟨w.heap.size, 0, none⟩) n n) (w.alloc (.cells (bv (List.replicate n 0)).toArray 5)) := by
  obtain ⟨i0, hi, hz0, hz1, hz2⟩ := info_parts info5'
  have hr := run_make (P := Try.prog) w 22 5 i0 (.int .u8 0) Try.underlying22 hi hz0 .i64 .i64 n n (by omega) (by omega) (by rw [hz2]; omega) (by omega)
  simp only [Int.toNat_natCast] at hr
  rw [hr, hz1, ← madeCells_u8]
theorem own_row {w : World} {base g : Nat} {l : List UInt8} {N : Nat} (hN : l.length = N) (h9 : N ≤ 9000) (hg : base ≤ g) (h : w.heap[g]? = some (.cells (bv l).toArray 5 (0, 0))) : OwnB w base (.slice (some ⟨g, 0, none⟩) N N) l := by
  subst hN
  refine ⟨by rw [bv_length]; simp, .inr ⟨g, l.length, (bv l).toArray, rfl, hg, h, Nat.le_refl _, by unfold maxLen; omega, by simp [bv_length], ?_⟩⟩
  simp [List.take_of_length_le, bv_length]
theorem Bs_setCell {w : World} {g b k : Nat} {l : List UInt8} {v : Value} (h : Bs w (some ⟨b, 0, none⟩) l) (hne : g ≠ b) : Bs (w.setCell ⟨g, k, none⟩ v) (some ⟨b, 0, none⟩) l :=
  ⟨h.addr, fun b' o e i hi => by cases e; rw [cell_setCell_other hne]; exact h.cell _ _ rfl i hi⟩
/-- what w holds after so many rounds -/
def mid (V : List UInt8) (n N : Nat) : List UInt8 := V.take n ++ List.replicate (N - n) 0
theorem mid_length (V : List UInt8) (n N : Nat) (hV : V.length = N) (h : n ≤ N) : (mid V n N).length = N := by simp [mid]; omega
theorem mid_set (V : List UInt8) (n N : Nat) (hV : V.length = N) (h : n < N) : (mid V n N).set n (V[n]'(by omega)) = mid V (n + 1) N := by
  unfold mid
  rw [List.set_append_right _ _ (by simp; omega), take_snoc V n (by omega), List.append_assoc]
  congr 1
  rw [show N - n = (N - (n + 1)) + 1 by omega, List.replicate_succ]
  simp [show n - min n V.length = 0 by omega]
theorem mid_all (V : List UInt8) (N : Nat) (hV : V.length = N) : mid V N N = V := by simp [mid, List.take_of_length_le, hV]
def xor3 (a b c : List UInt8) : List UInt8 := List.zipWith (fun x y => x ^^^ y) (List.zipWith (fun x y => x ^^^ y) a b) c
theorem xor3_length (a b c : List UInt8) (N : Nat) (ha : a.length = N) (hb : b.length = N) (hc : c.length = N) : (xor3 a b c).length = N := by simp [xor3, ha, hb, hc]
theorem xor3_get (a b c : List UInt8) (i : Nat) (h : i < (xor3 a b c).length) (ha : i < a.length) (hb : i < b.length) (hc : i < c.length) : (xor3 a b c)[i] = a[i] ^^^ b[i] ^^^ c[i] := by simp [xor3]
def padded (c : List UInt8) (N : Nat) : List UInt8 := c.take N ++ List.replicate (N - c.length) 0
theorem padded_length (c : List UInt8) (N : Nat) : (padded c N).length = N := by simp [padded]; omega
theorem splice_pad (c : List UInt8) (N : Nat) : splice (bv (List.replicate N 0)) 0 (bv (c.take N)) = bv (padded c N) := by
  unfold splice padded
  rw [bv_append]
  simp [bv, List.map_replicate]
  omega
/-- a copy into a row: all other blocks stay -/
theorem wpList_copy_row {w : World} {ops : Array Oper} {rest : List Oper} {o : Oper} {a : Act} {Q : Exit → Act → World → Prop} (hgd : o.guard = none) (d s : Operand)
    (ho : o.op = .call { callee := .builtin .copy, args := #[d, s], argTypes := #[22, 22] })
    (dp sp : Option Addr) (dLen dCap sLen sCap : Nat) (hd : a.eval d = .slice dp dLen dCap) (hs : a.eval s = .slice sp sLen sCap)
    (g : Nat) (cur : List Value) (t : TypeId) (hg : w.heap[g]? = some (.cells cur.toArray t (0, 0))) (cs : List Value) (hn : cs.length = Nat.min sLen dLen)
    (hpos : 0 < cs.length → dp = some ⟨g, 0, none⟩ ∧ ∃ ad, sp = some ad ∧ ∀ j v, cs[j]? = some v → w.cell? (ad.add j) = some v)
    (hfit : cs.length ≤ cur.length) (h1 : ∀ v ∈ cs, v.oneCell' = true) (B : Nat) (w0 : World) (hb : Below B w0 w) (hBg : B ≤ g)
    (h : ∀ w', Hid (w'.heap[g]? = some (.cells (splice cur 0 cs).toArray t (0, 0))) → Hid (∀ k, k ≠ g → w'.heap[k]? = w.heap[k]?) → Below B w0 w' → wpList Try.prog ops Q rest (a.put o.dst (goInt cs.length)) w') :
    wpList Try.prog ops Q (o :: rest) a w := by
  by_cases h0 : cs.length = 0
  · obtain rfl : cs = [] := List.eq_nil_of_length_eq_zero h0
    refine wpList_copy_nothing hgd d s 22 22 ho 5 Try.underlying22 (by kernel_rfl) dp sp dLen dCap sLen sCap hd hs (by simpa using hn.symm) ?_
    exact h w (show _ = _ by simpa [splice] using hg) (fun _ _ => rfl) hb
  · obtain ⟨rfl, ad, rfl, hsrc⟩ := hpos (by omega)
    refine wpList_copy_own hgd d s 22 22 ho 5 Try.underlying22 (by kernel_rfl) g 0 dLen dCap ad sLen sCap hd hs cur.toArray t hg cs hn hsrc (by simpa using hfit) h1 ?_
    exact h _ (show _ = _ by simpa [splice] using setRow_heap w g _ _ t _ hg) (fun k hk => setRow_other w g k _ hk) (below_setRow hb hBg _)

set_option maxRecDepth 100000 in
set_option maxHeartbeats 1600000 in
theorem rots_edge (a b : Option Addr) (ca cb N : Nat) (lc : List UInt8) (i j k : Int) (u : W) (w : World) (hN : N = 0 ∨ 9000 < N) (hN2 : N ≤ 9223372036854775807) (_ : lc.length ≤ 9223372036854775807) :
    Calls Try.prog 6 #[.slice a N ca, .slice b lc.length cb, .int .i64 i, .int .i64 j, .int .i64 k, .int .u32 (c32 u)] w fun e w' => e = .returned (.bool true) ∧ Below w.heap.size w w' := by
  rcases hN with rfl | h1
  all_goals
    go_enter Try.func6, Try.ntmps6
    go_wp2_with (go_at_call 7; refine (known_any _).mono ?_; rintro e w' ⟨rfl, hb⟩)
    go_ret
    exact ⟨rfl, hb⟩
set_option linter.unusedSimpArgs false in
set_option maxRecDepth 100000 in
set_option maxHeartbeats 3200000 in
theorem rots_mid (a b : Option Addr) (ca cb N : Nat) (l lc : List UInt8) (i j k : Int) (u : W) (w : World) (hN : l.length = N) (ha : Bs w a l) (hb : Bs w b lc) (_ : N ≤ ca) (hna : a = none → ca = 0)
    (h0 : 0 < N) (h9 : N ≤ 9000) (hc9 : lc.length ≤ 9223372036854775807) (hi : -9223372036854775808 ≤ i ∧ i ≤ 9223372036854775807) (hj : -9223372036854775808 ≤ j ∧ j ≤ 9223372036854775807) (hk : -9223372036854775808 ≤ k ∧ k ≤ 9223372036854775807) :
    Calls Try.prog 6 #[.slice a N ca, .slice b lc.length cb, .int .i64 i, .int .i64 j, .int .i64 k, .int .u32 (c32 u)] w fun e w' => e = .returned (.bool true) ∧ Below w.heap.size w w' := by
  have HN := Lib.hid hN
  have hpi := pl_lt i N h0
  have hpj := pl_lt j N h0
  have hpk := pl_lt k N h0
  obtain ⟨q, hq, hq2⟩ := tmod_pl i N h0
  obtain ⟨pi, hpie⟩ : ∃ p, pl i N = p := ⟨_, rfl⟩
  obtain ⟨pj, hpje⟩ : ∃ p, pl j N = p := ⟨_, rfl⟩
  obtain ⟨pk, hpke⟩ : ∃ p, pl k N = p := ⟨_, rfl⟩
  rw [hpie] at hq2 hpi
  rw [hpje] at hpj
  rw [hpke] at hpk
  have HPI := Lib.hid hpie
  have HPJ := Lib.hid hpje
  have HPK := Lib.hid hpke
  obtain ⟨S0, hS⟩ : ∃ S0, sum l = S0 := ⟨_, rfl⟩
  have HS := Lib.hid hS
  clear hS hN hpie hpje hpke
  obtain ⟨X1, hX1⟩ : ∃ X, flipL l pi = X := ⟨_, rfl⟩
  obtain ⟨X2, hX2⟩ : ∃ X, flipL X1 pj = X := ⟨_, rfl⟩
  obtain ⟨X3, hX3⟩ : ∃ X, flipL X2 pk = X := ⟨_, rfl⟩
  have hL1 : X1.length = N := by rw [← hX1, flipL_length, HN.out]
  have hL2 : X2.length = N := by rw [← hX2, flipL_length, hL1]
  have hL3 : X3.length = N := by rw [← hX3, flipL_length, hL2]
  have hr1 : sum X1 ≠ S0 := by rw [← hX1, ← HS.out]; exact rot1 l pi (by rw [HN.out]; exact hpi)
  have hr2 : X2 ≠ l → sum X2 ≠ S0 := by rw [← hX2, ← hX1, ← HS.out]; exact rot2 l pi pj (by rw [HN.out]; exact h9) (by rw [HN.out]; exact hpi) (by rw [HN.out]; exact hpj)
  have hr3 : sum X3 ≠ S0 := by rw [← hX3, ← hX2, ← hX1, ← HS.out]; exact rot3 l pi pj pk (by rw [HN.out]; exact hpi) (by rw [HN.out]; exact hpj) (by rw [HN.out]; exact hpk)
  have H1 := Lib.hid (And.intro hL1 (And.intro hX1 hr1))
  have H2 := Lib.hid (And.intro hL2 (And.intro hX2 hr2))
  have H3 := Lib.hid (And.intro hL3 (And.intro hX3 hr3))
  clear hL1 hL2 hL3 hr1 hr2 hr3 hX1 hX2 hX3
  have hd0 : ((N : Int) == 0) = false := by simp; omega
  have hd9 : decide ((9000 : Int) < (N : Int)) = false := by simp; omega
  have hsb2 := str_beq X2 l
  have hsb3 := str_beq X3 l
  go_enter Try.func6, Try.ntmps6
  go_wp2_with (first | (go_at_call 7; refine (known_any _).mono ?_; rintro e w1 ⟨rfl, hb1⟩) | fail)
  have ha1 := ha.below hb1
  refine (Sum_one _ _ l _ (BBs_N ha1 HN.out h9)).mono ?_
  rintro e w2 ⟨rfl, hb2⟩
  rw [HS.out]
  have hb2' : Below w.heap.size w w2 := belT (belT hb1 (below_alloc _ _)) hb2
  clear hb1 hb2 ha1
  have ha2 := ha.below hb2'
  go_wp2_with (first | (at_builtin; refine wpList_append_b rfl _ _ rfl w.heap.size _ [] rfl (OwnB.nil _ _) a l N ca rfl HN.out.symm ha2 hna (by rw [HN.out]; simp; omega) hb2'.size ?_; intro v1 w3 hown1 hg1) | fail)
  have hb3 : Below w.heap.size w w3 := below_grown_own hb2' hb2'.size (OwnB.nil _ _) hg1
  rw [List.nil_append] at hown1
  obtain ⟨gx, cx, rfl, hgx, _, hcx⟩ := hown1.head HN.out h0
  clear hg1 ha2
  go_wp2_with fail
  refine (flip_at gx cx w.heap.size N l HN.out i w3 w hown1 hgx hb3.size hb3 h0 h9 hi).mono ?_
  rintro e w4 ⟨rfl, hown4, hb4⟩
  rw [HPI.out, H1.out.2.1] at hown4
  clear hown1 hb3 hb2'
  go_wp2_with fail
  refine (Holds_N _ _ N X1 H1.out.1 h9 S0 w4 hown4.bs H1.out.2.2).mono ?_
  rintro e w5 ⟨rfl, hb5⟩
  have hown5 := hown4.below hb5
  have hb5' : Below w.heap.size w w5 := belT hb4 hb5
  clear hb4 hb5 hown4
  go_wp2_with fail
  refine (flip_at gx cx w.heap.size N X1 H1.out.1 j w5 w hown5 hgx hb5'.size hb5' h0 h9 hj).mono ?_
  rintro e w6 ⟨rfl, hown6, hb6⟩
  rw [HPJ.out, H2.out.2.1] at hown6
  clear hown5 hb5'
  have hcvb := conv_N a ca N l HN.out w6 (ha.below hb6)
  have hcvx := conv_N _ cx N X2 H2.out.1 w6 hown6.bs
  have hx3 : decide (X3 = l) = false := by
    simp only [decide_eq_false_iff_not]; intro e; exact H3.out.2.2 (by rw [e, HS.out])
  rw [hx3] at hsb3
  have hfl : ∀ (wq : World), OwnB wq w.heap.size (.slice (some ⟨gx, 0, none⟩) N cx) X2 → Below w.heap.size w wq → Calls Try.prog 16 #[.slice (some ⟨gx, 0, none⟩) N cx, .int .i64 k] wq fun e w' => e = .returned (.tuple #[]) ∧ OwnB w' w.heap.size (.slice (some ⟨gx, 0, none⟩) N cx) X3 ∧ Below w.heap.size w w' := by
    intro wq h1 h2
    have := flip_at gx cx w.heap.size N X2 H2.out.1 k wq w h1 hgx h2.size h2 h0 h9 hk
    rw [HPK.out, H3.out.2.1] at this; exact this
  have HFL := Lib.hid hfl
  clear hfl hx3
  clear hcvb hcvx
  go_upto_region 11 with fail
  go_cut [54] from 45 (fun c wx => c = .bool false ∧ OwnB wx w.heap.size (.slice (some ⟨gx, 0, none⟩) N cx) X2 ∧ Below w.heap.size w wx)
  case first =>
    have hcvb := conv_N a ca N l HN.out w6 (ha.below hb6)
    have hcvx := conv_N _ cx N X2 H2.out.1 w6 hown6.bs
    by_cases hx2 : X2 = l
    · have hsx : decide (X2 = l) = true := by simpa using hx2
      rw [hsx] at hsb2
      clear hx2 hsx
      go_wp2_with fail
      go_meet
      case rel => exact ⟨rfl, hown6, hb6⟩
    · have hsx : decide (X2 = l) = false := by simpa using hx2
      rw [hsx] at hsb2
      have hne := H2.out.2.2 hx2
      have HNE := Lib.hid hne
      clear hx2 hsx hne
      go_wp2_with fail
      refine (Holds_N _ _ N X2 H2.out.1 h9 S0 w6 hown6.bs HNE.out).mono ?_
      rintro e w7 ⟨rfl, hb7⟩
      go_wp2_with fail
      go_meet
      case rel => exact ⟨rfl, hown6.below hb7, belT hb6 hb7⟩
  case rest =>
  obtain ⟨rfl, hown7, hb7⟩ := hcut
  clear hown6 hb6 hsb2
  go_wp2_with fail
  refine (HFL.out _ hown7 hb7).mono ?_
  rintro e w8 ⟨rfl, hown8, hb8⟩
  clear hown7 hb7
  have hcvb := conv_N a ca N l HN.out w8 (ha.below hb8)
  have hcvx := conv_N _ cx N X3 H3.out.1 w8 hown8.bs
  go_wp2_with fail
  refine (Holds_N _ _ N X3 H3.out.1 h9 S0 w8 hown8.bs H3.out.2.2).mono ?_
  rintro e w9 ⟨rfl, hb9'⟩
  have hb9 := belT hb8 hb9'
  clear hown8 hb8 hb9' hcvb hcvx hsb3 HFL
  have ha9 := ha.below hb9
  go_upto_if 74 with fail
  go_cut [15] from 73 (fun c wx => c = .int .i64 pi ∧ wx = w9)
  case first =>
    rcases hq2 with ⟨hqa, hqb⟩ | ⟨hqa, hqb, hqc⟩
    · go_wp2_with fail
      go_meet
      case rel => exact ⟨by rw [hqb], rfl⟩
    · go_wp2_with fail
      go_meet
      case rel => exact ⟨by first | rfl | rw [hqc], rfl⟩
  case rest =>
  obtain ⟨rfl, rfl⟩ := hcut
  clear hq2 hq
  go_upto_block 0 with (first | (at_builtin; refine wpList_append_b rfl _ _ rfl w.heap.size _ [] rfl (OwnB.nil _ _) a l N ca rfl HN.out.symm ha9 hna (by rw [HN.out]; simp; omega) hb9.size ?_; intro v2 w10 hown10 hg10) | fail)
  have hb10 : Below w.heap.size w w10 := below_grown_own hb9 hb9.size (OwnB.nil _ _) hg10
  rw [List.nil_append] at hown10
  obtain ⟨gy, cy, rfl, hgy, _, hcy⟩ := hown10.head HN.out h0
  clear hg10 ha9 hb9
  go_cut [17] from 82 (fun _ wx => OwnB wx w.heap.size (.slice (some ⟨gy, 0, none⟩) N cy) (burstL l u pi 32) ∧ Below w.heap.size w wx)
  case first =>
    go_wp2_with fail
    go_loopw [17] (fun i wr => ∃ n : Nat, n ≤ 32 ∧ i = .int .i64 n ∧ OwnB wr w.heap.size (.slice (some ⟨gy, 0, none⟩) N cy) (burstL l u pi n) ∧ Below w.heap.size w wr ∧ pi + n ≤ 8 * N) (fun i _ => 32 - (intOf i).toNat)
    case atStart => exact ⟨0, by omega, rfl, hown10, hb10, by omega⟩
    case round =>
      obtain ⟨n, hn, rfl, hown, hbel, hpn⟩ := hrel
      have HBL := Lib.hid ((burstL_length l u pi n).trans HN.out)
      by_cases h32 : n < 32
      · by_cases hp8 : pi + n < 8 * N
        · have hsb := shr_bit2 u n
          have hstep : burstL l u pi (n + 1) = if u.getLsbD n = true then flipL (burstL l u pi n) (pi + n) else burstL l u pi n := by
            simp [burstL, HN.out, hp8]
          have HST := Lib.hid hstep
          clear hstep
          cases hbit : u.getLsbD n
          · rw [hbit] at hsb HST
            go_wp2_with fail
            go_roundw
            case rel => exact ⟨n + 1, by omega, by go_num, by rw [HST.out]; simpa using hown, hbel, by omega⟩
            case measure => simp [intOf]; omega
          · rw [hbit] at hsb HST
            have hpp : (pi : Int) + (n : Int) = ((pi + n : Nat) : Int) := by omega
            have hfa := flip_at gy cy w.heap.size N (burstL l u pi n) HBL.out ((pi : Int) + (n : Int)) wr w hown hgy hbel.size hbel h0 h9 (by omega)
            rw [hpp, pl_small _ _ hp8, ← hpp] at hfa
            have HFA := Lib.hid hfa
            clear hfa hpp
            go_wp2_with fail
            refine HFA.out.mono ?_
            rintro e wn ⟨rfl, hownn, hbn⟩
            go_wp2_with fail
            go_roundw
            case rel => exact ⟨n + 1, by omega, by go_num, by rw [HST.out]; simpa using hownn, hbn, by omega⟩
            case measure => simp [intOf]; omega
        · have hpast := burst_past l u pi n 32 (by omega) (by rw [HN.out]; omega)
          rw [← hpast] at hown
          clear hpast
          go_wp2_with fail
          go_meet
          case rel => exact ⟨hown, hbel⟩
      · obtain rfl : n = 32 := by omega
        clear hn h32
        go_wp2_with fail
        go_meet
        case rel => exact ⟨hown, hbel⟩
  case rest =>
  obtain ⟨hown11, hb11⟩ := hcut
  clear hown10 hb10
  obtain ⟨Y, hY⟩ : ∃ Y, burstL l u pi 32 = Y := ⟨_, rfl⟩
  have hYl : Y.length = N := by rw [← hY, burstL_length, HN.out]
  have hrY : Y ≠ l → sum Y ≠ S0 := by rw [← hY, ← HS.out]; exact rotB l u pi (by rw [HN.out]; exact hpi)
  rw [hY] at hown11
  have HY := Lib.hid (And.intro hYl hrY)
  clear hYl hrY hY
  go_upto_region 25 with fail
  go_cut [115] from 106 (fun c wx => c = .bool false ∧ OwnB wx w.heap.size (.slice (some ⟨gy, 0, none⟩) N cy) Y ∧ Below w.heap.size w wx)
  case first =>
    have hcvb := conv_N a ca N l HN.out wc (ha.below hb11)
    have hcvx := conv_N _ cy N Y HY.out.1 wc hown11.bs
    have hsb := str_beq Y l
    by_cases hx2 : Y = l
    · have hsx : decide (Y = l) = true := by simpa using hx2
      rw [hsx] at hsb
      clear hx2 hsx
      go_wp2_with fail
      go_meet
      case rel => exact ⟨rfl, hown11, hb11⟩
    · have hsx : decide (Y = l) = false := by simpa using hx2
      rw [hsx] at hsb
      have hne := HY.out.2 hx2
      have HNE := Lib.hid hne
      clear hx2 hsx hne
      go_wp2_with fail
      refine (Holds_N _ _ N Y HY.out.1 h9 S0 wc hown11.bs HNE.out).mono ?_
      rintro e w12 ⟨rfl, hb12⟩
      go_wp2_with fail
      go_meet
      case rel => exact ⟨rfl, hown11.below hb12, belT hb11 hb12⟩
  case rest =>
  obtain ⟨rfl, hown12, hb12⟩ := hcut
  clear hown11 hb11
  go_upto_region 27 with fail
  go_cut [18, 19] from 116 (fun z y wx => ∃ gz gw, z = .slice (some ⟨gz, 0, none⟩) N N ∧ y = .slice (some ⟨gw, 0, none⟩) N N ∧ gz ≠ gw ∧ gz ≠ gy ∧ gw ≠ gy ∧ w.heap.size ≤ gz ∧ w.heap.size ≤ gw ∧ wx.heap[gz]? = some (.cells (bv (List.replicate N 0)).toArray 5 (0, 0)) ∧ wx.heap[gw]? = some (.cells (bv (List.replicate N 0)).toArray 5 (0, 0)) ∧ OwnB wx w.heap.size (.slice (some ⟨gy, 0, none⟩) N cy) Y ∧ Below w.heap.size w wx)
  case first =>
    have hmk := mk_b N h9
    obtain ⟨g0, c0, e0, _, hgl, _⟩ := hown12.head HY.out.1 h0
    cases e0
    have hsz := hb12.size
    generalize hw13 : wc = w13 at hown12 hb12 hgl hsz ⊢
    obtain ⟨B0, hB0⟩ : ∃ B, B = w13.heap.size := ⟨_, rfl⟩
    have h2 : Below w13.heap.size w13 ((w13.alloc (.cells (bv (List.replicate N 0)).toArray 5)).alloc (.cells (bv (List.replicate N 0)).toArray 5)).drew := (((Below.refl _ w13).alloc (Nat.le_refl _) _).alloc (by simp) _).drew
    have HA := Lib.hid (And.intro (hown12.below h2) (And.intro (belT hb12 h2) (And.intro (show ((w13.alloc (.cells (bv (List.replicate N 0)).toArray 5)).alloc (.cells (bv (List.replicate N 0)).toArray 5)).drew.heap[w13.heap.size]? = some (.cells (bv (List.replicate N 0)).toArray 5 (0, 0)) from (heap_alloc_old (w13.alloc (.cells (bv (List.replicate N 0)).toArray 5)) _ (by simp)).trans (heap_alloc_new w13 _)) (show ((w13.alloc (.cells (bv (List.replicate N 0)).toArray 5)).alloc (.cells (bv (List.replicate N 0)).toArray 5)).drew.heap[w13.heap.size + 1]? = some (.cells (bv (List.replicate N 0)).toArray 5 (0, 0)) from by
      have := heap_alloc_new (w13.alloc (.cells (bv (List.replicate N 0)).toArray 5)) (.cells (bv (List.replicate N 0)).toArray 5)
      have e : (w13.alloc (.cells (bv (List.replicate N 0)).toArray 5)).heap.size = w13.heap.size + 1 := by simp
      rw [e] at this; exact this))))
    clear h2
    clear hown12 hb12
    go_wp2_with fail
    go_region
    all_goals
      go_wp2_with fail
      go_meet
    · exact ⟨_, _, rfl, rfl, by omega, by omega, by omega, by omega, by omega, HA.out.2.2.1, HA.out.2.2.2, HA.out.1, HA.out.2.1⟩
    · exact ⟨_, _, rfl, rfl, by omega, by omega, by omega, by omega, by omega, HA.out.2.2.2, HA.out.2.2.1, HA.out.1, HA.out.2.1⟩
  case rest =>
  obtain ⟨gz, gw, rfl, rfl, hzw, hzy, hwy, hgz, hgw, hrz, hrw, hown13, hb13⟩ := hcut
  clear hown12 hb12
  obtain ⟨g0, c0, e0, _, hgl, _⟩ := hown13.head HY.out.1 h0
  cases e0
  have hbc := hb.below hb13
  have hYb := hown13.bs
  have hcell : ∀ x, b = some x → ∀ j v, (bv (lc.take N))[j]? = some v → wc.cell? (x.add j) = some v := by
    intro x hx j v hj
    have hjl : j < (lc.take N).length := by
      have := (List.getElem?_eq_some_iff.1 hj).1; rwa [bv_length] at this
    have hjl2 : j < lc.length := by simp at hjl; omega
    obtain ⟨b', o', e'⟩ := hbc.ex hjl2
    rw [hx] at e'
    cases e'
    rw [Addr.add_mid, hbc.cell b' o' hx j hjl2, ← hj, bv_get _ j hjl, List.getElem_take]
  have hszw : gw < wc.heap.size := (Array.getElem?_eq_some_iff.1 hrw).1
  obtain ⟨wb, hwb⟩ : ∃ wb, wb = wc := ⟨_, rfl⟩
  rw [← hwb] at hrz hrw hown13 hb13 hgl hbc hYb hcell hszw ⊢
  clear hwb
  have hsome : 0 < (bv (lc.take N)).length → ∃ x, b = some x := by
    intro hp
    rw [bv_length] at hp
    obtain ⟨b', o', e'⟩ := hbc.ex (k := 0) (by simp at hp; omega)
    exact ⟨_, e'⟩
  have HC := Lib.hid (And.intro (And.intro hcell hsome) (And.intro hYb (And.intro hrz hrw)))
  go_wp2_with (refine wpList_copy_row rfl _ _ rfl (some ⟨gz, 0, none⟩) b N N lc.length cb rfl rfl gz (bv (List.replicate N 0)) 5 HC.out.2.2.1 (bv (lc.take N)) (by rw [bv_length, List.length_take]; exact Nat.min_comm _ _) (fun hp => ⟨rfl, by obtain ⟨x, hx⟩ : ∃ x, b = some x := HC.out.1.2 hp; exact ⟨x, hx, HC.out.1.1 x hx⟩⟩) (by simp [bv_length]; omega) (bv_one _) w.heap.size w hb13 hgz ?_; intro w14 hz14 ho14 hb14)
  obtain ⟨Z, hZ⟩ : ∃ Z, padded lc N = Z := ⟨_, rfl⟩
  have hZl : Z.length = N := by rw [← hZ]; exact padded_length _ _
  have hzr : w14.heap[gz]? = some (.cells (bv Z).toArray 5 (0, 0)) := by rw [← hZ, ← splice_pad]; exact hz14.out
  have hZ14 : Bs w14 (some ⟨gz, 0, none⟩) Z := (own_row hZl h9 hgz hzr).bs
  have hY14 : Bs w14 (some ⟨gy, 0, none⟩) Y := ⟨hown13.bs.addr, fun b' o' e i hi => by cases e; exact (World.cell?_of_block (ho14.out gy (Ne.symm hzy))).trans (hown13.bs.cell _ _ rfl i hi)⟩
  obtain ⟨V, hV⟩ : ∃ V, xor3 l Y Z = V := ⟨_, rfl⟩
  have hVl : V.length = N := by rw [← hV]; exact xor3_length _ _ _ N HN.out HY.out.1 hZl
  have hW14 : OwnB w14 w.heap.size (.slice (some ⟨gw, 0, none⟩) N N) (mid V 0 N) := by
    have : mid V 0 N = List.replicate N 0 := by simp [mid]
    rw [this]
    exact own_row (by simp) h9 hgw ((ho14.out gw (Ne.symm hzw)).trans HC.out.2.2.2)
  have hVg : ∀ n (hv : n < V.length) (ha : n < l.length) (hb : n < Y.length) (hc : n < Z.length), V[n] = l[n] ^^^ Y[n] ^^^ Z[n] := by
    intro n h1 h2 h3 h4
    subst hV
    exact xor3_get l Y Z n h1 h2 h3 h4
  have HV := Lib.hid (And.intro hVl (And.intro hV hVg))
  have HZl := Lib.hid hZl
  clear HC hcell hsome hz14 ho14 hzr hVl hV hVg hZl hZ hown13 hb13 hYb hbc hrz hrw hszw hgl
  go_wp2_with fail
  go_loopw [20] (fun i wr => ∃ n : Nat, n ≤ N ∧ i = .int .i64 n ∧ OwnB wr w.heap.size (.slice (some ⟨gw, 0, none⟩) N N) (mid V n N) ∧ Bs wr (some ⟨gy, 0, none⟩) Y ∧ Bs wr (some ⟨gz, 0, none⟩) Z ∧ Below w.heap.size w wr) (fun i _ => N - (intOf i).toNat)
  case atStart => exact ⟨0, by omega, rfl, hW14, hY14, hZ14, hb14⟩
  case round =>
    clear hW14 hY14 hZ14 hb14
    obtain ⟨n, hn, rfl, hW, hYr, hZr, hbel⟩ := hrel
    by_cases hnN : n < N
    · obtain ⟨ab, ao, rfl⟩ := ha.ex (k := n) (by rw [HN.out]; exact hnN)
      have hcb := (ha.below hbel).cell ab ao rfl n (by rw [HN.out]; exact hnN)
      have hcy' := hYr.cell gy 0 rfl n (by rw [HY.out.1]; exact hnN)
      have hcz := hZr.cell gz 0 rfl n (by rw [HZl.out]; exact hnN)
      have hml := mid_length V n N HV.out.1 hn
      obtain ⟨hcw, hfw⟩ := hW.cell hml.symm n (by rw [hml]; exact hnN)
      obtain ⟨m0, hm0⟩ : ∃ m0, (mid V n N)[n]'(by rw [hml]; exact hnN) = m0 := ⟨_, rfl⟩
      rw [hm0] at hcw
      clear hm0
      have hst := hW.set hml.symm n (by rw [hml]; exact hnN) (V[n]'(by rw [HV.out.1]; exact hnN))
      rw [mid_set V n N HV.out.1 hnN] at hst
      have hvg := HV.out.2.2 n (by rw [HV.out.1]; exact hnN) (by rw [HN.out]; exact hnN) (by rw [HY.out.1]; exact hnN) (by rw [HZl.out]; exact hnN)
      obtain ⟨x, hx⟩ : ∃ x, l[n]'(by rw [HN.out]; exact hnN) = x := ⟨_, rfl⟩
      obtain ⟨y, hy⟩ : ∃ y, Y[n]'(by rw [HY.out.1]; exact hnN) = y := ⟨_, rfl⟩
      obtain ⟨z, hz⟩ : ∃ z, Z[n]'(by rw [HZl.out]; exact hnN) = z := ⟨_, rfl⟩
      rw [hx, hy, hz] at hvg
      rw [hx] at hcb
      rw [hy] at hcy'
      rw [hz] at hcz
      rw [hvg] at hst
      have hx1 := xor_u8 x y
      have hx2 := xor_u8 (x ^^^ y) z
      rw [UInt8.toNat_xor x y] at hx2
      have HX := Lib.hid hx2
      clear hx2
      have HST := Lib.hid hst
      rw [Nat.zero_add] at hcy' hcz
      have hbd : (0 : Int) ≤ (n : Int) ∧ (n : Int) < (N : Int) := by omega
      have hd2 : decide ((n : Int) < (N : Int)) = true := by simp; omega
      clear hst hx hy hz hvg hml
      go_wp2_with fail
      go_big_region
      go_wp2_with fail
      go_roundw
      case rel =>
        rw [HX.out]
        exact ⟨n + 1, by omega, by go_num, HST.out.1.below (Below.refl _ _).drew, (Bs_setCell hYr hwy).below (Below.refl _ _).drew, (Bs_setCell hZr (Ne.symm hzw)).below (Below.refl _ _).drew, (hbel.setCell hgw _).drew⟩
      case measure => simp [intOf]; omega
    · obtain rfl : N = n := by omega
      rw [mid_all V N HV.out.1] at hW
      have hWb := hW.bs
      obtain ⟨SY, hSY⟩ : ∃ S, sum Y = S := ⟨_, rfl⟩
      obtain ⟨SZ, hSZ⟩ : ∃ S, sum Z = S := ⟨_, rfl⟩
      have hSV : sum V = S0 ^^^ SY ^^^ SZ := by
        rw [← HV.out.2.1, ← HS.out, ← hSY, ← hSZ]
        exact sum_three l Y Z (by rw [HY.out.1, HN.out]) (by rw [HZl.out, HN.out])
      have HSY := Lib.hid hSY
      have HSZ := Lib.hid hSZ
      have HSV := Lib.hid hSV
      have hxa := c32_xor S0 SY
      have hxb := c32_xor (S0 ^^^ SY) SZ
      clear hW hSY hSZ hSV hnN hn
      have hd2 : decide ((N : Int) < (N : Int)) = false := by simp
      go_wp2_with fail
      refine (Sum_one _ _ V _ (BBs_N hWb HV.out.1 h9)).mono ?_
      rintro e w20 ⟨rfl, hb20⟩
      rw [HSV.out]
      have hbel20 := belT (belT hbel (below_alloc _ _)) hb20
      have hY20 := (hYr.below (below_alloc _ _)).below hb20
      have hZ20 := (hZr.below (below_alloc _ _)).below hb20
      clear hb20 hYr hZr hWb
      go_wp2_with fail
      refine (Sum_one _ _ Y _ (BBs_N hY20 HY.out.1 h9)).mono ?_
      rintro e w21 ⟨rfl, hb21⟩
      rw [HSY.out]
      have hbel21 := belT (belT hbel20 (below_alloc _ _)) hb21
      have hZ21 := (hZ20.below (below_alloc _ _)).below hb21
      clear hb21 hY20 hZ20
      go_wp2_with fail
      refine (Sum_one _ _ Z _ (BBs_N hZ21 HZl.out h9)).mono ?_
      rintro e w22 ⟨rfl, hb22⟩
      rw [HSZ.out]
      have hbel22 := belT (belT hbel21 (below_alloc _ _)) hb22
      clear hb22 hZ21
      go_wp2_with fail
      go_ret
      exact ⟨by simp, hbel22⟩
end Go.Proofs.Ytfheeanpmcgajaa

/- Contracts of wire's readers, go on: Bytes, Number, Blob, Left, End. -/
import Derived.Test.YtcfcdnoebgdfeaaWalkF
import Derived.StillTailTactics
namespace Go.Proofs.Ytcfcdnoebgdfeaa
open Go.RowKit WireM

def BytesPost (w : World) (base top g : Nat) (l : List UInt8) (p n : Int) (e : Ending) (w' : World) : Prop :=
  (∃ a, e = .returned (.slice a (gotAt l p n).length (gotAt l p n).length) ∧ Got w' base top g a (gotAt l p n)) ∧ Rd w' base top g l (stepAt l p n) ∧ w.grownBy w' (some g)
theorem Bytes_any (base top g : Nat) (l : List UInt8) (p n : Int) (w : World) (h : Rd w base top g l p) (hl : l.length ≤ 140737488355328) (hp : p ≤ l.length) :
    Calls Try.prog 26 #[.pointer (some ⟨g, 0, none⟩), .int .i64 n] w (BytesPost w base top g l p n) := by
  have hN := next_any base top g l p n w h hl hp
  obtain ⟨m, hm⟩ : ∃ m, gotAt l p n = m := ⟨_, rfl⟩
  obtain ⟨q, hq⟩ : ∃ q, stepAt l p n = q := ⟨_, rfl⟩
  have e : ∀ e w', NextPost w base top g l p n e w' → (∃ a, e = .returned (.tuple #[.slice a m.length m.length, .bool (decide (0 ≤ q))]) ∧ Got w' base top g a m) ∧ Hid (Rd w' base top g l q ∧ w.grownBy w' (some g)) := by
    rintro e w' h; rw [← hm, ← hq]; exact h
  have HQ := Lib.hid (And.intro hm hq)
  clear hm hq
  go_enter Try.func26, Try.ntmps26
  go_wp2_with fail
  refine hN.mono ?_
  intro e1 w1 h1
  obtain ⟨⟨a, rfl, hg⟩, H⟩ := e _ _ h1
  clear e h1 hN
  go_wp2_with fail
  go_ret
  unfold BytesPost
  rw [HQ.out.1, HQ.out.2]
  exact ⟨⟨a, rfl, hg⟩, H.out⟩
theorem Get_got (a : Option Addr) (m : List UInt8) (w : World) (h : Bs w a m) (h8 : m.length ≤ 8) :
    Calls Try.prog 14 #[.slice a m.length m.length] w fun e w' => (∃ x : Int, e = .returned (.tuple #[.int .u64 ((val m : Nat) : Int), .int .i64 x])) ∧ w = w' := by
  by_cases h0 : 0 < m.length
  · refine (Get_any a m.length m w h (Nat.le_refl _) h0 h8).mono ?_
    rintro e w' ⟨rfl, rfl⟩
    exact ⟨⟨0, rfl⟩, rfl⟩
  · refine (Get_bad a m.length m.length w (by omega)).mono ?_
    rintro e w' ⟨rfl, rfl⟩
    obtain rfl : m = [] := List.eq_nil_of_length_eq_zero (by omega)
    exact ⟨⟨2, rfl⟩, rfl⟩
/-- the size that is asked for -/
def szOf (size : Int) : Int := if 0 < size ∧ size ≤ 8 then size else -1
theorem gotAt_len (l : List UInt8) (p n : Int) (k : Nat) (hn : n ≤ k) : (gotAt l p n).length ≤ k := by
  unfold gotAt
  split
  · simp; omega
  · simp
theorem szOf_le (size : Int) : szOf size ≤ ((8 : Nat) : Int) := by unfold szOf; split <;> omega
def numAt (l : List UInt8) (p size : Int) : Nat := val (gotAt l p (szOf size))
def NumberPost (w : World) (base top g : Nat) (l : List UInt8) (p n : Int) (e : Ending) (w' : World) : Prop :=
  e = .returned (.int .u64 ((numAt l p n : Nat) : Int)) ∧ Rd w' base top g l (stepAt l p (szOf n)) ∧ w.grownBy w' (some g)
theorem Number_any (base top g : Nat) (l : List UInt8) (p n : Int) (w : World) (h : Rd w base top g l p) (hl : l.length ≤ 140737488355328) (hp : p ≤ l.length) :
    Calls Try.prog 28 #[.pointer (some ⟨g, 0, none⟩), .int .i64 n] w (NumberPost w base top g l p n) := by
  have hB := Bytes_any base top g l p (szOf n) w h hl hp
  have hF := fits_any n w
  have h8 := gotAt_len l p (szOf n) 8 (szOf_le n)
  have e : ∀ e w', BytesPost w base top g l p (szOf n) e w' → ∃ a m, e = .returned (.slice a m.length m.length) ∧ Bs w' a m ∧ m.length ≤ 8 ∧ Hid (m = gotAt l p (szOf n) ∧ Rd w' base top g l (stepAt l p (szOf n)) ∧ w.grownBy w' (some g)) := by
    rintro e w' ⟨⟨a, h1, h2⟩, h3⟩
    exact ⟨a, _, h1, h2.bs, h8, rfl, h3⟩
  have HE := Lib.hid e
  clear e
  by_cases hf : 0 < n ∧ n ≤ 8
  · rw [show szOf n = n by unfold szOf; rw [if_pos hf]] at hB
    rw [show decide (0 < n ∧ n ≤ 8) = true by simpa using hf] at hF
    have HS : Hid (szOf n = n) := by show szOf n = n; unfold szOf; rw [if_pos hf]
    go_enter Try.func28, Try.ntmps28
    go_wp2_with (go_at_call 32; refine hF.mono ?_; rintro e w' ⟨rfl, rfl⟩)
    refine hB.mono ?_
    intro e1 w1 h1
    obtain ⟨a, m, rfl, hg, hm8, H⟩ := HE.out e1 w1 (by rw [HS.out]; exact h1)
    clear hB h1 hF
    have hG := Get_got a m w1 hg hm8
    go_wp2_with fail
    refine hG.mono ?_
    rintro e2 w2 ⟨⟨x, rfl⟩, rfl⟩
    clear hG
    go_wp2_with fail
    go_ret
    unfold NumberPost numAt
    rw [← H.out.1]
    exact ⟨rfl, H.out.2⟩
  · rw [show szOf n = -1 by unfold szOf; rw [if_neg hf]] at hB
    rw [show decide (0 < n ∧ n ≤ 8) = false by simpa using hf] at hF
    have HS : Hid (szOf n = -1) := by show szOf n = -1; unfold szOf; rw [if_neg hf]
    clear hf
    go_enter Try.func28, Try.ntmps28
    go_wp2_with (go_at_call 32; refine hF.mono ?_; rintro e w' ⟨rfl, rfl⟩)
    refine hB.mono ?_
    intro e1 w1 h1
    obtain ⟨a, m, rfl, hg, hm8, H⟩ := HE.out e1 w1 (by rw [HS.out]; exact h1)
    clear hB h1 hF
    have hG := Get_got a m w1 hg hm8
    go_wp2_with fail
    refine hG.mono ?_
    rintro e2 w2 ⟨⟨x, rfl⟩, rfl⟩
    clear hG
    go_wp2_with fail
    go_ret
    unfold NumberPost numAt
    rw [← H.out.1]
    exact ⟨rfl, H.out.2⟩
/-- Left -/
def leftAt (l : List UInt8) (p : Int) : Int := if p < 0 then 0 else l.length - p
theorem leftAt_bd (l : List UInt8) (p : Int) (hp : p ≤ l.length) : 0 ≤ leftAt l p ∧ leftAt l p ≤ l.length := by
  unfold leftAt; split <;> omega
/-- what a look at a reader leaves -/
def Look (w : World) (base top g : Nat) (l : List UInt8) (p : Int) (w' : World) : Prop := Rd w' base top g l p ∧ w.grownBy w' (some g)
theorem Look.refl {w : World} {base top g : Nat} {l : List UInt8} {p : Int} (h : Rd w base top g l p) : Look w base top g l p w := ⟨h, grown_refl _ _⟩
theorem Left_any (base top g : Nat) (l : List UInt8) (p : Int) (w : World) (h : Rd w base top g l p) (hl : l.length ≤ 140737488355328) (hp : p ≤ l.length) :
    Calls Try.prog 20 #[.pointer (some ⟨g, 0, none⟩)] w fun e w' => e = .returned (.int .i64 (leftAt l p)) ∧ Look w base top g l p w' := by
  have hF := Failed_any base top g l p w h
  have HR := Lib.hid h
  obtain ⟨hb, cap, hg, hne, hown, hb1, hb2⟩ := h.cells
  have c0 := cell_of_row w g 0 _ _ _ hg
  have c1 := cell_of_row w g 1 _ _ _ hg
  simp at c0 c1
  clear hown hg h
  by_cases hp0 : p < 0
  · rw [show decide (p < 0) = true by simpa using hp0] at hF
    have H : Hid (leftAt l p = 0) := by show _ = _; unfold leftAt; rw [if_pos hp0]
    go_enter Try.func20, Try.ntmps20
    go_wp2_with (go_at_call 21; refine hF.mono ?_; rintro e w' ⟨rfl, rfl⟩)
    go_ret
    exact ⟨by rw [H.out]; rfl, Look.refl HR.out⟩
  · rw [show decide (p < 0) = false by simpa using hp0] at hF
    have H : Hid (leftAt l p = l.length - p) := by show _ = _; unfold leftAt; rw [if_neg hp0]
    have hp1 : 0 ≤ p := by omega
    go_enter Try.func20, Try.ntmps20
    go_wp2_with (go_at_call 21; refine hF.mono ?_; rintro e w' ⟨rfl, rfl⟩)
    go_big_region
    go_wp2_with fail
    go_ret
    exact ⟨by rw [H.out]; rfl, HR.out.drewR, grown_drew (grown_refl _ _)⟩
def endAt (l : List UInt8) (p : Int) : Int := if p < 0 ∨ p < l.length then 4 else 0
theorem End_any (base top g : Nat) (l : List UInt8) (p : Int) (w : World) (h : Rd w base top g l p) (hl : l.length ≤ 140737488355328) (hp : p ≤ l.length) :
    Calls Try.prog 24 #[.pointer (some ⟨g, 0, none⟩)] w fun e w' => e = .returned (.int .i64 (endAt l p)) ∧ Look w base top g l p w' := by
  have hF := Failed_any base top g l p w h
  have hL := Left_any base top g l p w h hl hp
  have HR := Lib.hid h
  clear h
  by_cases hp0 : p < 0
  · rw [show decide (p < 0) = true by simpa using hp0] at hF
    have H : Hid (endAt l p = 4) := by show _ = _; unfold endAt; rw [if_pos (by omega)]
    go_enter Try.func24, Try.ntmps24
    go_wp2_with (go_at_call 21; refine hF.mono ?_; rintro e w' ⟨rfl, rfl⟩)
    go_ret
    exact ⟨by rw [H.out]; rfl, Look.refl HR.out⟩
  · rw [show decide (p < 0) = false by simpa using hp0] at hF
    have HLe : leftAt l p = l.length - p := by unfold leftAt; rw [if_neg hp0]
    rw [HLe] at hL
    clear HLe
    by_cases hq : p < l.length
    · have H : Hid (endAt l p = 4) := by show _ = _; unfold endAt; rw [if_pos (by omega)]
      have hd : decide (0 < (l.length : Int) - p) = true := by simp; omega
      go_enter Try.func24, Try.ntmps24
      go_wp2_with (first | (go_at_call 21; refine hF.mono ?_; rintro e w' ⟨rfl, rfl⟩) | (go_at_call 20; refine hL.mono ?_; rintro e w1 ⟨rfl, hlook⟩))
      go_ret
      exact ⟨by rw [H.out]; rfl, hlook⟩
    · have H : Hid (endAt l p = 0) := by show _ = _; unfold endAt; rw [if_neg (by omega)]
      have hd : decide (0 < (l.length : Int) - p) = false := by simp; omega
      go_enter Try.func24, Try.ntmps24
      go_wp2_with (first | (go_at_call 21; refine hF.mono ?_; rintro e w' ⟨rfl, rfl⟩) | (go_at_call 20; refine hL.mono ?_; rintro e w1 ⟨rfl, hlook⟩))
      go_ret
      exact ⟨by rw [H.out]; rfl, hlook⟩
/-- a blob's bytes -/
def blobAt (l : List UInt8) (p : Int) : List UInt8 := if stepAt l p 2 < 0 then [] else gotAt l (stepAt l p 2) (val (gotAt l p 2))
def blobStep (l : List UInt8) (p : Int) : Int := if stepAt l p 2 < 0 then stepAt l p 2 else stepAt l (stepAt l p 2) (val (gotAt l p 2))
theorem got_two (l : List UInt8) (p : Int) (h : 0 ≤ stepAt l p 2) : ∃ a b, gotAt l p 2 = [a, b] := by
  unfold stepAt at h
  split at h
  · omega
  · split at h
    · unfold gotAt
      rw [if_pos (by omega)]
      have : ((l.drop p.toNat).take (2 : Int).toNat).length = 2 := by simp; omega
      generalize (l.drop p.toNat).take (2 : Int).toNat = L at this
      match L, this with
      | [a, b], _ => exact ⟨a, b, rfl⟩
    · omega
def BlobPost (w : World) (base top g : Nat) (l : List UInt8) (p : Int) (e : Ending) (w' : World) : Prop :=
  (∃ a, e = .returned (.slice a (blobAt l p).length (blobAt l p).length) ∧ Got w' base top g a (blobAt l p)) ∧ Rd w' base top g l (blobStep l p) ∧ w.grownBy w' (some g)
theorem grown_trans {w a b : World} {r : Option Nat} (h : w.grownBy a r) (k : a.grownBy b r) : w.grownBy b r :=
  ⟨k.os.trans h.os, k.tape.trans h.tape, k.output.trans h.output, Nat.le_trans h.size k.size, fun j hj hne => (k.block j (Nat.lt_of_lt_of_le hj h.size) hne).trans (h.block j hj hne)⟩
set_option maxHeartbeats 800000 in
theorem rBlob_any (base top g : Nat) (l : List UInt8) (p : Int) (w : World) (h : Rd w base top g l p) (hl : l.length ≤ 140737488355328) (hp : p ≤ l.length) :
    Calls Try.prog 34 #[.pointer (some ⟨g, 0, none⟩)] w (BlobPost w base top g l p) := by
  have hN := next_any base top g l p 2 w h hl hp
  by_cases hq : stepAt l p 2 < 0
  · have e : ∀ e w', NextPost w base top g l p 2 e w' → (∃ a m, e = .returned (.tuple #[.slice a m m, .bool false])) ∧ Hid (Rd w' base top g l (stepAt l p 2) ∧ w.grownBy w' (some g)) := by
      rintro e w' ⟨⟨a, h1, _⟩, h2⟩
      rw [show decide (0 ≤ stepAt l p 2) = false by simpa using hq] at h1
      exact ⟨⟨a, _, h1⟩, h2⟩
    have H1 : Hid (blobAt l p = []) := by show _ = _; unfold blobAt; rw [if_pos hq]
    have H2 : Hid (blobStep l p = stepAt l p 2) := by show _ = _; unfold blobStep; rw [if_pos hq]
    clear hq
    go_enter Try.func34, Try.ntmps34
    go_wp2_with fail
    refine hN.mono ?_
    intro e1 w1 h1
    obtain ⟨⟨a, m, rfl⟩, H⟩ := e _ _ h1
    clear e h1 hN
    go_wp2_with fail
    go_ret
    unfold BlobPost
    rw [H1.out, H2.out]
    exact ⟨⟨none, rfl, Got.nil _ _ _ _⟩, H.out⟩
  · obtain ⟨x, y, hxy⟩ := got_two l p (by omega)
    have hq1 := stepAt_le l p 2 hp
    have e : ∀ e w', NextPost w base top g l p 2 e w' → ∃ a, e = .returned (.tuple #[.slice a 2 2, .bool true]) ∧ Bs w' a [x, y] ∧ Hid (Rd w' base top g l (stepAt l p 2) ∧ w.grownBy w' (some g)) := by
      rintro e w' ⟨⟨a, h1, h3⟩, h2⟩
      rw [show decide (0 ≤ stepAt l p 2) = true by simp; omega] at h1
      rw [hxy] at h1 h3
      exact ⟨a, h1, h3.bs, h2⟩
    have H1 : Hid (blobAt l p = gotAt l (stepAt l p 2) (val [x, y])) := by show _ = _; unfold blobAt; rw [if_neg hq, hxy]
    have H2 : Hid (blobStep l p = stepAt l (stepAt l p 2) (val [x, y])) := by show _ = _; unfold blobStep; rw [if_neg hq, hxy]
    have hv : ((val [x, y] : Nat) : Int) = (x.toNat : Int) * 256 + (y.toNat : Int) := by simp [val]
    have hB := fun w' (h' : Rd w' base top g l (stepAt l p 2)) => Bytes_any base top g l (stepAt l p 2) (val [x, y]) w' h' hl hq1
    rw [hv] at hB H1 H2
    clear hv hq hxy hq1
    have hx := x.toNat_lt
    have hy := y.toNat_lt
    have HB := Lib.hid hB
    clear hB
    go_enter Try.func34, Try.ntmps34
    go_wp2_with fail
    refine hN.mono ?_
    intro e1 w1 h1
    obtain ⟨a, rfl, hbs, H⟩ := e _ _ h1
    clear e h1 hN
    obtain ⟨b, o, rfl⟩ := hbs.ex (k := 0) (by simp)
    have d0 := hbs.cell b o rfl 0 (by simp)
    have d1 := hbs.cell b o rfl 1 (by simp)
    simp at d0 d1
    clear hbs
    go_wp2_with fail
    go_still_tail 11, (by kernel_rfl)
    change wpList _ _ _ _ _ w1.drew
    have k1 : IntKind.i64.wrap (x.toNat : Int) = x.toNat := by rw [IntKind.wrap_i64]; omega
    have k2 : IntKind.i64.wrap (y.toNat : Int) = y.toNat := by rw [IntKind.wrap_i64]; omega
    have k3 : IntKind.i64.wrap ((x.toNat : Int) * 256) = (x.toNat : Int) * 256 := by rw [IntKind.wrap_i64]; omega
    have k4 : IntKind.i64.wrap ((x.toNat : Int) * 256 + (y.toNat : Int)) = (x.toNat : Int) * 256 + (y.toNat : Int) := by rw [IntKind.wrap_i64]; omega
    rw [k1, k2, k3, k4]
    clear k1 k2 k3 k4
    have hB := HB.out w1.drew H.out.1.drewR
    go_wp2_with fail
    refine hB.mono ?_
    clear hB
    intro e2 w2 h2
    have H3 : Hid _ := h2
    obtain ⟨⟨a2, rfl, hg2⟩, _⟩ := h2
    go_wp2_with fail
    go_ret
    unfold BlobPost
    rw [H1.out, H2.out]
    have h3 := H3.out
    unfold BytesPost at h3
    exact ⟨⟨a2, rfl, hg2⟩, h3.2.1, grown_trans H.out.2 (grown_trans (grown_drew (grown_refl _ _)) h3.2.2)⟩
end Go.Proofs.Ytcfcdnoebgdfeaa

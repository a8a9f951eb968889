/- Contracts of the reference's readers, go on; num. -/
import Derived.Test.YtcfcdnoebgdfeaaWalkH
namespace Go.Proofs.Ytcfcdnoebgdfeaa
open Go.RowKit WireM

theorem num_any (n : Int) (w : World) : Calls Try.prog 12 #[.int .i64 n] w fun e w' => e = .returned (.int .i64 n) ∧ w = w' := by
  go_enter Try.func12, Try.ntmps12
  go_wp2
  go_ret
  exact ⟨rfl, rfl⟩
theorem grown_below {w a b : World} {g : Nat} (h : w.grownBy a (some g)) (k : Below a.heap.size a b) : w.grownBy b (some g) :=
  grown_trans h ⟨k.os, k.tape, k.output, k.size, fun j hj _ => k.block j hj⟩
def RNumberPost (w : World) (base top g : Nat) (l : List UInt8) (p n : Int) (e : Ending) (w' : World) : Prop :=
  e = .returned (.int .u64 ((numAt l p n : Nat) : Int)) ∧ RRd w' base top g l (stepAt l p (szOf n)) ∧ w.grownBy w' (some g)
theorem refGet_cap (a : Option Addr) (cap : Nat) (l : List UInt8) (w : World) (h : Bs w a l) (h8 : l.length ≤ 8) :
    Calls Try.prog 16 #[.slice a l.length cap] w fun e w' => e = .returned (.int .u64 ((val l : Nat) : Int)) ∧ Below w.heap.size w w' := refGet_any a cap l w h h8
set_option maxHeartbeats 800000 in
theorem RNumber_any (base top g : Nat) (l : List UInt8) (p n : Int) (w : World) (h : RRd w base top g l p) (hl : l.length ≤ 140737488355328) (hp : p ≤ l.length) :
    Calls Try.prog 35 #[.pointer (some ⟨g, 0, none⟩), .int .i64 n] w (RNumberPost w base top g l p n) := by
  have hB := RBytes_any base top g l p (szOf n) w h hl hp
  have h8 := gotAt_len l p (szOf n) 8 (szOf_le n)
  have e : ∀ e w', RBytesPost w base top g l p (szOf n) e w' → ∃ a c m, e = .returned (.slice a m.length c) ∧ Bs w' a m ∧ m.length ≤ 8 ∧ Hid (m = gotAt l p (szOf n) ∧ RRd w' base top g l (stepAt l p (szOf n)) ∧ w.grownBy w' (some g)) := by
    rintro e w' ⟨⟨a, c, h1, h2⟩, h3⟩
    exact ⟨a, c, _, h1, h2.2.1, h8, rfl, h3⟩
  have HE := Lib.hid e
  clear e
  by_cases hf : 0 < n ∧ n ≤ 8
  · rw [show szOf n = n by unfold szOf; rw [if_pos hf]] at hB
    have HS : Hid (szOf n = n) := by show szOf n = n; unfold szOf; rw [if_pos hf]
    obtain ⟨hf1, hf2⟩ := hf
    go_enter Try.func35, Try.ntmps35
    go_wp2_with fail
    refine hB.mono ?_
    intro e1 w1 h1
    obtain ⟨a, c, m, rfl, hg, hm8, H⟩ := HE.out e1 w1 (by rw [HS.out]; exact h1)
    clear hB h1
    have hG := refGet_any a c m w1 hg hm8
    go_wp2_with fail
    refine hG.mono ?_
    rintro e2 w2 ⟨rfl, hb⟩
    clear hG
    go_wp2_with fail
    go_ret
    unfold RNumberPost numAt
    rw [← H.out.1]
    exact ⟨rfl, H.out.2.1.below hb, grown_below H.out.2.2 hb⟩
  · rw [show szOf n = -1 by unfold szOf; rw [if_neg hf]] at hB
    have HS : Hid (szOf n = -1) := by show szOf n = -1; unfold szOf; rw [if_neg hf]
    have e0 : Hid (numAt l p n = 0) := by
      show _ = _
      unfold numAt; rw [HS.out]; unfold gotAt; rw [if_neg (by omega)]; rfl
    have hor : n < 1 ∨ 8 < n := by omega
    clear hf
    rcases hor with hor | hor
    · go_enter Try.func35, Try.ntmps35
      go_wp2_with fail
      refine hB.mono ?_
      intro e1 w1 h1
      obtain ⟨a, c, m, rfl, hg, hm8, H⟩ := HE.out e1 w1 (by rw [HS.out]; exact h1)
      clear hB h1
      go_wp2_with fail
      go_ret
      unfold RNumberPost
      rw [e0.out]
      exact ⟨rfl, H.out.2⟩
    · have hn1 : ¬ n < 1 := by omega
      go_enter Try.func35, Try.ntmps35
      go_wp2_with fail
      refine hB.mono ?_
      intro e1 w1 h1
      obtain ⟨a, c, m, rfl, hg, hm8, H⟩ := HE.out e1 w1 (by rw [HS.out]; exact h1)
      clear hB h1
      go_wp2_with fail
      go_ret
      unfold RNumberPost
      rw [e0.out]
      exact ⟨rfl, H.out.2⟩
theorem stepAt_neg (l : List UInt8) (p n : Int) (h : p < 0) : stepAt l p n = p := by unfold stepAt; rw [if_pos h]
theorem gotAt_neg (l : List UInt8) (p n : Int) (h : p < 0) : gotAt l p n = [] := by unfold gotAt; rw [if_neg (by omega)]
theorem blob_two (l : List UInt8) (p : Int) : blobAt l p = gotAt l (stepAt l p 2) (numAt l p 2) ∧ blobStep l p = stepAt l (stepAt l p 2) (numAt l p 2) := by
  have e2 : szOf 2 = 2 := by simp [szOf]
  unfold blobAt blobStep numAt
  rw [e2]
  by_cases h : stepAt l p 2 < 0
  · rw [if_pos h, if_pos h, gotAt_neg _ _ _ h, stepAt_neg _ _ _ h]; exact ⟨rfl, rfl⟩
  · rw [if_neg h, if_neg h]; exact ⟨rfl, rfl⟩
def RBlobPost (w : World) (base top g : Nat) (l : List UInt8) (p : Int) (e : Ending) (w' : World) : Prop :=
  (∃ a c, e = .returned (.slice a (blobAt l p).length c) ∧ (blobAt l p).length ≤ c ∧ Bs w' a (blobAt l p) ∧ Away a base top g) ∧ RRd w' base top g l (blobStep l p) ∧ w.grownBy w' (some g)
theorem val_lt16 (l : List UInt8) (p : Int) : numAt l p 2 < 65536 := by
  have h1 := val_lt (gotAt l p (szOf 2))
  have h2 : (gotAt l p (szOf 2)).length ≤ 2 := gotAt_len l p (szOf 2) 2 (by simp [szOf])
  have h3 : 256 ^ (gotAt l p (szOf 2)).length ≤ 256 ^ 2 := Nat.pow_le_pow_right (by omega) h2
  unfold numAt; omega
theorem RBlob_any (base top g : Nat) (l : List UInt8) (p : Int) (w : World) (h : RRd w base top g l p) (hl : l.length ≤ 140737488355328) (hp : p ≤ l.length) :
    Calls Try.prog 36 #[.pointer (some ⟨g, 0, none⟩)] w (RBlobPost w base top g l p) := by
  have hN := RNumber_any base top g l p 2 w h hl hp
  have hB := fun w' (h' : RRd w' base top g l (stepAt l p 2)) => RBytes_any base top g l (stepAt l p 2) (numAt l p 2) w' h' hl (stepAt_le l p 2 hp)
  have hv := val_lt16 l p
  have e : ∀ e w', RNumberPost w base top g l p 2 e w' → e = .returned (.int .u64 ((numAt l p 2 : Nat) : Int)) ∧ Hid (RRd w' base top g l (stepAt l p 2) ∧ w.grownBy w' (some g)) := by
    rintro e w' ⟨h1, h2⟩
    rw [show szOf 2 = 2 by simp [szOf]] at h2
    exact ⟨h1, h2⟩
  obtain ⟨h1, h2⟩ := blob_two l p
  have H1 := Lib.hid h1
  have H2 := Lib.hid h2
  clear h1 h2
  have HB := Lib.hid hB
  clear hB
  obtain ⟨N, hN0⟩ : ∃ N, numAt l p 2 = N := ⟨_, rfl⟩
  rw [hN0] at hv e HB H1 H2
  clear hN0
  go_enter Try.func36, Try.ntmps36
  go_wp2_with fail
  refine hN.mono ?_
  intro e1 w1 h1
  obtain ⟨rfl, H⟩ := e _ _ h1
  clear e h1 hN
  have hB := HB.out w1 H.out.1
  go_wp2_with fail
  refine hB.mono ?_
  clear hB
  intro e2 w2 h2
  have H3 : Hid _ := h2
  obtain ⟨⟨a2, c2, rfl, hg2⟩, _⟩ := h2
  go_wp2_with fail
  go_ret
  unfold RBlobPost
  rw [H1.out, H2.out]
  have h3 := H3.out
  unfold RBytesPost at h3
  exact ⟨⟨a2, c2, rfl, hg2⟩, h3.2.1, grown_trans H.out.2 h3.2.2⟩
theorem RLeft_any (base top g : Nat) (l : List UInt8) (p : Int) (w : World) (h : RRd w base top g l p) (hp : p ≤ l.length) :
    Calls Try.prog 23 #[.pointer (some ⟨g, 0, none⟩)] w fun e w' => e = .returned (.int .i64 (leftAt l p)) ∧ w = w' := by
  obtain ⟨a, k, c, hg, hk, hc, hna, hbs, haw, hfl⟩ := h.cells
  have c0 := cell_of_row w g 0 _ _ _ hg
  simp at c0
  have H : Hid (leftAt l p = k) := by
    show _ = _
    unfold leftAt
    rw [hk]; unfold restAt
    split
    · simp
    · simp; omega
  clear hg hk hbs haw hna hfl h
  go_enter Try.func23, Try.ntmps23
  go_wp2
  go_ret
  exact ⟨by rw [H.out]; rfl, rfl⟩
theorem REnd_any (base top g : Nat) (l : List UInt8) (p : Int) (w : World) (h : RRd w base top g l p) (hp : p ≤ l.length) :
    Calls Try.prog 25 #[.pointer (some ⟨g, 0, none⟩)] w fun e w' => e = .returned (.int .i64 (endAt l p)) ∧ w = w' := by
  obtain ⟨a, k, c, hg, hk, hc, hna, hbs, haw, hfl⟩ := h.cells
  have c0 := cell_of_row w g 0 _ _ _ hg
  have c1 := cell_of_row w g 1 _ _ _ hg
  simp at c0 c1
  have e : (k : Int) = leftAt l p := by
    unfold leftAt
    rw [hk]; unfold restAt
    split
    · simp
    · simp; omega
  by_cases hp0 : p < 0
  · rw [show decide (p < 0) = true by simpa using hp0] at c1
    have H : Hid (endAt l p = 4) := by show _ = _; unfold endAt; rw [if_pos (by omega)]
    clear hg hk hbs haw hna hfl h e
    go_enter Try.func25, Try.ntmps25
    go_wp2
    go_ret
    exact ⟨by rw [H.out]; rfl, rfl⟩
  · rw [show decide (p < 0) = false by simpa using hp0] at c1
    have e2 : (k : Int) = l.length - p := by rw [e]; unfold leftAt; rw [if_neg hp0]
    by_cases hq : p < l.length
    · have H : Hid (endAt l p = 4) := by show _ = _; unfold endAt; rw [if_pos (by omega)]
      have hk0 : decide (0 < (k : Int)) = true := by simp; omega
      have hk1 : 0 < k := by omega
      clear hg hk hbs haw hna hfl h e e2
      go_enter Try.func25, Try.ntmps25
      go_wp2
      go_ret
      exact ⟨by rw [H.out]; rfl, rfl⟩
    · have H : Hid (endAt l p = 0) := by show _ = _; unfold endAt; rw [if_neg (by omega)]
      obtain rfl : k = 0 := by omega
      clear hg hk hbs haw hna hfl h e e2
      go_enter Try.func25, Try.ntmps25
      go_wp2
      go_ret
      exact ⟨by rw [H.out]; rfl, rfl⟩
end Go.Proofs.Ytcfcdnoebgdfeaa

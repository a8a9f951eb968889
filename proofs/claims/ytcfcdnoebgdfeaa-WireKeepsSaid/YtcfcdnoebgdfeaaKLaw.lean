/- Fields in a row, read back: plain lists and numbers. -/
import Derived.Test.YtcfcdnoebgdfeaaAlike
namespace Go.Proofs.Ytcfcdnoebgdfeaa
open WireM

structure Fld where
  n : Nat
  size : Int
  b : List UInt8
/-- a field that is put -/
def Fld.ok (f : Fld) : Prop := f.b.length ≤ 3000 ∧ (f.size ≠ 0 → room f.n f.size)
def Fld.enc (f : Fld) : List UInt8 := if f.size = 0 then blobL f.b else be f.n f.size.toNat
/-- one field, asked for -/
def kstep (l : List UInt8) (s : Int × Bool) (f : Fld) : Int × Bool :=
  if f.size = 0 then (blobStep l s.1, s.2 && decide (blobAt l s.1 = f.b) && !decide (blobStep l s.1 < 0))
  else (stepAt l s.1 (szOf f.size), s.2 && decide (numAt l s.1 f.size = f.n) && !decide (stepAt l s.1 (szOf f.size) < 0))
def krun (l : List UInt8) (F : List Fld) : Int × Bool := F.foldl (kstep l) (0, true)
theorem krun_snoc (l : List UInt8) (F : List Fld) (k : Nat) (h : k < F.length) : krun l (F.take (k + 1)) = kstep l (krun l (F.take k)) F[k] := by
  unfold krun
  rw [take_snoc F k h, List.foldl_append]; rfl
def encs (F : List Fld) : List UInt8 := (F.map Fld.enc).flatten
theorem encs_snoc (F : List Fld) (k : Nat) (h : k < F.length) : encs (F.take (k + 1)) = encs (F.take k) ++ F[k].enc := by
  unfold encs
  rw [take_snoc F k h, List.map_append, List.flatten_append]
  simp only [List.map_cons, List.map_nil, List.flatten_cons, List.flatten_nil, List.append_nil]
theorem blobL_len (l : List UInt8) : (blobL l).length = l.length + 2 := by simp [blobL, be_length]; omega
theorem enc_len (f : Fld) (h : f.ok) : 1 ≤ f.enc.length ∧ f.enc.length ≤ 3002 := by
  unfold Fld.enc
  split
  · rw [blobL_len]; have := h.1; omega
  · rename_i hs
    obtain ⟨h1, h2, _⟩ := h.2 hs
    rw [be_length]; omega
theorem encs_len (F : List Fld) (h : ∀ f ∈ F, f.ok) : (encs F).length ≤ 3002 * F.length := by
  induction F with
  | nil => simp [encs]
  | cons f F ih =>
    have h1 := (enc_len f (h f (by simp))).2
    have h2 := ih (fun g hg => h g (by simp [hg]))
    have : encs (f :: F) = f.enc ++ encs F := by simp [encs]
    rw [this, List.length_append, List.length_cons]; omega
theorem got_mid (pre m post : List UInt8) : gotAt (pre ++ (m ++ post)) pre.length m.length = m ∧ stepAt (pre ++ (m ++ post)) pre.length m.length = ((pre.length + m.length : Nat) : Int) := by
  unfold gotAt stepAt
  have hl : ((pre ++ (m ++ post)).length : Int) = pre.length + (m.length + post.length) := by simp
  rw [if_pos (by omega), if_neg (by omega), if_pos (by omega)]
  refine ⟨?_, by omega⟩
  simp
theorem num_mid (pre post : List UInt8) (n k : Nat) (h : room n k) : numAt (pre ++ (be n k ++ post)) pre.length k = n ∧ stepAt (pre ++ (be n k ++ post)) pre.length (szOf k) = ((pre.length + k : Nat) : Int) := by
  obtain ⟨h1, h2, h3⟩ := h
  simp only [Int.toNat_natCast] at h3
  have := got_mid pre (be n k) post
  rw [be_length] at this
  unfold numAt
  rw [szOf_yes _ (by omega), this.1, this.2, val_be]
  exact ⟨Nat.mod_eq_of_lt h3, rfl⟩
theorem blob_mid (pre post b : List UInt8) (h : b.length ≤ 65535) : blobAt (pre ++ (blobL b ++ post)) pre.length = b ∧ blobStep (pre ++ (blobL b ++ post)) pre.length = ((pre.length + (blobL b).length : Nat) : Int) := by
  obtain ⟨h1, h2⟩ := blob_two (pre ++ (blobL b ++ post)) pre.length
  have e : pre ++ (blobL b ++ post) = pre ++ (be b.length 2 ++ (b ++ post)) := by simp [blobL]
  have h3 := num_mid pre (b ++ post) b.length 2 ⟨by omega, by omega, by show b.length < 256 ^ 2; omega⟩
  have hs : szOf ((2 : Nat) : Int) = 2 := szOf_yes 2 (by omega)
  rw [hs] at h3
  rw [h1, h2, e]
  have e1 : numAt (pre ++ (be b.length 2 ++ (b ++ post))) (pre.length : Int) 2 = b.length := h3.1
  rw [e1, h3.2]
  have e2 : pre ++ (be b.length 2 ++ (b ++ post)) = (pre ++ be b.length 2) ++ (b ++ post) := by simp
  have h4 := got_mid (pre ++ be b.length 2) b post
  rw [List.length_append, be_length] at h4
  rw [e2, h4.1, h4.2, blobL_len]
  exact ⟨rfl, by omega⟩
theorem kstep_mid (pre post : List UInt8) (f : Fld) (h : f.ok) : kstep (pre ++ (f.enc ++ post)) ((pre.length : Int), true) f = (((pre.length + f.enc.length : Nat) : Int), true) := by
  unfold kstep Fld.enc
  by_cases hs : f.size = 0
  · rw [if_pos hs, if_pos hs]
    obtain ⟨h1, h2⟩ := blob_mid pre post f.b (by have := h.1; omega)
    rw [h1, h2]; simp; omega
  · rw [if_neg hs, if_neg hs]
    obtain ⟨r1, r2, r3⟩ := h.2 hs
    obtain ⟨k, hk⟩ : ∃ k : Nat, f.size = (k : Int) := ⟨f.size.toNat, by omega⟩
    obtain ⟨h1, h2⟩ := num_mid pre post f.n k (by rw [← hk]; exact h.2 hs)
    rw [hk, Int.toNat_natCast, h1, h2, be_length]; simp; omega
theorem krun_mid (F : List Fld) : ∀ (pre post : List UInt8), (∀ f ∈ F, f.ok) → F.foldl (kstep (pre ++ (encs F ++ post))) ((pre.length : Int), true) = (((pre.length + (encs F).length : Nat) : Int), true) := by
  induction F with
  | nil => intro pre post _; simp [encs]
  | cons f F ih =>
    intro pre post h
    have e : encs (f :: F) = f.enc ++ encs F := by simp [encs]
    have e1 : pre ++ (encs (f :: F) ++ post) = pre ++ (f.enc ++ (encs F ++ post)) := by rw [e]; simp
    have e2 : pre ++ (encs (f :: F) ++ post) = (pre ++ f.enc) ++ (encs F ++ post) := by rw [e]; simp
    rw [List.foldl_cons]
    have h1 : kstep (pre ++ (encs (f :: F) ++ post)) ((pre.length : Int), true) f = (((pre.length + f.enc.length : Nat) : Int), true) := by
      rw [e1]; exact kstep_mid pre _ f (h f (by simp))
    rw [h1, e2]
    have h2 := ih (pre ++ f.enc) post (fun g hg => h g (by simp [hg]))
    rw [List.length_append] at h2
    rw [h2, e, List.length_append]
    congr 2; omega
/-- of the whole row all is got -/
theorem krun_all (F : List Fld) (h : ∀ f ∈ F, f.ok) : krun (encs F) F = (((encs F).length : Int), true) := by
  have := krun_mid F [] [] h
  simpa [krun] using this
theorem kstep_cut (pre : List UInt8) (f : Fld) (h : f.ok) : (kstep (pre ++ f.enc.take (f.enc.length - 1)) ((pre.length : Int), true) f).1 < 0 ∧ (kstep (pre ++ f.enc.take (f.enc.length - 1)) ((pre.length : Int), true) f).2 = false := by
  have hneg : ∀ f' : Fld, ∀ l s, (kstep l s f').1 < 0 → (kstep l s f').2 = false := by
    intro f' l s hs
    unfold kstep at hs ⊢
    split at hs
    · rename_i h0; rw [if_pos h0]; simp only at hs ⊢; simp [hs]
    · rename_i h0; rw [if_neg h0]; simp only at hs ⊢; simp [hs]
  have key : (kstep (pre ++ f.enc.take (f.enc.length - 1)) ((pre.length : Int), true) f).1 < 0 := by
    have he := enc_len f h
    have hlen : ((pre ++ f.enc.take (f.enc.length - 1)).length : Int) = pre.length + (f.enc.length - 1 : Nat) := by
      rw [List.length_append, List.length_take]; omega
    by_cases hs : f.size = 0
    · have hel : f.enc.length = f.b.length + 2 := by unfold Fld.enc; rw [if_pos hs, blobL_len]
      have hE : f.enc = blobL f.b := by unfold Fld.enc; rw [if_pos hs]
      unfold kstep
      rw [if_pos hs]
      simp only
      by_cases hb : f.b.length = 0
      · rw [(blob_two _ _).2]
        have : stepAt (pre ++ f.enc.take (f.enc.length - 1)) (pre.length : Int) 2 = -1 := by
          unfold stepAt; rw [if_neg (by omega), if_neg (by omega)]
        rw [this, stepAt_neg _ _ _ (by omega)]; omega
      · have e : pre ++ f.enc.take (f.enc.length - 1) = pre ++ (be f.b.length 2 ++ f.b.take (f.b.length - 1)) := by
          rw [hE, blobL_len, blobL, List.take_append, be_length, List.take_of_length_le (by rw [be_length]; omega)]
          congr 3
        have h3 := num_mid pre (f.b.take (f.b.length - 1)) f.b.length 2 ⟨by omega, by omega, by show f.b.length < 256 ^ 2; have := h.1; omega⟩
        have hs2 : szOf ((2 : Nat) : Int) = 2 := szOf_yes 2 (by omega)
        rw [hs2] at h3
        rw [(blob_two _ _).2, e]
        have e1 : numAt (pre ++ (be f.b.length 2 ++ f.b.take (f.b.length - 1))) (pre.length : Int) 2 = f.b.length := h3.1
        rw [e1, h3.2]
        have hl2 : ((pre ++ (be f.b.length 2 ++ f.b.take (f.b.length - 1))).length : Int) = pre.length + (2 + (f.b.length - 1 : Nat)) := by
          simp [be_length]
        unfold stepAt
        rw [if_neg (by omega), if_neg (by omega)]; omega
    · obtain ⟨r1, r2, r3⟩ := h.2 hs
      have hel : (f.enc.length : Int) = f.size := by unfold Fld.enc; rw [if_neg hs, be_length]; omega
      unfold kstep
      rw [if_neg hs]
      simp only
      rw [szOf_yes _ (by omega)]
      unfold stepAt
      rw [if_neg (by omega), if_neg (by omega)]; omega
  exact ⟨key, hneg _ _ _ key⟩
/-- of the row without its last byte nothing comes of it -/
theorem krun_cut (F : List Fld) (h : ∀ f ∈ F, f.ok) (hne : 0 < (encs F).length) : (krun ((encs F).take ((encs F).length - 1)) F).1 < 0 ∧ (krun ((encs F).take ((encs F).length - 1)) F).2 = false := by
  rcases List.eq_nil_or_concat F with rfl | ⟨G, f, rfl⟩
  · simp [encs] at hne
  · have hf := h f (by simp)
    have he := enc_len f hf
    have e : encs (G.concat f) = encs G ++ f.enc := by simp [encs]
    have e1 : (encs (G.concat f)).take ((encs (G.concat f)).length - 1) = encs G ++ f.enc.take (f.enc.length - 1) := by
      rw [e, List.length_append, List.take_append, List.take_of_length_le (by omega)]
      congr 2; omega
    rw [e1]
    have hG := krun_mid G [] (f.enc.take (f.enc.length - 1)) (fun g hg => h g (by simp [hg]))
    have hr : krun (encs G ++ f.enc.take (f.enc.length - 1)) (G.concat f) = kstep (encs G ++ f.enc.take (f.enc.length - 1)) (((encs G).length : Int), true) f := by
      unfold krun
      rw [List.concat_eq_append, List.foldl_append]
      have : G.foldl (kstep (encs G ++ f.enc.take (f.enc.length - 1))) (0, true) = (((encs G).length : Int), true) := by simpa using hG
      rw [this]; rfl
    rw [hr]
    exact kstep_cut (encs G) f hf
end Go.Proofs.Ytcfcdnoebgdfeaa

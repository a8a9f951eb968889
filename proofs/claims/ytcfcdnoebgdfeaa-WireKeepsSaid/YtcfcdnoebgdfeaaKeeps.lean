/- keeps: a reader asked for fields. -/
import Derived.Test.YtcfcdnoebgdfeaaKLaw
namespace Go.Proofs.Ytcfcdnoebgdfeaa
open Go.RowKit WireM

/-- fields that came in -/
structure FieldsIn (w : World) (a : Option Addr) (F : List Fld) : Prop where
  addr : F ≠ [] → ∃ b o, a = some ⟨b, o, none⟩
  cell : ∀ b o, a = some ⟨b, o, none⟩ → ∀ i (h : i < F.length), w.cell? ⟨b, o + i * 3, none⟩ = some (.int .u64 (F[i].n : Int)) ∧ w.cell? ⟨b, o + i * 3 + 1, none⟩ = some (.int .i64 F[i].size) ∧
    ∃ ai ci, w.cell? ⟨b, o + i * 3 + 2, none⟩ = some (.slice ai F[i].b.length ci) ∧ Bs w ai F[i].b ∧ F[i].b.length ≤ 9223372036854775807 ∧ (ai = none → ci = 0)
  nb : ∀ i (h : i < F.length), F[i].n < 18446744073709551616
theorem FieldsIn.belowB {w0 w : World} {a : Option Addr} {F : List Fld} (h : FieldsIn w0 a F) (hb : Below w0.heap.size w0 w) : FieldsIn w a F :=
  ⟨h.addr, fun b o e i hi => by
    obtain ⟨h1, h2, ai, ci, h3, h4, h5⟩ := h.cell b o e i hi
    exact ⟨Below.cellSome hb h1, Below.cellSome hb h2, ai, ci, Below.cellSome hb h3, h4.below hb, h5⟩, h.nb⟩
theorem kstep_num (l : List UInt8) (p : Int) (g x z : Bool) (f : Fld) (hs : f.size ≠ 0) (hx : (((numAt l p f.size : Nat) : Int) == (f.n : Int)) = x) (hz : decide (stepAt l p (szOf f.size) < 0) = z) : kstep l (p, g) f = (stepAt l p (szOf f.size), (g && x) && !z) := by
  unfold kstep
  rw [if_neg hs]
  simp only [hz]
  have : decide (numAt l p f.size = f.n) = x := by
    rw [← hx, Bool.eq_iff_iff]; simp
    constructor
    · intro h; omega
    · intro h; omega
  rw [this]
theorem kstep_blob (l : List UInt8) (p : Int) (g x z : Bool) (f : Fld) (hs : f.size = 0) (hx : ((str (blobAt l p)).toList == (str f.b).toList) = x) (hz : decide (blobStep l p < 0) = z) : kstep l (p, g) f = (blobStep l p, (g && x) && !z) := by
  unfold kstep
  rw [if_pos hs]
  simp only [hz]
  rw [← hx, str_beq]
theorem krun_le (l : List UInt8) (F : List Fld) : (krun l F).1 ≤ l.length := by
  unfold krun
  have : ∀ (F : List Fld) (s : Int × Bool), s.1 ≤ l.length → (F.foldl (kstep l) s).1 ≤ l.length := by
    intro F
    induction F with
    | nil => intro s h; exact h
    | cons f F ih =>
      intro s h
      refine ih _ ?_
      unfold kstep
      split
      · exact ((blob_down l s.1).2 h).2
      · exact (step_down l s.1 (szOf f.size)).2.2 h
  exact this F _ (by simp)
set_option maxRecDepth 100000 in
set_option maxHeartbeats 6400000 in
theorem keeps_any (B T g : Nat) (l : List UInt8) (s : Option Addr) (cs : Nat) (F : List Fld) (w0 w : World) (hb : Below w0.heap.size w0 w) (hB0 : w0.heap.size ≤ B) (r : Rd w B T g l 0) (hl : l.length ≤ 140737488355328) (hF : FieldsIn w0 s F) (hFl : F.length ≤ 9223372036854775807) :
    Calls Try.prog 29 #[.pointer (some ⟨g, 0, none⟩), .slice s F.length cs] w fun e w' => e = .returned (.bool (krun l F).2) ∧ Rd w' B T g l (krun l F).1 ∧ Below w0.heap.size w0 w' := by
  have HF := Lib.hid hF
  have HR := Lib.hid (And.intro r hb)
  have hg0 : w0.heap.size ≤ g := by have := r.up; omega
  clear hF r hb
  go_enter Try.func29, Try.ntmps29
  go_wp2_with fail
  go_loopw [5, 6, 7, 8] (fun gd i _ _ wr => ∃ (k : Nat) (p : Int) (q : Bool), k ≤ F.length ∧ i = .int .i64 k ∧ gd = .bool q ∧ Hid (krun l (F.take k) = (p, q)) ∧ Rd wr B T g l p ∧ p ≤ l.length ∧ Below w0.heap.size w0 wr) (fun _ i _ _ _ => F.length - (intOf i).toNat)
  case atStart => exact ⟨0, 0, true, by omega, rfl, rfl, by simp [Hid, krun], HR.out.1, by omega, HR.out.2⟩
  case round =>
    clear HR
    obtain ⟨k, p, q, hk, rfl, rfl, HK, r, hpl, hb⟩ := hrel
    by_cases hlt : k < F.length
    · obtain ⟨b, o, rfl⟩ := HF.out.addr (by intro e; rw [e] at hlt; simp at hlt)
      have hsn := krun_snoc l F k hlt
      rw [HK.out] at hsn
      have hcell := HF.out.cell b o rfl k hlt
      have hnb := HF.out.nb k hlt
      obtain ⟨f, hf⟩ : ∃ f, F[k] = f := ⟨_, rfl⟩
      rw [hf] at hsn hcell hnb
      clear hf HK
      have HC := Lib.hid hcell
      obtain ⟨c0, c1, ai, ci, c2, _, hbl, hai⟩ := hcell
      have hki : (k : Int) < (F.length : Int) := by omega
      have hk0 : (0 : Int) ≤ (k : Int) := by omega
      have d0 := Below.cellSome hb c0
      have d1 := Below.cellSome hb c1
      have d2 := Below.cellSome hb c2
      by_cases hs : f.size = 0
      · have hs1 : (f.size != 0) = false := by simp [hs]
        obtain ⟨x, hx⟩ : ∃ x, ((str (blobAt l p)).toList == (str f.b).toList) = x := ⟨_, rfl⟩
        obtain ⟨z, hz⟩ : ∃ z, decide (blobStep l p < 0) = z := ⟨_, rfl⟩
        have hst := kstep_blob l p q x z f hs hx hz
        rw [hst] at hsn
        have hpl2 := ((blob_down l p).2 hpl).2
        obtain ⟨p2, hp2⟩ : ∃ p2, blobStep l p = p2 := ⟨_, rfl⟩
        obtain ⟨X, hX⟩ : ∃ X, blobAt l p = X := ⟨_, rfl⟩
        rw [hp2] at hz hsn hpl2
        rw [hX] at hx
        have HS := Lib.hid hsn
        have hC := rBlob_at B T g l p p2 X hp2 hX _ r hl hpl
        have CF := Lib.hid (fun w' r => Failed_at B T g l p2 z hz w' r)
        clear hst hsn hp2 hX hz r hs c0 c1 c2
        go_wp2_with fail
        refine hC.mono ?_
        rintro e w1 ⟨ax, rfl, G, r1, hg1⟩
        have hb1 := below_grow hb hb.size hg1 hg0
        clear hC
        have kx := fun w' (h : Below w1.heap.size w1 w') => conv_str ax X.length X w' (G.bs.below h)
        obtain ⟨b0, b1, ai', ci', b2, b3, b4⟩ := HC.out
        have eq2 : ai' = ai ∧ ci' = ci := by
          have e1 := Below.cellSome hb b2
          rw [d2] at e1
          simp at e1
          exact ⟨e1.1.symm, e1.2.symm⟩
        obtain ⟨rfl, rfl⟩ := eq2
        have kb := fun w' (h : Below w0.heap.size w0 w') => conv_str ai' ci' f.b w' (b3.below h)
        have KF : ∀ w' : World, Below w1.drew.heap.size w1.drew w' → (convert 23 9 (.slice ax X.length X.length)).run Try.prog w' = .ok (.string (str X)) w' ∧ (convert 23 9 (.slice ai' f.b.length ci')).run Try.prog w' = .ok (.string (str f.b)) w' ∧ w'.cell? ⟨b, o + k * 3 + 2, none⟩ = some (.slice ai' f.b.length ci') :=
          fun w' h => ⟨kx w' (belT (Below.refl _ _).drew h), kb w' (belT hb1 (belT (Below.refl _ _).drew h)), Below.cellSome (belT hb1 (belT (Below.refl _ _).drew h)) b2⟩
        have r1' := r1.drewR
        have hb1' := hb1.drew
        clear d0 d1 d2 kx kb b0 b1 b2 b3 HC G hg1 r1 hb1 hb
        cases q with
          | false =>
            go_wp2_with fail
            refine seq_start 13 [false, false, false, false, false, false, false, false, false, false, false, false, false] (by kernel_rfl) rfl rfl ?_
            refine seq_take 0 (v := ?_) rfl (by kernel_rfl) (fun _ _ _ h => h) (Or.inl ⟨by rfl, fun w' hb => ?_⟩) ?_
            rotate_left
            · have kf := KF w' hb
              go_simp
              with_reducible rfl
            simp only [Act.put, List.setIfInBounds_toArray, List.set_cons_zero, List.set_cons_succ]
            refine seq_take 1 (v := ?_) rfl (by kernel_rfl) (fun _ _ _ h => h) (Or.inl ⟨by rfl, fun w' hb => ?_⟩) ?_
            rotate_left
            · have kf := KF w' hb
              go_simp
              with_reducible rfl
            simp only [Act.put, List.setIfInBounds_toArray, List.set_cons_zero, List.set_cons_succ]
            refine seq_take 2 (v := undef) rfl (by kernel_rfl) (fun _ _ _ h => h) (Or.inr ⟨by rfl, rfl⟩) ?_
            simp only [Act.put, List.setIfInBounds_toArray, List.set_cons_zero, List.set_cons_succ]
            refine seq_take 3 (v := undef) rfl (by kernel_rfl) (fun _ _ _ h => h) (Or.inr ⟨by rfl, rfl⟩) ?_
            simp only [Act.put, List.setIfInBounds_toArray, List.set_cons_zero, List.set_cons_succ]
            refine seq_take 4 (v := undef) rfl (by kernel_rfl) (fun _ _ _ h => h) (Or.inr ⟨by rfl, rfl⟩) ?_
            simp only [Act.put, List.setIfInBounds_toArray, List.set_cons_zero, List.set_cons_succ]
            refine seq_take 5 (v := undef) rfl (by kernel_rfl) (fun _ _ _ h => h) (Or.inr ⟨by rfl, rfl⟩) ?_
            simp only [Act.put, List.setIfInBounds_toArray, List.set_cons_zero, List.set_cons_succ]
            refine seq_take 6 (v := undef) rfl (by kernel_rfl) (fun _ _ _ h => h) (Or.inr ⟨by rfl, rfl⟩) ?_
            simp only [Act.put, List.setIfInBounds_toArray, List.set_cons_zero, List.set_cons_succ]
            refine seq_take 7 (v := undef) rfl (by kernel_rfl) (fun _ _ _ h => h) (Or.inr ⟨by rfl, rfl⟩) ?_
            simp only [Act.put, List.setIfInBounds_toArray, List.set_cons_zero, List.set_cons_succ]
            refine seq_take 8 (v := undef) rfl (by kernel_rfl) (fun _ _ _ h => h) (Or.inr ⟨by rfl, rfl⟩) ?_
            simp only [Act.put, List.setIfInBounds_toArray, List.set_cons_zero, List.set_cons_succ]
            refine seq_take 9 (v := undef) rfl (by kernel_rfl) (fun _ _ _ h => h) (Or.inr ⟨by rfl, rfl⟩) ?_
            simp only [Act.put, List.setIfInBounds_toArray, List.set_cons_zero, List.set_cons_succ]
            refine seq_take 10 (v := undef) rfl (by kernel_rfl) (fun _ _ _ h => h) (Or.inr ⟨by rfl, rfl⟩) ?_
            simp only [Act.put, List.setIfInBounds_toArray, List.set_cons_zero, List.set_cons_succ]
            refine seq_take 11 (v := ?_) rfl (by kernel_rfl) (fun _ _ _ h => h) (Or.inl ⟨by rfl, fun w' hb => ?_⟩) ?_
            rotate_left
            · have kf := KF w' hb
              go_simp
              with_reducible rfl
            simp only [Act.put, List.setIfInBounds_toArray, List.set_cons_zero, List.set_cons_succ]
            refine seq_take 12 (v := ?_) rfl (by kernel_rfl) (fun _ _ _ h => h) (Or.inl ⟨by rfl, fun w' hb => ?_⟩) ?_
            rotate_left
            · have kf := KF w' hb
              go_simp
              with_reducible rfl
            simp only [Act.put, List.setIfInBounds_toArray, List.set_cons_zero, List.set_cons_succ]
            refine seq_end (by kernel_rfl) ?_
            clear KF
            cases z <;> cases x
            all_goals
              go_wp2_with (go_at_call 21; refine (CF.out _ r1').mono ?_; rintro e w2 ⟨rfl, rfl⟩)
              go_roundw
              case rel => exact ⟨k + 1, p2, _, by omega, by go_num, rfl, HS.out, r1', hpl2, hb1'⟩
              case measure => simp [intOf]; omega
          | true =>
            go_wp2_with fail
            refine seq_start 13 [false, false, false, false, false, false, false, false, false, false, false, false, false] (by kernel_rfl) rfl rfl ?_
            refine seq_take 0 (v := ?_) rfl (by kernel_rfl) (fun _ _ _ h => h) (Or.inl ⟨by rfl, fun w' hb => ?_⟩) ?_
            rotate_left
            · have kf := KF w' hb
              go_simp
              with_reducible rfl
            simp only [Act.put, List.setIfInBounds_toArray, List.set_cons_zero, List.set_cons_succ]
            refine seq_take 1 (v := ?_) rfl (by kernel_rfl) (fun _ _ _ h => h) (Or.inl ⟨by rfl, fun w' hb => ?_⟩) ?_
            rotate_left
            · have kf := KF w' hb
              go_simp
              with_reducible rfl
            simp only [Act.put, List.setIfInBounds_toArray, List.set_cons_zero, List.set_cons_succ]
            refine seq_take 2 (v := ?_) rfl (by kernel_rfl) (fun _ _ _ h => h) (Or.inl ⟨by rfl, fun w' hb => ?_⟩) ?_
            rotate_left
            · have kf := KF w' hb
              go_simp
              with_reducible rfl
            simp only [Act.put, List.setIfInBounds_toArray, List.set_cons_zero, List.set_cons_succ]
            refine seq_take 3 (v := ?_) rfl (by kernel_rfl) (fun _ _ _ h => h) (Or.inl ⟨by rfl, fun w' hb => ?_⟩) ?_
            rotate_left
            · have kf := KF w' hb
              go_simp
              with_reducible rfl
            simp only [Act.put, List.setIfInBounds_toArray, List.set_cons_zero, List.set_cons_succ]
            refine seq_take 4 (v := ?_) rfl (by kernel_rfl) (fun _ _ _ h => h) (Or.inl ⟨by rfl, fun w' hb => ?_⟩) ?_
            rotate_left
            · have kf := KF w' hb
              go_simp
              with_reducible rfl
            simp only [Act.put, List.setIfInBounds_toArray, List.set_cons_zero, List.set_cons_succ]
            refine seq_take 5 (v := ?_) rfl (by kernel_rfl) (fun _ _ _ h => h) (Or.inl ⟨by rfl, fun w' hb => ?_⟩) ?_
            rotate_left
            · have kf := KF w' hb
              go_simp
              with_reducible rfl
            simp only [Act.put, List.setIfInBounds_toArray, List.set_cons_zero, List.set_cons_succ]
            refine seq_take 6 (v := ?_) rfl (by kernel_rfl) (fun _ _ _ h => h) (Or.inl ⟨by rfl, fun w' hb => ?_⟩) ?_
            rotate_left
            · have kf := KF w' hb
              go_simp
              with_reducible rfl
            simp only [Act.put, List.setIfInBounds_toArray, List.set_cons_zero, List.set_cons_succ]
            refine seq_take 7 (v := ?_) rfl (by kernel_rfl) (fun _ _ _ h => h) (Or.inl ⟨by rfl, fun w' hb => ?_⟩) ?_
            rotate_left
            · have kf := KF w' hb
              go_simp
              with_reducible rfl
            simp only [Act.put, List.setIfInBounds_toArray, List.set_cons_zero, List.set_cons_succ]
            refine seq_take 8 (v := ?_) rfl (by kernel_rfl) (fun _ _ _ h => h) (Or.inl ⟨by rfl, fun w' hb => ?_⟩) ?_
            rotate_left
            · have kf := KF w' hb
              go_simp
              with_reducible rfl
            simp only [Act.put, List.setIfInBounds_toArray, List.set_cons_zero, List.set_cons_succ]
            refine seq_take 9 (v := ?_) rfl (by kernel_rfl) (fun _ _ _ h => h) (Or.inl ⟨by rfl, fun w' hb => ?_⟩) ?_
            rotate_left
            · have kf := KF w' hb
              go_simp
              with_reducible rfl
            simp only [Act.put, List.setIfInBounds_toArray, List.set_cons_zero, List.set_cons_succ]
            refine seq_take 10 (v := ?_) rfl (by kernel_rfl) (fun _ _ _ h => h) (Or.inl ⟨by rfl, fun w' hb => ?_⟩) ?_
            rotate_left
            · have kf := KF w' hb
              go_simp
              with_reducible rfl
            simp only [Act.put, List.setIfInBounds_toArray, List.set_cons_zero, List.set_cons_succ]
            refine seq_take 11 (v := ?_) rfl (by kernel_rfl) (fun _ _ _ h => h) (Or.inl ⟨by rfl, fun w' hb => ?_⟩) ?_
            rotate_left
            · have kf := KF w' hb
              go_simp
              with_reducible rfl
            simp only [Act.put, List.setIfInBounds_toArray, List.set_cons_zero, List.set_cons_succ]
            refine seq_take 12 (v := ?_) rfl (by kernel_rfl) (fun _ _ _ h => h) (Or.inl ⟨by rfl, fun w' hb => ?_⟩) ?_
            rotate_left
            · have kf := KF w' hb
              go_simp
              with_reducible rfl
            simp only [Act.put, List.setIfInBounds_toArray, List.set_cons_zero, List.set_cons_succ]
            refine seq_end (by kernel_rfl) ?_
            clear KF
            cases z <;> cases x
            all_goals
              go_wp2_with (go_at_call 21; refine (CF.out _ r1').mono ?_; rintro e w2 ⟨rfl, rfl⟩)
              go_roundw
              case rel => exact ⟨k + 1, p2, _, by omega, by go_num, rfl, HS.out, r1', hpl2, hb1'⟩
              case measure => simp [intOf]; omega
      · have hs1 : (f.size != 0) = true := by simpa using hs
        obtain ⟨x, hx⟩ : ∃ x, (((numAt l p f.size : Nat) : Int) == (f.n : Int)) = x := ⟨_, rfl⟩
        obtain ⟨z, hz⟩ : ∃ z, decide (stepAt l p (szOf f.size) < 0) = z := ⟨_, rfl⟩
        have hst := kstep_num l p q x z f hs hx hz
        rw [hst] at hsn
        have hpl2 := (step_down l p (szOf f.size)).2.2 hpl
        obtain ⟨p2, hp2⟩ : ∃ p2, stepAt l p (szOf f.size) = p2 := ⟨_, rfl⟩
        obtain ⟨N, hN⟩ : ∃ X, numAt l p f.size = X := ⟨_, rfl⟩
        rw [hp2] at hz hsn hpl2
        rw [hN] at hx
        have HS := Lib.hid hsn
        have hC := Number_at B T g l p f.size p2 N hp2 hN _ r hl hpl
        have CF := Lib.hid (fun w' r => Failed_at B T g l p2 z hz w' r)
        have HC0 := Lib.hid (And.intro c0 c1)
        clear hst hsn hp2 hN hz r hs c0 c1 c2 HC
        go_wp2_with fail
        refine hC.mono ?_
        rintro e w1 ⟨rfl, r1, hg1⟩
        have hb1 := below_grow hb hb.size hg1 hg0
        have e0 := Below.cellSome hb1 HC0.out.1
        have e1 := Below.cellSome hb1 HC0.out.2
        clear hC d0 d1 d2 hg1 hb
        cases q <;> cases z <;> cases x
        all_goals
          go_wp2_with (go_at_call 21; refine (CF.out _ r1).mono ?_; rintro e w2 ⟨rfl, rfl⟩)
          go_roundw
          case rel => exact ⟨k + 1, p2, _, by omega, by go_num, rfl, HS.out, r1, hpl2, hb1⟩
          case measure => simp [intOf]; omega
    · have hkl : F.take k = F := List.take_of_length_le (by omega)
      rw [hkl] at HK
      go_wp2_with fail
      go_ret
      rw [HK.out]
      exact ⟨rfl, r, hb⟩
end Go.Proofs.Ytcfcdnoebgdfeaa

/- The reference's MayMembers. -/
import Derived.Test.YtbpajfjeakffkaaQK
namespace Go.Proofs.Ytbpajfjeakffkaa
open Go.RowKit Go.Sort Go.Shelf Go.MapKept
attribute [local go_sem] Oper.semAt_some

set_option maxRecDepth 10000 in
set_option maxHeartbeats 6400000 in
theorem may10 (a : Option Addr) (c : Nat) (l : List Int) (w : World) (h : Is w a l) (hl : l.length ≤ 9223372036854775807) :
    Calls Try.prog 10 #[.slice a l.length c] w fun e w' => Gr w w' ∧ ((May l ∧ e = .returned (.bool true)) ∨ (¬ May l ∧ e = .returned (.bool false))) := by
  go_enter Try.func10, Try.ntmps10
  go_wp2_with fail
  go_loopw [3] (fun i wr => ∃ k : Nat, k ≤ l.length ∧ i = .int .i64 k ∧ May (l.take k) ∧ Gr w wr) (fun i _ => l.length - (intOf i).toNat)
  case atStart => exact ⟨0, by omega, rfl, ⟨List.nodup_nil, fun x hx => by cases hx⟩, Gr.refl _⟩
  case round =>
    obtain ⟨k, hk, rfl, hmay, hg⟩ := hrel
    obtain ⟨wo, rfl⟩ : ∃ wo, wo = wr := ⟨_, rfl⟩
    have HY := Lib.hid hmay
    have HG := Lib.hid hg
    by_cases hlt : k < l.length
    · have hsn := Lib.hid (take_snocI l k hlt)
      obtain ⟨b1, o1, rfl⟩ := h.ex hlt
      have hc := (h.below hg.below).cell b1 o1 rfl k hlt
      obtain ⟨x, hx⟩ : ∃ x, l[k] = x := ⟨_, rfl⟩
      rw [hx] at hc hsn
      have HX := Lib.hid hx
      clear hx hmay hg
      have HBad : Hid ((x ∈ l.take k ∨ x < 1 ∨ 5 < x) → ¬ May l) := by
        refine Lib.hid fun hx hm => ?_
        have := hm.take (k + 1)
        rw [hsn.out, may_snoc] at this
        obtain ⟨_, h1, h2, h3⟩ := this
        rcases hx with h | h | h
        · exact h1 h
        · omega
        · omega
      by_cases h1 : x < 1
      · have hd1 : decide (x < 1) = true := decide_eq_true h1
        have HD := Lib.hid (HBad.out (.inr (.inl h1)))
        clear h1 h
        go_wp2
        go_ret
        exact ⟨HG.out, .inr ⟨HD.out, rfl⟩⟩
      · have hd1 : decide (x < 1) = false := decide_eq_false h1
        by_cases h5 : 5 < x
        · have hd5 : decide (5 < x) = true := decide_eq_true h5
          have HD := Lib.hid (HBad.out (.inr (.inr h5)))
          clear h1 h5 h
          go_wp2
          go_ret
          exact ⟨HG.out, .inr ⟨HD.out, rfl⟩⟩
        · have hd5 : decide (5 < x) = false := decide_eq_false h5
          have HR : Hid (1 ≤ x ∧ x ≤ 5) := Lib.hid (by omega)
          clear h1 h5
          go_wp2_with fail
          go_loopw [4] (fun i wr => ∃ m : Nat, m ≤ k ∧ i = .int .i64 m ∧ x ∉ l.take m ∧ Gr w wr) (fun i _ => k - (intOf i).toNat)
          case atStart => exact ⟨0, by omega, rfl, by simp, HG.out⟩
          case round =>
            obtain ⟨m, hm, rfl, hnot, hg⟩ := hrel
            have HN := Lib.hid hnot
            clear hnot hc hd1 hd5
            by_cases hmk : m < k
            · have hdm : decide ((m : Int) < k) = true := decide_eq_true (by omega)
              have hc1 := (h.below hg.below).cell b1 o1 rfl m (by omega)
              have hc2 := (h.below hg.below).cell b1 o1 rfl k hlt
              have hs2 := Lib.hid (take_snocI l m (by omega))
              obtain ⟨y, hy⟩ : ∃ y, l[m]'(by omega) = y := ⟨_, rfl⟩
              rw [hy] at hc1 hs2
              rw [HX.out] at hc2
              clear hy
              have HG2 := Lib.hid hg
              by_cases hyx : y = x
              · have HD := Lib.hid (HBad.out (.inl (by
                  have : x ∈ l.take (m + 1) := by rw [hs2.out, hyx]; simp
                  exact (List.take_sublist_take_left (by omega)).subset this)))
                have hq : (y == x) = true := by simpa using hyx
                clear hyx hg h
                go_wp2_with fail
                have KF : ∀ w', Gr wr.drew w' → w'.cell? ⟨b1, o1 + m, none⟩ = some (.int .i64 y) ∧ w'.cell? ⟨b1, o1 + k, none⟩ = some (.int .i64 x) ∧ m < l.length := fun w' hb => ⟨Below.cellSome hb.below hc1, Below.cellSome hb.below hc2, Nat.lt_trans hmk hlt⟩
                refine seqS_start (Gr wr.drew) 9 [false, false, false, false, false, false, false, false, false] (by kernel_rfl) rfl rfl (Gr.refl _) ?_
                refine seqS_take 0 (v := ?_) rfl (by kernel_rfl) (fun _ _ _ h => h) (Or.inl ⟨by rfl, fun w' hb => ?_⟩) ?_
                rotate_left
                · have kf := KF w' hb
                  go_simp
                  with_reducible rfl
                simp only [Act.put, List.setIfInBounds_toArray, List.set_cons_zero, List.set_cons_succ]
                refine seqS_take 1 (v := ?_) rfl (by kernel_rfl) (fun _ _ _ h => h) (Or.inl ⟨by rfl, fun w' hb => ?_⟩) ?_
                rotate_left
                · have kf := KF w' hb
                  go_simp
                  with_reducible rfl
                simp only [Act.put, List.setIfInBounds_toArray, List.set_cons_zero, List.set_cons_succ]
                refine seqS_take 2 (v := ?_) rfl (by kernel_rfl) (fun _ _ _ h => h) (Or.inl ⟨by rfl, fun w' hb => ?_⟩) ?_
                rotate_left
                · have kf := KF w' hb
                  go_simp
                  with_reducible rfl
                simp only [Act.put, List.setIfInBounds_toArray, List.set_cons_zero, List.set_cons_succ]
                refine seqS_take 3 (v := ?_) rfl (by kernel_rfl) (fun _ _ _ h => h) (Or.inl ⟨by rfl, fun w' hb => ?_⟩) ?_
                rotate_left
                · have kf := KF w' hb
                  go_simp
                  with_reducible rfl
                simp only [Act.put, List.setIfInBounds_toArray, List.set_cons_zero, List.set_cons_succ]
                refine seqS_take 4 (v := ?_) rfl (by kernel_rfl) (fun _ _ _ h => h) (Or.inl ⟨by rfl, fun w' hb => ?_⟩) ?_
                rotate_left
                · have kf := KF w' hb
                  go_simp
                  with_reducible rfl
                simp only [Act.put, List.setIfInBounds_toArray, List.set_cons_zero, List.set_cons_succ]
                refine seqS_take 5 (v := ?_) rfl (by kernel_rfl) (fun _ _ _ h => h) (Or.inl ⟨by rfl, fun w' hb => ?_⟩) ?_
                rotate_left
                · have kf := KF w' hb
                  go_simp
                  with_reducible rfl
                simp only [Act.put, List.setIfInBounds_toArray, List.set_cons_zero, List.set_cons_succ]
                refine seqS_take 6 (v := ?_) rfl (by kernel_rfl) (fun _ _ _ h => h) (Or.inl ⟨by rfl, fun w' hb => ?_⟩) ?_
                rotate_left
                · have kf := KF w' hb
                  go_simp
                  with_reducible rfl
                simp only [Act.put, List.setIfInBounds_toArray, List.set_cons_zero, List.set_cons_succ]
                refine seqS_take 7 (v := ?_) rfl (by kernel_rfl) (fun _ _ _ h => h) (Or.inl ⟨by rfl, fun w' hb => ?_⟩) ?_
                rotate_left
                · have kf := KF w' hb
                  go_simp
                  with_reducible rfl
                simp only [Act.put, List.setIfInBounds_toArray, List.set_cons_zero, List.set_cons_succ]
                refine seqS_take 8 (v := ?_) rfl (by kernel_rfl) (fun _ _ _ h => h) (Or.inl ⟨by rfl, fun w' hb => ?_⟩) ?_
                rotate_left
                · have kf := KF w' hb
                  go_simp
                  with_reducible rfl
                simp only [Act.put, List.setIfInBounds_toArray, List.set_cons_zero, List.set_cons_succ]
                refine seqS_end (by kernel_rfl) (fun hEnd => ?_)
                clear KF
                go_wp2
                go_ret
                exact ⟨HG2.out.drew, .inr ⟨HD.out, rfl⟩⟩
              · have hq : (y == x) = false := by simpa using hyx
                have HE := Lib.hid hyx
                clear hyx hg h
                go_wp2_with fail
                have KF : ∀ w', Gr wr.drew w' → w'.cell? ⟨b1, o1 + m, none⟩ = some (.int .i64 y) ∧ w'.cell? ⟨b1, o1 + k, none⟩ = some (.int .i64 x) ∧ m < l.length := fun w' hb => ⟨Below.cellSome hb.below hc1, Below.cellSome hb.below hc2, Nat.lt_trans hmk hlt⟩
                refine seqS_start (Gr wr.drew) 9 [false, false, false, false, false, false, false, false, false] (by kernel_rfl) rfl rfl (Gr.refl _) ?_
                refine seqS_take 0 (v := ?_) rfl (by kernel_rfl) (fun _ _ _ h => h) (Or.inl ⟨by rfl, fun w' hb => ?_⟩) ?_
                rotate_left
                · have kf := KF w' hb
                  go_simp
                  with_reducible rfl
                simp only [Act.put, List.setIfInBounds_toArray, List.set_cons_zero, List.set_cons_succ]
                refine seqS_take 1 (v := ?_) rfl (by kernel_rfl) (fun _ _ _ h => h) (Or.inl ⟨by rfl, fun w' hb => ?_⟩) ?_
                rotate_left
                · have kf := KF w' hb
                  go_simp
                  with_reducible rfl
                simp only [Act.put, List.setIfInBounds_toArray, List.set_cons_zero, List.set_cons_succ]
                refine seqS_take 2 (v := ?_) rfl (by kernel_rfl) (fun _ _ _ h => h) (Or.inl ⟨by rfl, fun w' hb => ?_⟩) ?_
                rotate_left
                · have kf := KF w' hb
                  go_simp
                  with_reducible rfl
                simp only [Act.put, List.setIfInBounds_toArray, List.set_cons_zero, List.set_cons_succ]
                refine seqS_take 3 (v := ?_) rfl (by kernel_rfl) (fun _ _ _ h => h) (Or.inl ⟨by rfl, fun w' hb => ?_⟩) ?_
                rotate_left
                · have kf := KF w' hb
                  go_simp
                  with_reducible rfl
                simp only [Act.put, List.setIfInBounds_toArray, List.set_cons_zero, List.set_cons_succ]
                refine seqS_take 4 (v := ?_) rfl (by kernel_rfl) (fun _ _ _ h => h) (Or.inl ⟨by rfl, fun w' hb => ?_⟩) ?_
                rotate_left
                · have kf := KF w' hb
                  go_simp
                  with_reducible rfl
                simp only [Act.put, List.setIfInBounds_toArray, List.set_cons_zero, List.set_cons_succ]
                refine seqS_take 5 (v := ?_) rfl (by kernel_rfl) (fun _ _ _ h => h) (Or.inl ⟨by rfl, fun w' hb => ?_⟩) ?_
                rotate_left
                · have kf := KF w' hb
                  go_simp
                  with_reducible rfl
                simp only [Act.put, List.setIfInBounds_toArray, List.set_cons_zero, List.set_cons_succ]
                refine seqS_take 6 (v := ?_) rfl (by kernel_rfl) (fun _ _ _ h => h) (Or.inl ⟨by rfl, fun w' hb => ?_⟩) ?_
                rotate_left
                · have kf := KF w' hb
                  go_simp
                  with_reducible rfl
                simp only [Act.put, List.setIfInBounds_toArray, List.set_cons_zero, List.set_cons_succ]
                refine seqS_take 7 (v := ?_) rfl (by kernel_rfl) (fun _ _ _ h => h) (Or.inl ⟨by rfl, fun w' hb => ?_⟩) ?_
                rotate_left
                · have kf := KF w' hb
                  go_simp
                  with_reducible rfl
                simp only [Act.put, List.setIfInBounds_toArray, List.set_cons_zero, List.set_cons_succ]
                refine seqS_take 8 (v := ?_) rfl (by kernel_rfl) (fun _ _ _ h => h) (Or.inl ⟨by rfl, fun w' hb => ?_⟩) ?_
                rotate_left
                · have kf := KF w' hb
                  go_simp
                  with_reducible rfl
                simp only [Act.put, List.setIfInBounds_toArray, List.set_cons_zero, List.set_cons_succ]
                refine seqS_end (by kernel_rfl) (fun hEnd => ?_)
                clear KF
                go_wp2
                go_roundw
                case rel =>
                  refine ⟨m + 1, hmk, by push_cast; rfl, ?_, HG2.out.drew⟩
                  rw [hs2.out]
                  intro hx
                  rcases List.mem_append.1 hx with h | h
                  · exact HN.out h
                  · simp at h; exact HE.out h.symm
                case measure => simp only [intOf]; omega
            · have hmk2 : m = k := by omega
              subst hmk2
              have hdm : decide ((m : Int) < m) = false := decide_eq_false (by omega)
              have HG2 := Lib.hid hg
              clear hg h
              go_wp2
              go_roundw
              case rel =>
                refine ⟨m + 1, hlt, by push_cast; rfl, ?_, HG2.out⟩
                rw [hsn.out, may_snoc]
                exact ⟨HY.out, HN.out, HR.out⟩
              case measure => simp only [intOf]; omega
    · have hkl : k = l.length := by omega
      subst hkl
      rw [List.take_length] at HY
      clear hmay hg h
      go_wp2
      go_ret
      exact ⟨HG.out, .inl ⟨HY.out, rfl⟩⟩

end Go.Proofs.Ytbpajfjeakffkaa

/- The reader's subs, its walk. -/
import Derived.Test.YtokijkinlcdjeaaRecJ
import Derived.Test.YtokijkinlcdjeaaSeqK
namespace Go.Proofs.Ytokijkinlcdjeaa
open Go.RowKit WireM

theorem step_append_u_at {ops : Array Oper} {o : Oper} {a : Act} {w : World} {K : Act → World → Prop} {Q : Exit → Act → World → Prop} {E : Prop} (hgd : o.guard = none) (s x : Operand)
    (ho : o.op = .call { callee := .builtin .append, args := #[s, x], argTypes := #[25, 25] }) (base : Nat) (v : Value) (l : List Nat) (hs : a.eval s = v) (h : OwnU w base v l)
    (ad : Option Addr) (m : List Nat) (k c : Nat) (hx : a.eval x = .slice ad k c) (hk : k = m.length) (hm : Us w ad m) (hn : ad = none → c = 0) (hlen : l.length + m.length ≤ 17592186044416) (hb : base ≤ w.heap.size)
    (hK : ∀ v' w', OwnU w' base v' (l ++ m) → w.grownBy w' v.ownBlock → (v'.ownBlock = v.ownBlock ∨ v'.ownBlock = some w.heap.size) → K (a.put o.dst v') w') : if Region.wanted o (yielded ops a.tmps) = true then Oper.wp Try.prog o a w K Q else E := by
  rw [if_pos (by simp [Region.wanted, hgd])]
  exact wp_append_u_at s x ho base v l hs h ad m k c hx hk hm hn hlen hb hK
theorem Us_one (w : World) (n k : Nat) (t : TypeId) (hk : k = w.heap.size) : Us (w.alloc (.cells #[.int .u64 n] t)) (some ⟨k, 0, none⟩) [n] := by
  subst hk
  refine ⟨fun _ => ⟨_, _, rfl⟩, fun b o e i hi => ?_⟩
  obtain ⟨rfl, rfl, _⟩ := e
  obtain rfl : i = 0 := by simp at hi; omega
  rw [cell_of_row _ _ _ _ _ _ (heap_alloc_new _ _)]; rfl
theorem OwnU.sl {w : World} {base : Nat} {v : Value} {l : List Nat} (h : OwnU w base v l) : ∃ a c, v = .slice a l.length c := by
  rcases h.2 with ⟨rfl, h0⟩ | ⟨g, cap, cur, rfl, _⟩
  · exact ⟨none, 0, by rw [h0]⟩
  · exact ⟨_, cap, rfl⟩

theorem RStep.next {w w1 w2 : World} {base top g g2 mb : Nat} {d : List UInt8} {q2 : Int} {R2 : Rec} {b b1 : Option Nat} (hbel : Below base w w1) (hsz : w.heap.size ≤ w1.heap.size) (hk : ∀ j, j < w.heap.size → j ≠ g → j ≠ g2 → b ≠ some j → w1.heap[j]? = w.heap[j]?) (ho : b1 = b ∨ ∃ n, b1 = some n ∧ w.heap.size ≤ n)
    (h : RStep w1 base top g g2 mb d q2 R2 b1 w2) : RStep w base top g g2 mb d q2 R2 b w2 := by
  obtain ⟨ab, sb, cs, h1, h2, h3, h4⟩ := h
  refine ⟨ab, sb, cs, h1, hbel.trans h2, fun j hj e1 e2 e3 => ?_, ?_⟩
  · have hb1 : b1 ≠ some j := by
      rcases ho with rfl | ⟨n, rfl, hn⟩
      · exact e3
      · intro e; have := Option.some.inj e; omega
    exact (h3 j (Nat.lt_of_lt_of_le hj hsz) e1 e2 hb1).trans (hk j hj e1 e2 e3)
  · rcases h4 with e | ⟨n, e, hn⟩
    · rw [e]; exact ho
    · exact .inr ⟨n, e, Nat.le_trans hsz hn⟩
theorem RS.subsStep {wr w1 w3 : World} {o : Obj} {base top g g2 mb : Nat} {d : List UInt8} {q1 q2 : Int} {R : Rec} {ab sb sb3 : Option Addr} {cs cs3 : Nat} {U : List Nat} (h : RS wr base top g g2 mb d q1 R ab sb cs)
    (hr1 : Rd w1 base top g d q2) (hg1 : wr.drew.grownBy w1 (some g)) (ho3 : OwnU w3 top (.slice sb3 U.length cs3) U) (hg3 : (w1.alloc o).grownBy w3 (Value.slice sb R.subs.length cs).ownBlock) (hs3 : (Value.slice sb3 U.length cs3).ownBlock = (Value.slice sb R.subs.length cs).ownBlock ∨ (Value.slice sb3 U.length cs3).ownBlock = some (w1.alloc o).heap.size) :
    RStep wr base top g g2 mb d q2 { R with subs := U } (Value.slice sb R.subs.length cs).ownBlock (w3.setCell ⟨g2, 6, none⟩ (.slice sb3 U.length cs3)) := by
  have hd := h.below (Below.refl wr.heap.size wr).drew
  have h1 := hd.rdTo hr1 hg1
  have h2 := h1.below (below_alloc w1 o)
  have h4 := h2.setSubs ho3 hg3 hs3
  have s1 : wr.heap.size ≤ w1.heap.size := hg1.size
  have s2 : (w1.alloc o).heap.size = w1.heap.size + 1 := by simp
  have s3 : (w1.alloc o).heap.size ≤ w3.heap.size := hg3.size
  have s4 : (w3.setCell ⟨g2, 6, none⟩ (.slice sb3 U.length cs3)).heap.size = w3.heap.size := by simp [World.setCell]
  have hk : ∀ j, j < wr.heap.size → j ≠ g → j ≠ g2 → (Value.slice sb R.subs.length cs).ownBlock ≠ some j → (w3.setCell ⟨g2, 6, none⟩ (.slice sb3 U.length cs3)).heap[j]? = wr.heap[j]? := fun j hj e1 e2 e3 => by
    rw [Below.heap_setCell _ _ _ _ (show j ≠ (⟨g2, 6, none⟩ : Addr).block from e2), hg3.block j (by omega) (fun e => e3 e.symm), (below_alloc w1 o).block j (by omega), hg1.block j hj (fun e => e1 (Option.some.inj e))]
    rfl
  have hb0 : base ≤ wr.heap.size := by have := h.t2; have := h.lt.1; have := h.rd.up; have := h.rd.lt; omega
  refine ⟨ab, sb3, cs3, h4, ⟨?_, ?_, ?_, by omega, fun k hkb => ?_⟩, hk, ?_⟩
  · exact hg3.os.trans hg1.os
  · exact hg3.tape.trans hg1.tape
  · exact hg3.output.trans hg1.output
  · have := h.t2; have := h.rd.up; have := h.rd.lt
    exact hk k (by omega) (by omega) (by omega) (fun e => by have := (h.own.lt k e).1; omega)
  · rcases hs3 with e | e
    · exact .inl e
    · exact .inr ⟨_, e, by omega⟩
set_option maxHeartbeats 3200000 in
theorem rSubs (base top g g2 mb : Nat) (d : List UInt8) (q : Int) (R : Rec) (ab sb : Option Addr) (cs : Nat) (w : World) (h : RS w base top g g2 mb d q R ab sb cs) (hd : d.length ≤ 140737488355328) (hq : q ≤ d.length) (hu : R.subs = []) :
    Calls Try.prog 45 #[.pointer (some ⟨g2, 0, none⟩)] w fun e w' => e = .returned (.tuple #[]) ∧ RStep w base top g g2 mb d (srun d (numAt d q 2) (stepAt d q (szOf 2), [])).1 { R with subs := (srun d (numAt d q 2) (stepAt d q (szOf 2), [])).2 } (Value.slice sb R.subs.length cs).ownBlock w' := by
  obtain ⟨q', hq'⟩ : ∃ q', stepAt d q (szOf 2) = q' := ⟨_, rfl⟩
  have hqd : q' ≤ d.length := by rw [← hq']; exact stepAt_le d _ _ hq
  obtain ⟨N, hN⟩ : ∃ N, numAt d q 2 = N := ⟨_, rfl⟩
  have P := Lib.hid (Number_at base top g d q 2 q' N hq' hN w h.rd hd hq)
  have hNb : N < 65536 := by rw [← hN]; exact val_lt16 d q
  rw [hq', hN]
  clear hq' hN
  have hb0 : base ≤ w.heap.size := by have := h.t2; have := h.lt.1; have := h.rd.up; have := h.rd.lt; omega
  have z0 : w.cell? ⟨g2, 0, none⟩ = some (.pointer (some ⟨g, 0, none⟩)) := cell_of_row _ _ 0 _ _ _ h.cell
  obtain ⟨b, hb⟩ : ∃ b, (Value.slice sb R.subs.length cs).ownBlock = b := ⟨_, rfl⟩
  rw [hb]
  have hst : ∀ w1 : World, RS w1 base top g g2 mb d q' R ab sb cs → w.grownBy w1 (some g) → RStep w base top g g2 mb d q' { R with subs := [] } b w1 := fun w1 h1 hg => by
    have e : R = { R with subs := [] } := by rw [← hu]
    refine ⟨ab, sb, cs, e ▸ h1, below_g hg h.rd.up hb0, fun j hj h1 _ _ => hg.block j hj (fun e => h1 (Option.some.inj e)), .inl ?_⟩
    rw [← hb, hu]
  have HST := Lib.hid hst
  clear hst hb hu
  go_enter Try.func45, Try.ntmps45
  go_wp2_with (go_at_call 20; refine P.out.mono ?_; rintro e w1 ⟨rfl, hr1, hg1⟩; have h1 := h.rdTo hr1 hg1)
  have hs0 := HST.out w1 h1 hg1
  clear HST P h h1 hr1 hg1 z0
  go_loopw [7] (fun i wr => ∃ k : Nat, k ≤ N ∧ i = .int .u64 k ∧ RStep w base top g g2 mb d (srun d k (q', [])).1 { R with subs := (srun d k (q', [])).2 } b wr) (fun i _ => N - (intOf i).toNat)
  case atStart => exact ⟨0, by omega, rfl, hs0⟩
  case round =>
    clear hs0
    obtain ⟨k, hk, rfl, ab, sb, cs, h, hbel, hkeep, hown⟩ := hrel
    obtain ⟨q1, U, hs⟩ : ∃ q1 U, srun d k (q', []) = (q1, U) := ⟨_, _, rfl⟩
    have hq1 : q1 ≤ d.length := by have := srun_le d k (q', []) hqd; rwa [hs] at this
    have hU : U.length ≤ k := by have := srun_len d k (q', []); rw [hs] at this; simpa using this
    have hS : Hid (srun d (k + 1) (q', []) = sstep d (q1, U)) := by show _ = _; rw [srun, hs]
    have HS2 := Lib.hid hs
    rw [hs] at h hown
    clear hs
    have z0 : wr.cell? ⟨g2, 0, none⟩ = some (.pointer (some ⟨g, 0, none⟩)) := cell_of_row _ _ 0 _ _ _ h.cell
    have hwsz : w.heap.size ≤ wr.heap.size := hbel.size
    have HK := Lib.hid (And.intro hbel (And.intro hkeep hown))
    clear hbel hkeep hown
    by_cases hlt : k < N
    · by_cases hneg : q1 < 0
      · have PF := Lib.hid (Failed_at base top g d q1 true (by simp [hneg]) wr h.rd)
        have HE : Hid (sstep d (q1, U) = (q1, U)) := by show _ = _; unfold sstep; rw [if_pos hneg]
        clear hneg
        go_wp2_with (go_at_call 50; refine PF.out.mono ?_; rintro e w1 ⟨rfl, rfl⟩)
        go_roundw
        case rel => exact ⟨k + 1, by omega, by go_num, by rw [hS.out, HE.out]; exact ⟨ab, sb, cs, h, HK.out⟩⟩
        case measure => simp [intOf]; omega
      · have PF := Lib.hid (Failed_at base top g d q1 false (by simp [hneg]) wr h.rd)
        have HE : Hid (sstep d (q1, U) = (stepAt d q1 (szOf 8), U ++ [numAt d q1 8])) := by show _ = _; unfold sstep; rw [if_neg hneg]
        clear hneg
        go_wp2_with (go_at_call 50; refine PF.out.mono ?_; rintro e w1 ⟨rfl, rfl⟩)
        obtain ⟨q2, hq2⟩ : ∃ q2, stepAt d q1 (szOf 8) = q2 := ⟨_, rfl⟩
        obtain ⟨N1, hN1⟩ : ∃ N1, numAt d q1 8 = N1 := ⟨_, rfl⟩
        have hdr := h.below (Below.refl _ _).drew
        have P := Lib.hid (Number_at base top g d q1 8 q2 N1 hq2 hN1 wr.drew hdr.rd hd hq1)
        rw [hq2, hN1] at HE
        clear hq2 hN1
        have c0 : wr.drew.cell? ⟨g2, 0, none⟩ = some (.pointer (some ⟨g, 0, none⟩)) := cell_of_row _ _ 0 _ _ _ hdr.cell
        have c6 : wr.drew.cell? ⟨g2, 6, none⟩ = some (.slice sb U.length cs) := cell_of_row _ _ 6 _ _ _ hdr.cell
        have KF : ∀ w' : World, (false = false → w'.cell? ⟨g2, 0, none⟩ = some (.pointer (some ⟨g, 0, none⟩)) ∧ w'.cell? ⟨g2, 6, none⟩ = some (.slice sb U.length cs)) → w'.cell? ⟨g2, 0, none⟩ = some (.pointer (some ⟨g, 0, none⟩)) ∧ w'.cell? ⟨g2, 6, none⟩ = some (.slice sb U.length cs) := fun _ h => h rfl
        refine seqK_start 16 (fun (b : Bool) (w' : World) => b = false → w'.cell? ⟨g2, 0, none⟩ = some (.pointer (some ⟨g, 0, none⟩)) ∧ w'.cell? ⟨g2, 6, none⟩ = some (.slice sb U.length cs)) 17 [false, false, false, false, false, false, false, false, false, false, false, false, false, false, false, false, false] (by kernel_rfl) rfl rfl rfl (fun _ => ⟨c0, c6⟩) ?_
        refine seqK_take 0 [16] (v := ?_) rfl (by kernel_rfl) (by kernel_rfl) (fun _ _ _ h => h) (Or.inl ⟨by rfl, fun w' hb => ?_⟩) ?_
        rotate_left
        · have kf := KF w' hb
          go_simp
          with_reducible rfl
        simp only [Act.put, List.setIfInBounds_toArray, List.set_cons_zero, List.set_cons_succ]
        refine seqK_take 1 [16] (v := ?_) rfl (by kernel_rfl) (by kernel_rfl) (fun _ _ _ h => h) (Or.inl ⟨by rfl, fun w' hb => ?_⟩) ?_
        rotate_left
        · have kf := KF w' hb
          go_simp
          with_reducible rfl
        simp only [Act.put, List.setIfInBounds_toArray, List.set_cons_zero, List.set_cons_succ]
        refine seqK_take 2 [16] (v := ?_) rfl (by kernel_rfl) (by kernel_rfl) (fun _ _ _ h => h) (Or.inl ⟨by rfl, fun w' hb => ?_⟩) ?_
        rotate_left
        · have kf := KF w' hb
          go_simp
          with_reducible rfl
        simp only [Act.put, List.setIfInBounds_toArray, List.set_cons_zero, List.set_cons_succ]
        refine seqK_take 3 [16] (v := ?_) rfl (by kernel_rfl) (by kernel_rfl) (fun _ _ _ h => h) (Or.inl ⟨by rfl, fun w' hb => ?_⟩) ?_
        rotate_left
        · have kf := KF w' hb
          go_simp
          with_reducible rfl
        simp only [Act.put, List.setIfInBounds_toArray, List.set_cons_zero, List.set_cons_succ]
        refine seqK_take 4 [16] (v := ?_) rfl (by kernel_rfl) (by kernel_rfl) (fun _ _ _ h => h) (Or.inl ⟨by rfl, fun w' hb => ?_⟩) ?_
        rotate_left
        · have kf := KF w' hb
          go_simp
          with_reducible rfl
        simp only [Act.put, List.setIfInBounds_toArray, List.set_cons_zero, List.set_cons_succ]
        refine seqK_take 5 [16] (v := ?_) rfl (by kernel_rfl) (by kernel_rfl) (fun _ _ _ h => h) (Or.inl ⟨by rfl, fun w' hb => ?_⟩) ?_
        rotate_left
        · have kf := KF w' hb
          go_simp
          with_reducible rfl
        simp only [Act.put, List.setIfInBounds_toArray, List.set_cons_zero, List.set_cons_succ]
        refine seqK_take 6 [16] (v := ?_) rfl (by kernel_rfl) (by kernel_rfl) (fun _ _ _ h => h) (Or.inl ⟨by rfl, fun w' hb => ?_⟩) ?_
        rotate_left
        · have kf := KF w' hb
          go_simp
          with_reducible rfl
        simp only [Act.put, List.setIfInBounds_toArray, List.set_cons_zero, List.set_cons_succ]
        refine seqK_take 7 [16] (v := ?_) rfl (by kernel_rfl) (by kernel_rfl) (fun _ _ _ h => h) (Or.inl ⟨by rfl, fun w' hb => ?_⟩) ?_
        rotate_left
        · have kf := KF w' hb
          go_simp
          with_reducible rfl
        simp only [Act.put, List.setIfInBounds_toArray, List.set_cons_zero, List.set_cons_succ]
        refine seqK_take 8 [16] (v := ?_) rfl (by kernel_rfl) (by kernel_rfl) (fun _ _ _ h => h) (Or.inl ⟨by rfl, fun w' hb => ?_⟩) ?_
        rotate_left
        · have kf := KF w' hb
          go_simp
          with_reducible rfl
        simp only [Act.put, List.setIfInBounds_toArray, List.set_cons_zero, List.set_cons_succ]
        refine seqK_take 9 [16] (v := ?_) rfl (by kernel_rfl) (by kernel_rfl) (fun _ _ _ h => h) (Or.inl ⟨by rfl, fun w' hb => ?_⟩) ?_
        rotate_left
        · have kf := KF w' hb
          go_simp
          with_reducible rfl
        simp only [Act.put, List.setIfInBounds_toArray, List.set_cons_zero, List.set_cons_succ]
        refine seqK_do 10 rfl (by kernel_rfl) (fun K hK => ?_)
        go_simp
        go_at_call 20
        refine P.out.mono ?_
        rintro e w1 ⟨rfl, hr1, hg1⟩
        have h1 := hdr.rdTo hr1 hg1
        have hf1 := frozen_of_row _ g2 6 _ _ h1.cell
        have d0 : w1.cell? ⟨g2, 0, none⟩ = some (.pointer (some ⟨g, 0, none⟩)) := cell_of_row _ _ 0 _ _ _ h1.cell
        have d6 : w1.cell? ⟨g2, 6, none⟩ = some (.slice sb U.length cs) := cell_of_row _ _ 6 _ _ _ h1.cell
        refine hK.out _ _ _ (fun _ _ h => h) (fun _ => ⟨d0, d6⟩) ?_
        clear hK K
        simp only [List.set_cons_zero, List.set_cons_succ]
        refine seqK_do 11 rfl (by kernel_rfl) (fun K hK => ?_)
        go_simp
        have h2 := h1.below (below_alloc w1 (.cells #[.int .u64 N1] 23))
        have x0 := cell_of_row _ _ 0 _ _ _ h2.cell
        have x6 := cell_of_row _ _ 6 _ _ _ h2.cell
        refine hK.out _ _ _ (fun _ _ h => h) (fun _ => ⟨x0, x6⟩) ?_
        clear hK K
        simp only [List.set_cons_zero, List.set_cons_succ]
        refine seqK_do 12 rfl (by kernel_rfl) (fun K hK => ?_)
        refine step_append_u_at rfl (.tmp 20) (.tmp 26) rfl top (.slice sb U.length cs) U rfl h2.own (some ⟨w1.heap.size, 0, none⟩) [N1] 1 1 rfl rfl (Us_one w1 N1 _ _ rfl) (fun e => by cases e) (by simp; omega) (by have := h2.t2; have := h2.lt.1; omega) ?_
        intro v' w3 ho3 hg3 hs3
        obtain ⟨sb3, cs3, rfl⟩ := ho3.sl
        have hl3 : w3.heap[g2]? = some _ := (hg3.block g2 h2.lt.1 (fun e => h2.ne2 e.symm)).trans h2.cell
        have e0 := cell_of_row _ g2 0 _ _ _ hl3
        have e6 := cell_of_row _ g2 6 _ _ _ hl3
        have ef := frozen_of_row _ g2 6 _ _ hl3
        refine hK.out _ _ _ (fun _ _ h => h) (fun _ => ⟨e0, e6⟩) ?_
        clear hK K
        simp only [List.set_cons_zero, List.set_cons_succ]
        refine seqK_take 13 [14, 15, 16] (v := ?_) rfl (by kernel_rfl) (by kernel_rfl) (fun _ _ _ h => h) (Or.inl ⟨by rfl, fun w' hb => ?_⟩) ?_
        rotate_left
        · have kf := KF w' hb
          go_simp
          with_reducible rfl
        simp only [Act.put, List.setIfInBounds_toArray, List.set_cons_zero, List.set_cons_succ]
        refine seqK_take 14 [15, 16] (v := ?_) rfl (by kernel_rfl) (by kernel_rfl) (fun _ _ _ h => h) (Or.inl ⟨by rfl, fun w' hb => ?_⟩) ?_
        rotate_left
        · have kf := KF w' hb
          go_simp
          with_reducible rfl
        simp only [Act.put, List.setIfInBounds_toArray, List.set_cons_zero, List.set_cons_succ]
        refine seqK_take 15 [16] (v := ?_) rfl (by kernel_rfl) (by kernel_rfl) (fun _ _ _ h => h) (Or.inl ⟨by rfl, fun w' hb => ?_⟩) ?_
        rotate_left
        · have kf := KF w' hb
          go_simp
          with_reducible rfl
        simp only [Act.put, List.setIfInBounds_toArray, List.set_cons_zero, List.set_cons_succ]
        refine seqK_do 16 rfl (by kernel_rfl) (fun K hK => ?_)
        go_simp
        have h4 := h2.setSubs ho3 hg3 hs3
        refine hK.out _ _ _ (fun _ _ h => h) (fun h => by cases h) ?_
        clear hK K
        simp only [List.set_cons_zero, List.set_cons_succ]
        refine seqK_end (by kernel_rfl) (fun hEnd => ?_)
        go_wp2_with fail
        go_roundw
        case rel =>
          refine ⟨k + 1, by omega, by go_num, ?_⟩
          rw [hS.out, HE.out]
          have X := h.subsStep hr1 hg1 ho3 hg3 hs3
          rw [List.length_append] at X
          exact RStep.next HK.out.1 hwsz HK.out.2.1 HK.out.2.2 X
        case measure => simp [intOf]; omega
    · have hkN : k = N := by omega
      subst hkN
      go_wp2_with fail
      go_end0
      refine ⟨rfl, ab, sb, cs, ?_, ?_⟩
      · rw [HS2.out]; exact h
      · rw [HS2.out]; exact HK.out

end Go.Proofs.Ytokijkinlcdjeaa

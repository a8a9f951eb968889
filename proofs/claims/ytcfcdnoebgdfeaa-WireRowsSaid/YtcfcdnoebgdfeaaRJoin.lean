/- Contracts of the reference's Join and Blob. -/
import Derived.Test.YtcfcdnoebgdfeaaKnown
import Derived.StillTailTactics
namespace Go.Proofs.Ytcfcdnoebgdfeaa
open Go.RowKit WireM

theorem take_splice {α : Type} (C M : List α) (at_ n : Nat) (h : at_ + M.length ≤ n) (hn : n ≤ C.length) : (splice C at_ M).take n = splice (C.take n) at_ M := by
  unfold splice
  have h1 : (C.take at_).length = at_ := by simp; omega
  have e1 : ((C.take n).take at_) = C.take at_ := by rw [List.take_take, Nat.min_eq_left (by omega)]
  rw [List.take_append, List.take_append, h1, e1, List.take_of_length_le (by rw [h1]; omega), List.take_of_length_le (l := M) (by omega), List.drop_take]
  congr 3
  omega
theorem bv_splice (xs m : List UInt8) (k : Nat) : bv (splice xs k m) = splice (bv xs) k (bv m) := by
  simp [splice, bv, List.map_take, List.map_drop]
theorem wpList_copy_at {ops : Array Oper} {rest : List Oper} {o : Oper} {act : Act} {w : World} {Q : Exit → Act → World → Prop} (hgd : o.guard = none) (d s : Operand)
    (ho : o.op = .call { callee := .builtin .copy, args := #[d, s], argTypes := #[23, 23] }) (base g n cap k : Nat) (xs : List UInt8) (hown : OwnB w base (.slice (some ⟨g, 0, none⟩) n cap) xs) (hn : n = xs.length)
    (dp : Option Addr) (dCap : Nat) (hdp : k < n → dp = some ⟨g, k, none⟩) (hd : act.eval d = .slice dp (n - k) dCap) (sp : Option Addr) (sCap j : Nat) (m : List UInt8) (hj : j = m.length) (hs : act.eval s = .slice sp j sCap) (hm : Bs w sp m) (hfit : k + m.length ≤ n)
    (hK : ∀ w', OwnB w' base (.slice (some ⟨g, 0, none⟩) n cap) (splice xs k m) → w.grownBy w' (some g) → wpList Try.prog ops Q rest (act.put o.dst (goInt m.length)) w') : wpList Try.prog ops Q (o :: rest) act w := by
  subst hj
  subst hn
  by_cases h0 : m = []
  · subst h0
    refine wpList_copy_nothing hgd d s 23 23 ho 5 Try.underlying23 (by kernel_rfl) dp sp (xs.length - k) dCap 0 sCap hd (by simpa using hs) (Nat.zero_min _) ?_
    exact hK w (by simpa [splice] using hown) (grown_refl _ _)
  · have hpos : 0 < m.length := by
      rcases Nat.eq_zero_or_pos m.length with h | h
      · exact absurd (List.eq_nil_of_length_eq_zero h) h0
      · exact h
    obtain rfl := hdp (by omega)
    obtain ⟨b, o', rfl⟩ := hm.addr h0
    rcases hown.2 with ⟨h', _⟩ | ⟨g', cap', cur, h', hb, hg, hnc, hmx, hs', ht⟩
    · simp at h'
    · simp only [Value.slice.injEq, Option.some.injEq, Addr.mk.injEq, and_true] at h'
      obtain ⟨rfl, _, rfl⟩ := h'
      rw [Nat.mul_one] at hs' ht
      have hlen : cur.toList.length = cap := by simp [hs']
      refine wpList_copy_own hgd d s 23 23 ho 5 Try.underlying23 (by kernel_rfl) g k (xs.length - k) dCap ⟨b, o', none⟩ m.length sCap hd hs cur 5 hg (bv m) (by rw [bv_length]; exact (Nat.min_eq_left (by omega)).symm) (fun j v hj => ?_) (by rw [bv_length]; omega) (bv_one m) ?_
      · have hjl : j < m.length := by
          have := (List.getElem?_eq_some_iff.1 hj).1; rwa [bv_length] at this
        rw [Addr.add_mid, hm.cell b o' rfl j hjl, ← hj, bv_get m j hjl]
      · rw [bv_length]
        refine hK _ ⟨?_, .inr ⟨g, cap, _, by rw [length_splice _ _ _ (by omega)], hb, setRow_heap w g _ _ 5 _ hg, by rw [length_splice _ _ _ (by omega)]; omega, hmx, ?_, ?_⟩⟩ ⟨rfl, rfl, rfl, by simp [World.setRow], fun q _ hne => setRow_other w g q _ (fun e => hne (by rw [e]))⟩
        · rw [bv_length]; simp
        · simp [hs', bv_length]; omega
        · rw [bv_splice, ← ht, length_splice _ _ _ (by omega), Nat.mul_one]
          have := take_splice cur.toList (bv m) k xs.length (by rw [bv_length]; omega) (by omega)
          rw [← this]; simp [splice, bv_length]
theorem replicate_splice (F m : List UInt8) (r : Nat) (h : m.length ≤ r) : splice (F ++ List.replicate r 0) F.length m = F ++ m ++ List.replicate (r - m.length) 0 := by
  unfold splice
  rw [List.take_left, List.drop_append, List.drop_of_length_le (by omega), List.nil_append, List.drop_replicate, List.append_assoc]
  congr 3
  omega
set_option maxHeartbeats 1600000 in
theorem refJoin_any (a : Option Addr) (cap : Nat) (L : List (List UInt8)) (w : World) (h : BBs w a L) (hlen : L.length ≤ 9223372036854775807) (hsum : L.flatten.length ≤ 140737488355328) :
    Calls Try.prog 30 #[.slice a L.length cap] w fun e w' => Below w.heap.size w w' ∧ ∃ g, e = .returned (.slice (some ⟨g, 0, none⟩) L.flatten.length L.flatten.length) ∧ OwnB w' w.heap.size (.slice (some ⟨g, 0, none⟩) L.flatten.length L.flatten.length) L.flatten := by
  go_enter Try.func30, Try.ntmps30
  go_wp2
  go_loop [3, 4] (fun x i => ∃ k X : Nat, k ≤ L.length ∧ i = .int .i64 k ∧ x = .int .i64 (X : Int) ∧ Hid (X = (L.take k).flatten.length)) (fun _ i => L.length - (intOf i).toNat)
  case atStart => exact ⟨0, 0, by omega, rfl, rfl, by simp [Hid]⟩
  case round =>
    obtain ⟨k, X, hk, rfl, rfl, HX⟩ := hrel
    by_cases hlt : k < L.length
    · obtain ⟨b, o, rfl⟩ := h.ex hlt
      obtain ⟨ai, ci, hc, hp, hpl, hpn⟩ := h.cell b o rfl k hlt
      have hts := flatten_take_snoc L k hlt
      have hfl : ((L.take k).flatten ++ L[k]).length ≤ L.flatten.length := by
        rw [← hts]
        conv => rhs; rw [← List.take_append_drop (k + 1) L]
        rw [List.flatten_append, List.length_append]; omega
      obtain ⟨l, hll⟩ : ∃ l, L[k] = l := ⟨_, rfl⟩
      rw [hll] at hc hp hpl hfl hts
      rw [List.length_append, ← HX.out] at hfl
      have hts2 : (L.take (k + 1)).flatten.length = X + l.length := by rw [hts, List.length_append, ← HX.out]
      have HT := Lib.hid hts2
      clear hll hts hts2
      go_wp2_with fail
      go_round
      case rel => exact ⟨k + 1, X + l.length, by omega, by go_num, by simp, HT.out.symm⟩
      case measure => simp [intOf]; omega
    · obtain rfl : L.length = k := by omega
      rw [List.take_length] at HX
      obtain ⟨T, hT⟩ : ∃ T, L.flatten.length = T := ⟨_, rfl⟩
      have hXT : X = T := HX.out.trans hT
      subst hXT
      have HT := Lib.hid hT
      rw [hT] at hsum
      clear hT HX hlt hk
      go_wp2_with (refine wpList_make_b rfl (.tmp 21) (.tmp 21) rfl w.heap.size X _ rfl rfl rfl (by omega) (Nat.le_refl _) ?_; intro w1 hown1 hg1)
      have hb1 : Below w.heap.size w w1 := below_grown hg1
      clear hg1
      go_wp2_with fail
      go_loopw [6, 7] (fun x i wr => ∃ k : Nat, ∃ F : List UInt8, k ≤ L.length ∧ i = .int .i64 k ∧ x = .int .i64 (F.length : Int) ∧ F.length ≤ X ∧ Hid (F = (L.take k).flatten) ∧ OwnB wr w.heap.size (.slice (some ⟨w.heap.size, 0, none⟩) X X) (F ++ List.replicate (X - F.length) 0) ∧ Below w.heap.size w wr) (fun _ i _ => L.length - (intOf i).toNat)
      case atStart => exact ⟨0, [], by omega, rfl, rfl, by simp, by simp [Hid], by simpa using hown1, hb1⟩
      case round =>
        clear hown1 hb1
        obtain ⟨k, F, hk, rfl, rfl, hFX, HF, hown, hbel⟩ := hrel
        by_cases hlt : k < L.length
        · obtain ⟨b, o, rfl⟩ := h.ex hlt
          obtain ⟨ai, ci, hc, hp, hpl, hpn⟩ := (h.belowB rfl hbel).cell b o rfl k hlt
          have hts := flatten_take_snoc L k hlt
          have hfl : ((L.take k).flatten ++ L[k]).length ≤ L.flatten.length := by
            rw [← hts]
            conv => rhs; rw [← List.take_append_drop (k + 1) L]
            rw [List.flatten_append, List.length_append]; omega
          obtain ⟨l, hll⟩ : ∃ l, L[k] = l := ⟨_, rfl⟩
          rw [hll] at hc hp hpl hfl hts
          rw [List.length_append, ← HF.out, HT.out] at hfl
          rw [← HF.out] at hts
          have HTS := Lib.hid hts
          have hlX : l.length ≤ X - F.length := by omega
          have HR := Lib.hid (replicate_splice F l (X - F.length) hlX)
          have hnX : X = (F ++ List.replicate (X - F.length) (0 : UInt8)).length := by simp; omega
          have HNX := Lib.hid hnX
          clear hll hts hnX
          go_wp2_with fail
          go_still_tail 7, (by kernel_rfl)
          change wpList _ _ _ _ _ wr.drew
          have hd0 : Below w.heap.size w wr.drew := hbel.drew
          refine wpList_copy_at rfl (.tmp 31) (.tmp 35) rfl w.heap.size w.heap.size X X F.length _ (hown.below (Below.refl _ _).drew) HNX.out _ _ (fun h => if_neg (by omega)) rfl ai ci l.length l rfl rfl (hp.below (Below.refl _ _).drew) (by omega) ?_
          intro w2 hown2 hg2
          have hb2 : Below w.heap.size w w2 := hd0.grown hg2 hd0.size (fun k hk => by cases hk; exact Nat.le_refl _)
          have hc2 : w2.cell? ⟨b, o + k, none⟩ = some (.slice ai l.length ci) := by
            obtain ⟨ai', ci', hc', _⟩ := (h.belowB rfl hb2).cell b o rfl k hlt
            have hlt2 : b < w.heap.size := by
              obtain ⟨_, _, h3, _⟩ := h.cell b o rfl k hlt
              exact block_lt_of_cell h3
            have e1 := hb2.cell (p := ⟨b, o + k, none⟩) hlt2
            have e2 := hbel.cell (p := ⟨b, o + k, none⟩) hlt2
            rw [e1, ← e2]; exact hc
          rw [HR.out] at hown2
          have HO := Lib.hid hown2
          clear hc hp hown2 hg2 hown hd0 hbel
          go_wp2_with fail
          go_roundw
          case rel => exact ⟨k + 1, F ++ l, by omega, by go_num, by simp, by simp; omega, HTS.out.symm, by
            have := HO.out
            rw [List.length_append, show X - (F.length + l.length) = X - F.length - l.length by omega]; exact this, hb2⟩
          case measure => simp [intOf]; omega
        · have hkl : L.take k = L := List.take_of_length_le (by omega)
          rw [hkl] at HF
          have hFL : F.length = X := by rw [HF.out, HT.out]
          rw [hFL, Nat.sub_self, List.replicate_zero, List.append_nil, HF.out] at hown
          have HO := Lib.hid hown
          clear hkl hFL hown
          go_wp2_with fail
          go_ret
          exact ⟨hbel, w.heap.size, by rw [HT.out]; rfl, by rw [HT.out]; exact HO.out⟩
theorem refBlob_any (a : Option Addr) (cap : Nat) (l : List UInt8) (w : World) (h : Bs w a l) (hna : a = none → cap = 0) (hl : l.length ≤ 65535) :
    Calls Try.prog 18 #[.slice a l.length cap] w fun e w' => Below w.heap.size w w' ∧ ∃ g, e = .returned (.slice (some ⟨g, 0, none⟩) (l.length + 2) (l.length + 2)) ∧ Bs w' (some ⟨g, 0, none⟩) (blobL l) := by
  have hP := refPut_any l.length 2 (by omega) (by omega) w
  have hw : IntKind.u64.wrap (l.length : Int) = l.length := by rw [IntKind.wrap_u64]; omega
  have HP : ∀ e w', (Below w.heap.size w w' ∧ ∃ v, e = Ending.returned v ∧ OwnB w' w.heap.size v (be l.length 2)) → ∃ x cx, e = .returned (.slice x 2 cx) ∧ Below w.heap.size w w' ∧ Bs w' x (be l.length 2) ∧ (x = none → cx = 0) := by
    rintro e w' ⟨hb, v, rfl, ho⟩
    obtain ⟨x, cx, rfl, hB, hc, hx⟩ := ho.form
    refine ⟨x, cx, by rw [be_length], hb, hB, fun e => ?_⟩
    subst e
    obtain ⟨_, _, e⟩ := hB.addr (by rw [be_two]; simp)
    cases e
  go_enter Try.func18, Try.ntmps18
  go_wp2_with fail
  refine hP.mono ?_
  intro e w1 h1
  obtain ⟨x, cx, rfl, hb1, hB1, hx⟩ := HP e w1 h1
  clear hP h1 HP
  have hBB := BBs_two (w := w1) (n := w1.heap.size) (ca := cx) (cb := cap) rfl hB1 (h.below hb1) (by rw [be_length]; omega) (by omega) hx hna
  rw [be_length] at hBB
  have hJ := refJoin_any (some ⟨w1.heap.size, 0, none⟩) 2 [be l.length 2, l] _ hBB (by simp) (by simp [be_length]; omega)
  have hT : [be l.length 2, l].flatten.length = l.length + 2 := by simp [be_length]; omega
  rw [hT] at hJ
  go_wp2_with fail
  refine hJ.mono ?_
  rintro e w2 ⟨hb2, g, rfl, hown⟩
  have hBl : Bs w2 (some ⟨g, 0, none⟩) (blobL l) := by
    have := hown.bs
    simpa [blobL] using this
  clear hJ hBB hB1 hown hT
  go_wp2_with fail
  go_ret
  exact ⟨belT (belT hb1 (below_alloc _ _)) hb2, g, rfl, hBl⟩
end Go.Proofs.Ytcfcdnoebgdfeaa

/- The reference's Tell, Places, Members; Of, Copy, members. -/
import Derived.Test.YtbpajfjeakffkaaQY
import Derived.OwnWalk
namespace Go.Proofs.Ytbpajfjeakffkaa
open Go.RowKit Go.Sort Go.Shelf
attribute [local go_sem] Oper.semAt_some

set_option maxRecDepth 10000 in
set_option maxHeartbeats 3200000 in
theorem rplaces29 (rb : Nat) (s : List Pl) (f : List Bool) (w : World) (h : RM w rb s f) :
    Calls Try.prog 29 #[.pointer (some ⟨rb, 0, none⟩)] w fun e w' => ∃ v, e = .returned v ∧ OwnP w' w.heap.size v ((en s f 5).map (·.2)) ∧ RowKit.Below w.heap.size w w' := by
  go_enter Try.func29, Try.ntmps29
  go_wp2_with fail
  go_loopw [3, 4] (fun v i wr => ∃ (k : Nat) (u : Value), k ≤ 5 ∧ i = .int .i64 k ∧ u = v ∧ OwnP wr w.heap.size u ((en s f k).map (·.2)) ∧ RowKit.Below w.heap.size w wr) (fun _ i _ => 5 - (intOf i).toNat)
  case atStart => exact ⟨0, _, by omega, rfl, rfl, OwnP.nil _ _, RowKit.Below.refl _ _⟩
  case round =>
    obtain ⟨k, v, hk, rfl, rfl, hown, hbr⟩ := hrel
    by_cases hlt : k < 5
    · have hlt' : (k : Int) < 5 := by omega
      have hd : decide ((k : Int) < 5) = true := decide_eq_true hlt'
      have hR := h.below hbr
      have hkf : k < f.length := by rw [h.lf]; exact hlt
      have hks : k < s.length := by rw [h.ls]; exact hlt
      have cf := hR.flag k hkf
      have hgd : f.getD k false = f[k] := by simp [hkf]
      obtain ⟨z, hz⟩ : ∃ z, f[k] = z := ⟨_, rfl⟩
      rw [hz] at cf hgd
      clear hz
      cases z
      · have hpn := Lib.hid (en_no s f k hgd)
        clear hgd
        go_wp2_with fail
        go_roundw
        case rel => exact ⟨k + 1, _, by omega, by go_num, rfl, by rw [hpn.out]; exact hown, hbr⟩
        case measure => simp [intOf]; omega
      · have hpy := Lib.hid (en_yes s f k hgd)
        clear hgd
        obtain ⟨c1, c2⟩ := hR.place k hks
        rw [getD_at s k hks] at hpy
        obtain ⟨x, hx⟩ : ∃ x, s[k] = x := ⟨_, rfl⟩
        rw [hx] at c1 c2 hpy
        clear hx
        have hpl := en_len s f k
        have hbs := hbr.size
        go_wp2_with (at_builtin; refine wpList_append_p rfl _ _ rfl w.heap.size v ((en s f k).map (·.2)) rfl (OwnP.below hown ((RowKit.Below.refl _ _).alloc (Nat.le_refl _) _)) (some ⟨wr.heap.size, 0, none⟩) [x] 1 1 rfl rfl (ps_one wr x) (fun e => by cases e) (by simp; omega) (by simp; omega) ?_; intro v2 w2 hown2 hg2)
        go_roundw
        case rel =>
          refine ⟨k + 1, _, by omega, by go_num, rfl, by rw [hpy.out, List.map_append]; exact hown2, ?_⟩
          exact belowP_grown (hbr.trans ((RowKit.Below.refl _ _).alloc hbr.size _)) (by simp; omega) (OwnP.below hown ((RowKit.Below.refl _ _).alloc (Nat.le_refl _) _)) hg2
        case measure => simp [intOf]; omega
    · obtain rfl : k = 5 := by omega
      go_wp2_with fail
      go_ret
      exact ⟨_, rfl, hown, hbr⟩

theorem OwnI.below {w w' : World} {base : Nat} {v : Value} {l : List Int} (h : OwnI w base v l) (hb : RowKit.Below w.heap.size w w') : OwnI w' base v l := by
  rcases h with ⟨h1, ⟨rfl, h0⟩ | ⟨g, cap, cur, rfl, hbg, hg, hn, hm, hs, ht⟩⟩
  · exact ⟨h1, .inl ⟨rfl, h0⟩⟩
  · exact ⟨h1, .inr ⟨g, cap, cur, rfl, hbg, (hb.block _ (Array.getElem?_eq_some_iff.1 hg).1).trans hg, hn, hm, hs, ht⟩⟩
theorem OwnI.lt {w : World} {base : Nat} {v : Value} {l : List Int} (h : OwnI w base v l) : ∀ k, v.ownBlock = some k → base ≤ k ∧ k < w.heap.size := World.ownsRow.lt h
theorem belowI_grown {B : Nat} {w0 w w' : World} {v : Value} {l : List Int} (hb : RowKit.Below B w0 w) (hB : B ≤ w.heap.size) (h : OwnI w B v l) (hg : w.grownBy w' v.ownBlock) : RowKit.Below B w0 w' :=
  hb.grown hg hB fun k hk => (h.lt k hk).1
theorem is_one (w : World) (x : Int) : Is (w.alloc (.cells #[.int .i64 x] 3)) (some ⟨w.heap.size, 0, none⟩) [x] := by
  have hz : (w.alloc (.cells #[.int .i64 x] 3)).heap[w.heap.size]? = some (.cells #[.int .i64 x] 3 (0, 0)) := heap_alloc_new _ _
  refine ⟨fun _ => ⟨_, _, rfl⟩, fun b o e k hk => ?_⟩
  cases e
  have hk1 : k < 1 := hk
  obtain rfl : k = 0 := by omega
  exact cell_of_row _ _ 0 _ _ _ hz
theorem wpList_append_i {ops : Array Oper} {rest : List Oper} {o : Oper} {a : Act} {w : World} {Q : Exit → Act → World → Prop} (hgd : o.guard = none) (sl x : Operand)
    (ho : o.op = .call { callee := .builtin .append, args := #[sl, x], argTypes := #[22, 22] }) (base : Nat) (v : Value) (l : List Int) (hs : a.eval sl = v) (h : OwnI w base v l)
    (ad : Nat) (m : List Int) (k c : Nat) (hx : a.eval x = .slice (some ⟨ad, 0, none⟩) k c) (hk : k = m.length) (hm : Is w (some ⟨ad, 0, none⟩) m) (hlen : l.length + m.length ≤ 1000000000) (hb : base ≤ w.heap.size)
    (hK : ∀ v' w', OwnI w' base v' (l ++ m) → w.grownBy w' v.ownBlock → wpList Try.prog ops Q rest (a.put o.dst v') w') : wpList Try.prog ops Q (o :: rest) a w := by
  refine wpList_plain hgd fun K hKK => ?_
  subst hk
  obtain ⟨i0, hi, hz0, hz1, hz2⟩ := info_parts info3'
  obtain ⟨v', w', hr, h2, h3, _⟩ := run_append_own (P := Try.prog) w base 22 o.type 3 i0 (.int .i64 0) 1 8 Try.underlying22 hi hz0 hz1 hz2 rfl (by decide) v l.length (ics l) h ⟨ad, 0, none⟩ m.length c (ics m) (by rw [ics_len, Nat.mul_one])
    (fun j u hj => by
      have hjl : j < m.length := by
        have := (List.getElem?_eq_some_iff.1 hj).1; rwa [ics_len] at this
      rw [Addr.add_mid, hm.cell ad 0 rfl j hjl, ← hj]; exact (ics_get m j hjl).symm)
    (fun u hu => by simp [ics] at hu; obtain ⟨y, _, rfl⟩ := hu; rfl) (by unfold maxLen; omega) (by omega) hb
  unfold Oper.wp execOp
  simp only [ho, resolve, invoke, builtin, Sem.run_bind, Sem.run_pure, Result.andThen_ok, List.map_toArray, List.map_cons, List.map_nil, hs, hx, hr]
  refine hKK _ _ (hK v' w' ?_ h3)
  have e : ics (l ++ m) = ics l ++ ics m := by simp [ics]
  unfold OwnI
  rw [e, List.length_append]
  exact h2
set_option maxRecDepth 10000 in
set_option maxHeartbeats 3200000 in
theorem rmembers41 (rb : Nat) (s : List Pl) (f : List Bool) (w : World) (h : RM w rb s f) :
    Calls Try.prog 41 #[.pointer (some ⟨rb, 0, none⟩)] w fun e w' => ∃ v, e = .returned v ∧ OwnI w' w.heap.size v ((en s f 5).map (·.1)) ∧ RowKit.Below w.heap.size w w' := by
  go_enter Try.func41, Try.ntmps41
  go_wp2_with fail
  go_loopw [3, 4] (fun v i wr => ∃ (k : Nat) (u : Value), k ≤ 5 ∧ i = .int .i64 k ∧ u = v ∧ OwnI wr w.heap.size u ((en s f k).map (·.1)) ∧ RowKit.Below w.heap.size w wr) (fun _ i _ => 5 - (intOf i).toNat)
  case atStart => exact ⟨0, _, by omega, rfl, rfl, OwnI.nil _ _, RowKit.Below.refl _ _⟩
  case round =>
    obtain ⟨k, v, hk, rfl, rfl, hown, hbr⟩ := hrel
    by_cases hlt : k < 5
    · have hlt' : (k : Int) < 5 := by omega
      have hd : decide ((k : Int) < 5) = true := decide_eq_true hlt'
      have hR := h.below hbr
      have hkf : k < f.length := by rw [h.lf]; exact hlt
      have cf := hR.flag k hkf
      have hgd : f.getD k false = f[k] := by simp [hkf]
      obtain ⟨z, hz⟩ : ∃ z, f[k] = z := ⟨_, rfl⟩
      rw [hz] at cf hgd
      clear hz
      cases z
      · have hpn := Lib.hid (en_no s f k hgd)
        clear hgd
        go_wp2_with fail
        go_roundw
        case rel => exact ⟨k + 1, _, by omega, by go_num, rfl, by rw [hpn.out]; exact hown, hbr⟩
        case measure => simp [intOf]; omega
      · have hpy := Lib.hid (en_yes s f k hgd)
        clear hgd
        have hpl := en_len s f k
        have hbs := hbr.size
        have hwk : IntKind.i64.wrap ((k : Int) + 1) = (k : Int) + 1 := by unfold IntKind.wrap; simp [IntKind.signed, IntKind.bits]; omega
        go_wp2_with (at_builtin; refine wpList_append_i rfl _ _ rfl w.heap.size v ((en s f k).map (·.1)) rfl (OwnI.below hown ((RowKit.Below.refl _ _).alloc (Nat.le_refl _) _)) wr.heap.size [(k : Int) + 1] 1 1 rfl rfl (is_one wr _) (by simp; omega) (by simp; omega) ?_; intro v2 w2 hown2 hg2)
        go_roundw
        case rel =>
          refine ⟨k + 1, _, by omega, by go_num, rfl, by rw [hpy.out, List.map_append]; exact hown2, ?_⟩
          exact belowI_grown (hbr.trans ((RowKit.Below.refl _ _).alloc hbr.size _)) (by simp; omega) (OwnI.below hown ((RowKit.Below.refl _ _).alloc (Nat.le_refl _) _)) hg2
        case measure => simp [intOf]; omega
    · obtain rfl : k = 5 := by omega
      go_wp2_with fail
      go_ret
      exact ⟨_, rfl, hown, hbr⟩

end Go.Proofs.Ytbpajfjeakffkaa

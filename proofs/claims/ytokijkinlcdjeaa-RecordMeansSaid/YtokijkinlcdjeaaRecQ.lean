/- RecordMeans: its walk. -/
import Derived.Test.YtokijkinlcdjeaaRecO
import Derived.Test.YtokijkinlcdjeaaSeqK
import Derived.Test.YtokijkinlcdjeaaRecP
namespace Go.Proofs.Ytokijkinlcdjeaa
open Go.ChangeShapes Go.WideShapes Go.ChangeAt Go.RowKit WireM

theorem shl_u8 (j : Nat) (h : j < 8) : IntKind.u8.wrap (2 ^ j) = (((1 : UInt8) <<< UInt8.ofNat j).toNat : Int) := by
  have : ∀ j : Fin 8, IntKind.u8.wrap (2 ^ j.1) = (((1 : UInt8) <<< UInt8.ofNat j.1).toNat : Int) := by decide
  exact this ⟨j, h⟩
variable {H : Type} {enc : TypeId × Value → H} {w : World} {base : Nat} {held : Bool}
theorem arr3_open {r : Reach} {b0 : Nat} {v : Value} {d : DataW H} {p : List MemPlace} (hv : Value.okWide Try.prog w r b0 31 v) (h : DataW.Trod enc Try.prog w base (fun _ => true) held 31 v d p) :
    ∃ z0 z1 z2 : Int, v = .agg #[.int .i64 z0, .int .i64 z1, .int .i64 z2] ∧ (-9223372036854775808 ≤ z0 ∧ z0 ≤ 9223372036854775807) ∧ (-9223372036854775808 ≤ z1 ∧ z1 ≤ 9223372036854775807) ∧ (-9223372036854775808 ≤ z2 ∧ z2 ≤ 9223372036854775807) := by
  have hv' : ∃ cs, v = .agg cs ∧ cs.size = Try.prog.cellsOf 31 := by
    unfold Value.okWide at hv
    rw [Try.underlying31] at hv
    cases v <;> simp_all
  obtain ⟨cs, rfl, hsz⟩ := hv'
  obtain ⟨l⟩ := cs
  have hC : Try.prog.cellsOf 31 = 3 := by kernel_rfl
  have C3 : Try.prog.cellsOf 3 = 1 := by kernel_rfl
  match l, hsz.trans hC with
  | [c0, c1, c2], _ =>
    obtain ⟨fuel, hf⟩ := h
    obtain ⟨xs, n, _, hx, _, hlen, hg⟩ := DataW.trod_array Try.underlying31 hf
    match xs, hlen with
    | [y0, y1, y2], _ =>
      have f0 : DataW.trod enc Try.prog w base (fun _ => true) held n 3 (([c0, c1, c2].drop (0 * Try.prog.cellsOf 3)).take (Try.prog.cellsOf 3)) = [y0, y1, y2][0]? := hg 0 (by omega)
      have f1 : DataW.trod enc Try.prog w base (fun _ => true) held n 3 (([c0, c1, c2].drop (1 * Try.prog.cellsOf 3)).take (Try.prog.cellsOf 3)) = [y0, y1, y2][1]? := hg 1 (by omega)
      have f2 : DataW.trod enc Try.prog w base (fun _ => true) held n 3 (([c0, c1, c2].drop (2 * Try.prog.cellsOf 3)).take (Try.prog.cellsOf 3)) = [y0, y1, y2][2]? := hg 2 (by omega)
      rw [C3] at f0 f1 f2
      obtain ⟨z0, e0, h0⟩ := open_i64 Try.underlying3 (v := c0) (x := y0) f0
      obtain ⟨z1, e1, h1⟩ := open_i64 Try.underlying3 (v := c1) (x := y1) f1
      obtain ⟨z2, e2, h2⟩ := open_i64 Try.underlying3 (v := c2) (x := y2) f2
      subst e0 e1 e2
      exact ⟨z0, z1, z2, rfl, h0, h1, h2⟩
def bt (z0 z1 z2 : Int) (k : Nat) : Int := if k = 0 then z0 else if k = 1 then z1 else z2
theorem bits_get (z0 z1 z2 : Int) (k : Nat) (h : k < 3) : (#[.int .i64 z0, .int .i64 z1, .int .i64 z2] : Array Value)[k]? = some (.int .i64 (bt z0 z1 z2 k)) := by
  obtain rfl | rfl | rfl : k = 0 ∨ k = 1 ∨ k = 2 := by omega
  · rfl
  · rfl
  · rfl
def turns (l : List UInt8) (n : Nat) (z0 z1 z2 : Int) : Nat → List UInt8
  | 0 => l
  | k + 1 => turn1 (turns l n z0 z1 z2 k) n (bt z0 z1 z2 k)
theorem turns_len (l : List UInt8) (n : Nat) (z0 z1 z2 : Int) (k : Nat) : (turns l n z0 z1 z2 k).length = l.length := by
  induction k with
  | zero => rfl
  | succ k ih => rw [turns, turn1_len, ih]

set_option maxRecDepth 100000 in
set_option maxHeartbeats 8000000 in
theorem means_out (k : Int) (x : Nat) (p o : Int) (ab sb : Option Addr) (cb cs : Nat) (l : List UInt8) (u : List Nat) (n r t : Nat) (at_ other : Nat) (bh : Option Addr) (cbh : Nat) (H : List UInt8) (z0 z1 z2 : Int) (w : World) (ha : RB w ⟨k, x, p, o, l, u, n, r, t⟩ ab sb cb cs) (hHl : H.length ≤ 9223372036854775807) (hout : MuchB ⟨k, x, p, o, l, u, n, r, t⟩ = true ∨ 9000 < H.length ∨ mayB ⟨k, x, p, o, l, u, n, r, t⟩ = false ∨ 4611686018427387904 < at_) :
    Calls Try.prog 4 #[rv k x p o ab l.length cb sb u.length cs n r t, .int .u64 at_, .int .u64 other, .slice bh H.length cbh, .agg #[.int .i64 z0, .int .i64 z1, .int .i64 z2]] w fun e w' => e = .returned (.bool true) ∧ Below w.heap.size w w' := by
  have hout1 : (decide (70000 < l.length) || decide (9000 < u.length)) = true ∨ 9000 < H.length ∨ mayB ⟨k, x, p, o, l, u, n, r, t⟩ = false ∨ 4611686018427387904 < at_ := hout
  clear hout
  have P5 : Hid (∀ w, RB w ⟨k, x, p, o, l, u, n, r, t⟩ ab sb cb cs → mayB ⟨k, x, p, o, l, u, n, r, t⟩ = false ∨ 4611686018427387904 < at_ → Calls Try.prog 9 #[rv k x p o ab l.length cb sb u.length cs n r t, .int .u64 at_] w fun e w' => e = .returned (.tuple #[.slice none 0 0, .int .i64 2]) ∧ Below w.heap.size w w') := fun w h ho => by
    by_cases hm : mayB ⟨k, x, p, o, l, u, n, r, t⟩ = true
    · rcases ho with h1 | h1
      · rw [hm] at h1; cases h1
      · exact BytesNo2 k x p o ab sb cb cs l u n r t at_ h1 w h hm
    · exact BytesNo1 k x p o ab sb cb cs l u n r t at_ w h (by simpa using hm)
  obtain ⟨m1, hm1⟩ : ∃ m, (decide (70000 < l.length) || decide (9000 < u.length)) = m := ⟨_, rfl⟩
  rw [hm1] at hout1
  have HO := Lib.hid hout1
  clear hout1
  have M1 := Lib.hid (fun w => MuchF k x p o ab sb cb cs l u n r t w)
  rw [hm1] at M1
  clear hm1
  obtain ⟨W, hW⟩ : ∃ W, W = (w.alloc (.cells #[.int .i64 k, .int .u64 x, .int .i64 p, .int .i64 o, .slice ab l.length cb, .slice sb u.length cs, .int .u64 n, .int .u64 r, .int .u64 t] 27)).alloc (.cells #[.int .i64 z0, .int .i64 z1, .int .i64 z2] 31) := ⟨_, rfl⟩
  have hB0 : Below w.heap.size w W := by rw [hW]; exact below2 w _ _
  have hG1 : W.heap[w.heap.size]? = some (.cells #[.int .i64 k, .int .u64 x, .int .i64 p, .int .i64 o, .slice ab l.length cb, .slice sb u.length cs, .int .u64 n, .int .u64 r, .int .u64 t] 27 (0, 0)) := by rw [hW]; exact heap_alloc2_old _ _ _
  have hG2 : W.heap[w.heap.size + 1]? = some (.cells #[.int .i64 z0, .int .i64 z1, .int .i64 z2] 31 (0, 0)) := by rw [hW]; exact heap_alloc2_new _ _ _
  have hsz : w.heap.size + 1 < W.heap.size := by rw [hW]; simp
  have HW := Lib.hid hW
  have HK := Lib.hid (fun w' (h : Below W.heap.size W w') => loads9 k x p o ab sb cb cs l u n r t w.heap.size w' ((h.block _ (by omega)).trans hG1))
  have HBT := Lib.hid (fun w' (h : Below W.heap.size W w') => (h.block _ hsz).trans hG2)
  clear hG1 hG2 hW
  go_enter Try.func4, Try.ntmps4
  go_wp2_with fail
  rw [← HW.out]
  refine (knownF _).mono ?_
  rintro e wa ⟨rfl, hba⟩
  obtain ⟨F0, F1, F2, F3, F4, F5, F6, F7, F8, F9⟩ := HK.out wa hba
  go_wp2_with fail
  refine (M1.out _).mono ?_
  rintro e wb ⟨rfl, hbb'⟩
  have hbb := belT hba hbb'
  clear F0 F1 F2 F3 F4 F5 F6 F7 F8 F9 hbb'
  cases m1
  · by_cases hH : 9000 < H.length
    · have hd : decide ((9000 : Int) < (H.length : Int)) = true := by simp; omega
      go_wp2_with fail
      go_ret
      exact ⟨rfl, belT hB0 hbb⟩
    · have hd : decide ((9000 : Int) < (H.length : Int)) = false := by simp; omega
      obtain ⟨F0, F1, F2, F3, F4, F5, F6, F7, F8, F9⟩ := HK.out wb hbb
      have hra := ha.below (belT hB0 hbb)
      go_wp2_with (first | (go_at_call 9; refine (P5.out _ hra (by rcases HO.out with h | h | h | h <;> first | (cases h; done) | exact absurd h hH | exact .inl h | exact .inr h)).mono ?_; rintro e wc ⟨rfl, hbc⟩) | (go_at_call 10; refine (numF _ _).mono ?_; rintro e wd ⟨rfl, rfl⟩))
      go_ret
      exact ⟨rfl, belT hB0 (belT hbb hbc)⟩
  · go_wp2_with fail
    go_ret
    exact ⟨rfl, belT hB0 hbb⟩

set_option maxRecDepth 100000 in
set_option maxHeartbeats 8000000 in
theorem means_in (k : Int) (x : Nat) (p o : Int) (ab sb : Option Addr) (cb cs : Nat) (l : List UInt8) (u : List Nat) (n r t : Nat) (at_ other : Nat) (hat : at_ < 18446744073709551616) (hot : other < 18446744073709551616) (bh : Option Addr) (cbh : Nat) (H : List UInt8) (z0 z1 z2 : Int) (w : World) (ha : RB w ⟨k, x, p, o, l, u, n, r, t⟩ ab sb cb cs) (hbh : Bs w bh H) (hHl : H.length ≤ 9223372036854775807) (hHn : bh = none → cbh = 0) (hmu : MuchB ⟨k, x, p, o, l, u, n, r, t⟩ = false) (hH9 : H.length ≤ 9000) (hmay : mayB ⟨k, x, p, o, l, u, n, r, t⟩ = true) (hatm : at_ ≤ 4611686018427387904) :
    Calls Try.prog 4 #[rv k x p o ab l.length cb sb u.length cs n r t, .int .u64 at_, .int .u64 other, .slice bh H.length cbh, .agg #[.int .i64 z0, .int .i64 z1, .int .i64 z2]] w fun e w' => e = .returned (.bool true) ∧ Below w.heap.size w w' := by
  have hmu : (decide (70000 < l.length) || decide (9000 < u.length)) = false := hmu
  have hdH : decide ((9000 : Int) < (H.length : Int)) = false := by simp; omega
  have P5 := Lib.hid (fun w h => BytesYes k x p o ab sb cb cs l u n r t at_ hatm w h hmay)
  have P9 := Lib.hid (fun w h => SizeYes k x p o ab sb cb cs l u n r t w h hmay)
  have hl0 : (encR ⟨k, x, p, o, l, u, n, r, t⟩ 0).length = (encR ⟨k, x, p, o, l, u, n, r, t⟩ at_).length := by rw [encR_len, encR_len]
  rw [hl0] at P9
  have hbl := bodyL_len ⟨k, x, p, o, l, u, n, r, t⟩ hmay
  have hel := encR_len ⟨k, x, p, o, l, u, n, r, t⟩ at_
  have E1 := ofL_enc ⟨k, x, p, o, l, u, n, r, t⟩ at_ H hmay
  have E2 := ofL_cut ⟨k, x, p, o, l, u, n, r, t⟩ at_ hmay
  have E3 : other ≠ at_ → ofL (encR ⟨k, x, p, o, l, u, n, r, t⟩ at_) other = none := fun h => ofL_other ⟨k, x, p, o, l, u, n, r, t⟩ at_ other hmay (by show at_ < 18446744073709551616; exact hat) (by show other < 18446744073709551616; exact hot) h
  have E4 := ofL_turned ⟨k, x, p, o, l, u, n, r, t⟩ at_ hmay z0 z1 z2
  have E5 := ofL_enc ⟨k, x, p, o, l, u, n, r, t⟩ at_ [] hmay
  rw [List.append_nil] at E5
  obtain ⟨B, hB⟩ : ∃ B, encR ⟨k, x, p, o, l, u, n, r, t⟩ at_ = B := ⟨_, rfl⟩
  rw [hB] at P5 P9 hel E1 E2 E3 E4 E5
  obtain ⟨N, hN⟩ : ∃ N, B.length = N := ⟨_, rfl⟩
  rw [hN] at P9 hel E1 E2 E4 E5
  have hN1 : 17 ≤ N ∧ N ≤ 8400 := by omega
  clear hB hbl hel hl0
  have hlT : (B.take (N - 1)).length = N - 1 := by simp; omega
  have hlA : (B ++ H).length = N + H.length := by simp [hN]
  have P6 := Lib.hid (fun a c w h hc => OfSome a c (B ++ H) at_ hatm w h hc (by omega) _ _ E1)
  have P7 := Lib.hid (fun a c w h hc => OfNone a c (B.take (N - 1)) at_ w h hc (by omega) (fun _ => E2))
  rw [hlA] at P6
  rw [hlT] at P7
  clear E1 E2 hlT hlA
  have M1 := Lib.hid (fun w => MuchF k x p o ab sb cb cs l u n r t w)
  rw [hmu] at M1
  clear hmu
  obtain ⟨W, hW⟩ : ∃ W, W = (w.alloc (.cells #[.int .i64 k, .int .u64 x, .int .i64 p, .int .i64 o, .slice ab l.length cb, .slice sb u.length cs, .int .u64 n, .int .u64 r, .int .u64 t] 27)).alloc (.cells #[.int .i64 z0, .int .i64 z1, .int .i64 z2] 31) := ⟨_, rfl⟩
  have hB0 : Below w.heap.size w W := by rw [hW]; exact below2 w _ _
  have hG1 : W.heap[w.heap.size]? = some (.cells #[.int .i64 k, .int .u64 x, .int .i64 p, .int .i64 o, .slice ab l.length cb, .slice sb u.length cs, .int .u64 n, .int .u64 r, .int .u64 t] 27 (0, 0)) := by rw [hW]; exact heap_alloc2_old _ _ _
  have hG2 : W.heap[w.heap.size + 1]? = some (.cells #[.int .i64 z0, .int .i64 z1, .int .i64 z2] 31 (0, 0)) := by rw [hW]; exact heap_alloc2_new _ _ _
  have hsz : w.heap.size + 1 < W.heap.size := by rw [hW]; simp
  have HW := Lib.hid hW
  have HK := Lib.hid (fun w' (h : Below W.heap.size W w') => loads9 k x p o ab sb cb cs l u n r t w.heap.size w' ((h.block _ (by omega)).trans hG1))
  have HBT := Lib.hid (fun w' (h : Below W.heap.size W w') => (h.block _ hsz).trans hG2)
  clear hG1 hG2 hW
  go_enter Try.func4, Try.ntmps4
  go_wp2_with fail
  rw [← HW.out]
  refine (knownF _).mono ?_
  rintro e wa ⟨rfl, hba⟩
  obtain ⟨F0, F1, F2, F3, F4, F5, F6, F7, F8, F9⟩ := HK.out wa hba
  go_wp2_with fail
  refine (M1.out _).mono ?_
  rintro e wb ⟨rfl, hbb'⟩
  have hbb := belT hba hbb'
  clear F0 F1 F2 F3 F4 F5 F6 F7 F8 F9 hbb'
  obtain ⟨F0, F1, F2, F3, F4, F5, F6, F7, F8, F9⟩ := HK.out wb hbb
  have hra := ha.below (belT hB0 hbb)
  go_wp2_with (first | (refine wpList_append_b rfl _ _ rfl wc.heap.size v1 ([] ++ B) rfl ho1 bh H H.length cbh rfl rfl (hHw.below (below_grown hg1)) hHn (by simp; omega) hg1.size ?_; intro v2 w2 ho2 hg2; obtain ⟨a2, c2, hv2, hB2, hc2, _⟩ := ho2.form; have hl2 : (([] ++ B) ++ H).length = N + H.length := (by simp [hN]); rw [hl2] at hv2 hc2; rw [List.nil_append] at hB2; subst hv2) | (refine wpList_append_b rfl _ _ rfl wc.heap.size (.slice none 0 0) [] rfl (OwnB.nil _ _) (some ⟨gB, oB, none⟩) B N cB rfl hN.symm hBs (fun e => by cases e) (by simp; omega) (Nat.le_refl _) ?_; intro v1 w1 ho1 hg1) | (go_at_call 9; refine (P5.out _ hra).mono ?_; rintro e wc ⟨v, rfl, hov, hbc⟩; obtain ⟨aB, cB, hve, hBs, hBc, hBx⟩ := hov.form; rw [hN] at hve hBc; subst hve; obtain ⟨gB, oB, rfl⟩ := hBs.ex (k := 0) (by omega); have hbc' := belT hbb hbc; have hHw := hbh.below (belT hB0 hbc'); clear F0 F1 F2 F3 F4 F5 F6 F7 F8 F9) | (go_at_call 10; refine (numF _ _).mono ?_; rintro e wd ⟨rfl, rfl⟩))
  have hb2 := below_grown_own (below_grown hg1) hg1.size ho1 hg2
  clear ho1 hg1 hg2 ho2
  refine (P6.out _ _ _ hB2 hc2).mono ?_
  rintro e w3 ⟨⟨ab3, sb3, cs3, rfl, hR3⟩, hb3⟩
  have hc3 := belT hb2 hb3
  clear hB2 hc2 hb2 hb3 P6
  go_wp2_with fail
  have hs3 : (w3.alloc (.cells #[.int .i64 k, .int .u64 x, .int .i64 p, .int .i64 o, .slice ab3 l.length l.length, .slice sb3 u.length cs3, .int .u64 n, .int .u64 r, .int .u64 t] 27)).heap.size = w3.heap.size + 1 := by simp
  have HK3 := Lib.hid (fun w' (h : Below (w3.alloc (.cells #[.int .i64 k, .int .u64 x, .int .i64 p, .int .i64 o, .slice ab3 l.length l.length, .slice sb3 u.length cs3, .int .u64 n, .int .u64 r, .int .u64 t] 27)).heap.size (w3.alloc (.cells #[.int .i64 k, .int .u64 x, .int .i64 p, .int .i64 o, .slice ab3 l.length l.length, .slice sb3 u.length cs3, .int .u64 n, .int .u64 r, .int .u64 t] 27)) w') => loads9 k x p o ab3 sb3 l.length cs3 l u n r t w3.heap.size w' ((h.block _ (by rw [hs3]; omega)).trans (heap_alloc_new _ _)))
  have hA3 := belT hc3 (below_alloc w3 (.cells #[.int .i64 k, .int .u64 x, .int .i64 p, .int .i64 o, .slice ab3 l.length l.length, .slice sb3 u.length cs3, .int .u64 n, .int .u64 r, .int .u64 t] 27))
  have hBs3 := hBs.below hA3
  have hR3a := hR3.below (below_alloc w3 (.cells #[.int .i64 k, .int .u64 x, .int .i64 p, .int .i64 o, .slice ab3 l.length l.length, .slice sb3 u.length cs3, .int .u64 n, .int .u64 r, .int .u64 t] 27))
  clear hc3 hR3
  obtain ⟨w3a, hw3a⟩ : ∃ w3a, w3.alloc (.cells #[.int .i64 k, .int .u64 x, .int .i64 p, .int .i64 o, .slice ab3 l.length l.length, .slice sb3 u.length cs3, .int .u64 n, .int .u64 r, .int .u64 t] 27) = w3a := ⟨_, rfl⟩
  rw [hw3a] at HK3 hA3 hBs3 hR3a ⊢
  clear hw3a hs3
  refine (P7.out _ _ _ (hBs3.takeL (N - 1)) (by omega)).mono ?_
  rintro e w4 ⟨⟨x4, rfl, hx4⟩, hb4⟩
  rw [if_pos hatm] at hx4
  subst hx4
  clear P7
  have P8 : Hid (∀ (a : Option Addr) (c : Nat) (w : World), Bs w a B → N ≤ c → Calls Try.prog 11 #[.slice a N c, .int .u64 other] w fun e w' => (∃ (kk : Int) (xx : Nat) (pp oo : Int) (a' : Option Addr) (l1 l2 : Nat) (s' : Option Addr) (u1 u2 : Nat) (nn rr tt : Nat) (sz er : Int), e = .returned (.tuple #[rv kk xx pp oo a' l1 l2 s' u1 u2 nn rr tt, .int .i64 sz, .int .i64 er]) ∧ (other ≠ at_ → (er == 0) = false)) ∧ Below w.heap.size w w') := fun a c w h hc => by
    subst hN
    by_cases ho : other = at_
    · subst ho
      refine (OfSome a c B other hatm w h hc (by omega) _ _ E5).mono ?_
      rintro e w' ⟨⟨ab', sb', cs', rfl, _⟩, hb⟩
      exact ⟨⟨_, _, _, _, _, _, _, _, _, _, _, _, _, _, _, rfl, fun h => absurd rfl h⟩, hb⟩
    · refine (OfNone a c B other w h hc (by omega) (fun _ => E3 ho)).mono ?_
      rintro e w' ⟨⟨x, rfl, hx⟩, hb⟩
      refine ⟨⟨0, 0, 0, 0, none, 0, 0, none, 0, 0, 0, 0, 0, _, _, rfl, fun _ => ?_⟩, hb⟩
      rw [hx]
      split <;> rfl
  have hA4 := belT hb4 (below_alloc w4 (.cells #[.int .i64 0, .int .u64 0, .int .i64 0, .int .i64 0, .slice none 0 0, .slice none 0 0, .int .u64 0, .int .u64 0, .int .u64 0] 27))
  have hBs4 := hBs3.below hA4
  clear hb4 E3
  go_wp2_with fail
  refine (P8.out _ _ _ hBs4 hBc).mono ?_
  rintro e w5 ⟨⟨kk, xx, pp, oo, a', l1, l2, s', u1, u2, nn, rr, tt, sz, er, rfl, her⟩, hb5⟩
  have hA5 := belT hA4 hb5
  clear hA4 hb5 P8 hBs4
  have hW3 := belT hbc' hA3
  have hA6 := belT hA5 (below_alloc w5 (.cells #[.int .i64 kk, .int .u64 xx, .int .i64 pp, .int .i64 oo, .slice a' l1 l2, .slice s' u1 u2, .int .u64 nn, .int .u64 rr, .int .u64 tt] 27))
  obtain ⟨F0, F1, F2, F3, F4, F5, F6, F7, F8, F9⟩ := HK.out _ (belT hW3 hA6)
  obtain ⟨T0, T1, T2, T3, T4, T5, T6, T7, T8, T9⟩ := HK3.out _ hA6
  clear hA5 hA3 hbc'
  have hBs3' := hBs3
  by_cases ho : other = at_
  · have hz : ((other : Int) != (at_ : Int)) = false := by simp [ho]
    clear her
    have HO := Lib.hid ho
    clear ho
    go_wp2_with (first | (go_at_call 10; refine (numF _ _).mono ?_; rintro e wd ⟨rfl, rfl⟩) | (go_at_call 12; refine (P9.out _ (ha.below (belT hB0 (belT hW3 hA6)))).mono ?_; rintro e w7 ⟨rfl, hb7⟩; have hA7 := belT hA6 hb7; clear F0 F1 F2 F3 F4 F5 F6 F7 F8 F9 T0 T1 T2 T3 T4 T5 T6 T7 T8 T9; obtain ⟨F0, F1, F2, F3, F4, F5, F6, F7, F8, F9⟩ := HK.out _ (belT hW3 hA7); obtain ⟨T0, T1, T2, T3, T4, T5, T6, T7, T8, T9⟩ := HK3.out _ hA7) | (go_at_call 8; refine (RSameF k x p o ab3 sb3 l.length cs3 l u n r t k x p o ab sb cb cs l u n r t _ (hR3a.below hA7) (ha.below (belT hB0 (belT hW3 hA7)))).mono ?_; rw [decide_eq_true rfl]; rintro e w8 ⟨rfl, hb8⟩; have hA8 := belT hA7 hb8; clear F0 F1 F2 F3 F4 F5 F6 F7 F8 F9 T0 T1 T2 T3 T4 T5 T6 T7 T8 T9; obtain ⟨F0, F1, F2, F3, F4, F5, F6, F7, F8, F9⟩ := HK.out _ (belT hW3 hA8); obtain ⟨T0, T1, T2, T3, T4, T5, T6, T7, T8, T9⟩ := HK3.out _ hA8) | (go_at_call 7; refine (SameF k x p o ab3 sb3 l.length cs3 l u n r t k x p o ab sb cb cs l u n r t _ (hR3a.below hA8) (ha.below (belT hB0 (belT hW3 hA8)))).mono ?_; rw [decide_eq_true rfl]; rintro e w9 ⟨rfl, hb9⟩; have hA9 := belT hA8 hb9; clear F0 F1 F2 F3 F4 F5 F6 F7 F8 F9 T0 T1 T2 T3 T4 T5 T6 T7 T8 T9) | (refine wpList_append_b rfl _ _ rfl w9.heap.size (.slice none 0 0) [] rfl (OwnB.nil _ _) (some ⟨gB, oB, none⟩) B N cB rfl hN.symm (hBs3.below hA9) (fun e => by cases e) (by simp; omega) (Nat.le_refl _) ?_; intro v1 w1 ho1 hg1))
    rw [List.nil_append] at ho1
    have hb1 := below_grown hg1
    clear hg1
    obtain ⟨a1, c1, hv1, hB1, hc1, hx1⟩ := ho1.form
    obtain ⟨g1, o1, rfl⟩ := hB1.ex (k := 0) (by omega)
    obtain ⟨g, he, hge, hgl⟩ := hx1 _ rfl
    cases he
    rw [hN] at hv1 hc1
    subst hv1
    have hA9W := belT hW3 hA9
    clear hx1 hB1 hA6 hA7 hA8 hb7 hb8 hb9 hz
    go_loopw [23] (fun i wr => ∃ j : Nat, j ≤ 3 ∧ i = .int .i64 j ∧ OwnB wr w9.heap.size (.slice (some ⟨g1, 0, none⟩) N c1) (turns B N z0 z1 z2 j) ∧ Below w9.heap.size w9 wr) (fun i _ => 3 - (intOf i).toNat)
    case atStart => exact ⟨0, by omega, rfl, ho1, hb1⟩
    case round =>
      clear ho1 hb1
      obtain ⟨j, hj, rfl, hown, hbel⟩ := hrel
      by_cases hlt : j < 3
      · have hcb : wr.cell? ⟨w.heap.size + 1, j, none⟩ = some (.int .i64 (bt z0 z1 z2 j)) := by
          rw [cell_of_row _ _ _ _ _ _ (HBT.out wr (belT hA9W hbel))]; exact bits_get z0 z1 z2 j hlt
        have htn : Hid (turns B N z0 z1 z2 (j + 1) = turn1 (turns B N z0 z1 z2 j) N (bt z0 z1 z2 j)) := rfl
        have hTl : (turns B N z0 z1 z2 j).length = N := by rw [turns_len, hN]
        obtain ⟨Tj, hTj⟩ : ∃ Tj, turns B N z0 z1 z2 j = Tj := ⟨_, rfl⟩
        obtain ⟨z, hzz⟩ : ∃ z, bt z0 z1 z2 j = z := ⟨_, rfl⟩
        rw [hTj] at hown htn hTl
        rw [hzz] at hcb htn
        clear hTj hzz
        by_cases h32 : 32 ≤ z
        · by_cases h8 : z < 8 * (N : Int)
          · obtain ⟨q, rfl⟩ : ∃ q : Nat, z = (q : Int) := ⟨z.toNat, by omega⟩
            have hq8 : q / 8 < Tj.length := by omega
            have hownd := hown.below (Below.refl wr.heap.size wr).drew
            obtain ⟨hc, hf⟩ := hownd.cell hTl.symm (q / 8) hq8
            have hst := hownd.set hTl.symm (q / 8) hq8 (Tj[q / 8] ^^^ (1 <<< UInt8.ofNat (q % 8)))
            have hfl : CrcM.flipL Tj q = Tj.set (q / 8) (Tj[q / 8] ^^^ (1 <<< UInt8.ofNat (q % 8))) := by
              unfold CrcM.flipL
              rw [List.getD_eq_getElem?_getD, List.getElem?_eq_getElem hq8]; rfl
            rw [← hfl] at hst
            have HFL := Lib.hid hfl
            clear hfl
            obtain ⟨c, hcc⟩ : ∃ c, Tj[q / 8] = c := ⟨_, rfl⟩
            rw [hcc] at hc hst
            clear hcc
            have HST := Lib.hid hst
            clear hst
            have hsh : (2 : Int) ^ (q % 8) % 256 = (((1 : UInt8) <<< UInt8.ofNat (q % 8)).toNat : Int) := by
              have := shl_u8 (q % 8) (by omega)
              rw [IntKind.wrap_u8] at this; exact this
            have hX : bits .xor .u8 (c.toNat : Int) ((2 : Int) ^ (q % 8) % 256) = ((c ^^^ 1 <<< UInt8.ofNat (q % 8)).toNat : Int) := by
              rw [hsh]; exact xor_u8 c (1 <<< UInt8.ofNat (q % 8))
            have HX := Lib.hid hX
            clear hX hsh
            have hcb2 : 0 ≤ (c.toNat : Int) ∧ (c.toNat : Int) ≤ 255 := by have := c.toNat_lt; omega
            have hqI : (0 : Int) ≤ (q : Int) ∧ (q : Int) < 8 * (N : Int) := by omega
            have hq8N : q / 8 < N := by omega
            have hcb3 : wr.drew.cell? ⟨w.heap.size + 1, j, none⟩ = some (.int .i64 (q : Int)) := hcb
            go_wp2_with fail
            have KF : ∀ w' : World, (false = false → w'.cell? ⟨w.heap.size + 1, j, none⟩ = some (.int .i64 (q : Int)) ∧ w'.cell? ⟨g1, q / 8, none⟩ = some (.int .u8 (c.toNat : Int))) → w'.cell? ⟨w.heap.size + 1, j, none⟩ = some (.int .i64 (q : Int)) ∧ w'.cell? ⟨g1, q / 8, none⟩ = some (.int .u8 (c.toNat : Int)) := fun _ h => h rfl
            have hw1 : IntKind.i64.wrap ((q : Int) / 8) = ((q / 8 : Nat) : Int) := by rw [IntKind.wrap_i64]; omega
            have hw0 : (q : Int).tdiv 8 = (q : Int) / 8 := Int.tdiv_eq_ediv_of_nonneg (by omega)
            have hw2 : (q : Int).tmod 8 = ((q % 8 : Nat) : Int) := by rw [Int.tmod_eq_emod_of_nonneg (by omega)]; omega
            have hw3 : IntKind.i64.wrap ((q % 8 : Nat) : Int) = ((q % 8 : Nat) : Int) := by rw [IntKind.wrap_i64]; omega
            have hw4 : IntKind.u64.wrap ((q % 8 : Nat) : Int) = ((q % 8 : Nat) : Int) := by rw [IntKind.wrap_u64]; omega
            have hy0 : (0 : Int) ≤ (q : Int) / 8 := by omega
            have hy1 : (q : Int) / 8 < (N : Int) := by omega
            have hy2 : ((q : Int) / 8).toNat = q / 8 := by omega
            have hy3 : (0 : Int) ≤ (q : Int) % 8 := by omega
            have hy4 : ((q : Int) % 8).toNat = q % 8 := by omega
            have hy5 : (q : Int) % 8 < 8 := by omega
            have hy6 : IntKind.i64.wrap ((q : Int) % 8) = (q : Int) % 8 := by rw [IntKind.wrap_i64]; omega
            have hy7 : IntKind.u64.wrap ((q : Int) % 8) = (q : Int) % 8 := by rw [IntKind.wrap_u64]; omega
            refine seqK_start 20 (fun (b : Bool) (w' : World) => b = false → w'.cell? ⟨w.heap.size + 1, j, none⟩ = some (.int .i64 (q : Int)) ∧ w'.cell? ⟨g1, q / 8, none⟩ = some (.int .u8 (c.toNat : Int))) 21 [false, false, false, false, false, false, false, false, false, false, false, false, false, false, false, false, false, false, false, false, false] (by kernel_rfl) rfl rfl rfl (fun _ => ⟨hcb3, hc⟩) ?_
            refine seqK_take 0 [20] (v := ?_) rfl (by kernel_rfl) (by kernel_rfl) (fun _ _ _ h => h) (Or.inl ⟨by rfl, fun w' hb => ?_⟩) ?_
            rotate_left
            · have kf := KF w' hb
              go_simp
              with_reducible rfl
            simp only [Act.put, List.setIfInBounds_toArray, List.set_cons_zero, List.set_cons_succ]
            refine seqK_take 1 [20] (v := ?_) rfl (by kernel_rfl) (by kernel_rfl) (fun _ _ _ h => h) (Or.inl ⟨by rfl, fun w' hb => ?_⟩) ?_
            rotate_left
            · have kf := KF w' hb
              go_simp
              with_reducible rfl
            simp only [Act.put, List.setIfInBounds_toArray, List.set_cons_zero, List.set_cons_succ]
            refine seqK_take 2 [20] (v := ?_) rfl (by kernel_rfl) (by kernel_rfl) (fun _ _ _ h => h) (Or.inl ⟨by rfl, fun w' hb => ?_⟩) ?_
            rotate_left
            · have kf := KF w' hb
              go_simp
              with_reducible rfl
            simp only [Act.put, List.setIfInBounds_toArray, List.set_cons_zero, List.set_cons_succ]
            refine seqK_take 3 [20] (v := ?_) rfl (by kernel_rfl) (by kernel_rfl) (fun _ _ _ h => h) (Or.inl ⟨by rfl, fun w' hb => ?_⟩) ?_
            rotate_left
            · have kf := KF w' hb
              go_simp
              with_reducible rfl
            simp only [Act.put, List.setIfInBounds_toArray, List.set_cons_zero, List.set_cons_succ]
            refine seqK_take 4 [20] (v := ?_) rfl (by kernel_rfl) (by kernel_rfl) (fun _ _ _ h => h) (Or.inl ⟨by rfl, fun w' hb => ?_⟩) ?_
            rotate_left
            · have kf := KF w' hb
              go_simp
              with_reducible rfl
            simp only [Act.put, List.setIfInBounds_toArray, List.set_cons_zero, List.set_cons_succ]
            refine seqK_take 5 [20] (v := ?_) rfl (by kernel_rfl) (by kernel_rfl) (fun _ _ _ h => h) (Or.inl ⟨by rfl, fun w' hb => ?_⟩) ?_
            rotate_left
            · have kf := KF w' hb
              go_simp
              with_reducible rfl
            simp only [Act.put, List.setIfInBounds_toArray, List.set_cons_zero, List.set_cons_succ]
            refine seqK_take 6 [20] (v := ?_) rfl (by kernel_rfl) (by kernel_rfl) (fun _ _ _ h => h) (Or.inl ⟨by rfl, fun w' hb => ?_⟩) ?_
            rotate_left
            · have kf := KF w' hb
              go_simp
              with_reducible rfl
            simp only [Act.put, List.setIfInBounds_toArray, List.set_cons_zero, List.set_cons_succ]
            refine seqK_take 7 [20] (v := ?_) rfl (by kernel_rfl) (by kernel_rfl) (fun _ _ _ h => h) (Or.inl ⟨by rfl, fun w' hb => ?_⟩) ?_
            rotate_left
            · have kf := KF w' hb
              go_simp
              with_reducible rfl
            simp only [Act.put, List.setIfInBounds_toArray, List.set_cons_zero, List.set_cons_succ]
            refine seqK_take 8 [20] (v := ?_) rfl (by kernel_rfl) (by kernel_rfl) (fun _ _ _ h => h) (Or.inl ⟨by rfl, fun w' hb => ?_⟩) ?_
            rotate_left
            · have kf := KF w' hb
              go_simp
              with_reducible rfl
            simp only [Act.put, List.setIfInBounds_toArray, List.set_cons_zero, List.set_cons_succ]
            refine seqK_take 9 [20] (v := ?_) rfl (by kernel_rfl) (by kernel_rfl) (fun _ _ _ h => h) (Or.inl ⟨by rfl, fun w' hb => ?_⟩) ?_
            rotate_left
            · have kf := KF w' hb
              go_simp
              with_reducible rfl
            simp only [Act.put, List.setIfInBounds_toArray, List.set_cons_zero, List.set_cons_succ]
            refine seqK_take 10 [20] (v := ?_) rfl (by kernel_rfl) (by kernel_rfl) (fun _ _ _ h => h) (Or.inl ⟨by rfl, fun w' hb => ?_⟩) ?_
            rotate_left
            · have kf := KF w' hb
              go_simp
              with_reducible rfl
            simp only [Act.put, List.setIfInBounds_toArray, List.set_cons_zero, List.set_cons_succ]
            refine seqK_take 11 [20] (v := ?_) rfl (by kernel_rfl) (by kernel_rfl) (fun _ _ _ h => h) (Or.inl ⟨by rfl, fun w' hb => ?_⟩) ?_
            rotate_left
            · have kf := KF w' hb
              go_simp
              with_reducible rfl
            simp only [Act.put, List.setIfInBounds_toArray, List.set_cons_zero, List.set_cons_succ]
            refine seqK_take 12 [20] (v := ?_) rfl (by kernel_rfl) (by kernel_rfl) (fun _ _ _ h => h) (Or.inl ⟨by rfl, fun w' hb => ?_⟩) ?_
            rotate_left
            · have kf := KF w' hb
              go_simp
              with_reducible rfl
            simp only [Act.put, List.setIfInBounds_toArray, List.set_cons_zero, List.set_cons_succ]
            refine seqK_take 13 [20] (v := ?_) rfl (by kernel_rfl) (by kernel_rfl) (fun _ _ _ h => h) (Or.inl ⟨by rfl, fun w' hb => ?_⟩) ?_
            rotate_left
            · have kf := KF w' hb
              go_simp
              with_reducible rfl
            simp only [Act.put, List.setIfInBounds_toArray, List.set_cons_zero, List.set_cons_succ]
            refine seqK_take 14 [20] (v := ?_) rfl (by kernel_rfl) (by kernel_rfl) (fun _ _ _ h => h) (Or.inl ⟨by rfl, fun w' hb => ?_⟩) ?_
            rotate_left
            · have kf := KF w' hb
              go_simp
              with_reducible rfl
            simp only [Act.put, List.setIfInBounds_toArray, List.set_cons_zero, List.set_cons_succ]
            refine seqK_take 15 [20] (v := ?_) rfl (by kernel_rfl) (by kernel_rfl) (fun _ _ _ h => h) (Or.inl ⟨by rfl, fun w' hb => ?_⟩) ?_
            rotate_left
            · have kf := KF w' hb
              go_simp
              with_reducible rfl
            simp only [Act.put, List.setIfInBounds_toArray, List.set_cons_zero, List.set_cons_succ]
            refine seqK_take 16 [20] (v := ?_) rfl (by kernel_rfl) (by kernel_rfl) (fun _ _ _ h => h) (Or.inl ⟨by rfl, fun w' hb => ?_⟩) ?_
            rotate_left
            · have kf := KF w' hb
              go_simp
              with_reducible rfl
            simp only [Act.put, List.setIfInBounds_toArray, List.set_cons_zero, List.set_cons_succ]
            refine seqK_take 17 [20] (v := ?_) rfl (by kernel_rfl) (by kernel_rfl) (fun _ _ _ h => h) (Or.inl ⟨by rfl, fun w' hb => ?_⟩) ?_
            rotate_left
            · have kf := KF w' hb
              go_simp
              with_reducible rfl
            simp only [Act.put, List.setIfInBounds_toArray, List.set_cons_zero, List.set_cons_succ]
            refine seqK_take 18 [20] (v := ?_) rfl (by kernel_rfl) (by kernel_rfl) (fun _ _ _ h => h) (Or.inl ⟨by rfl, fun w' hb => ?_⟩) ?_
            rotate_left
            · have kf := KF w' hb
              go_simp
              with_reducible rfl
            simp only [Act.put, List.setIfInBounds_toArray, List.set_cons_zero, List.set_cons_succ]
            refine seqK_take 19 [20] (v := ?_) rfl (by kernel_rfl) (by kernel_rfl) (fun _ _ _ h => h) (Or.inl ⟨by rfl, fun w' hb => ?_⟩) ?_
            rotate_left
            · have kf := KF w' hb
              go_simp
              with_reducible rfl
            simp only [Act.put, List.setIfInBounds_toArray, List.set_cons_zero, List.set_cons_succ]
            refine seqK_do 20 rfl (by kernel_rfl) (fun K hK => ?_)
            go_simp
            refine hK.out _ _ _ (fun _ _ h => h) (fun h => by cases h) ?_
            clear hK K
            simp only [List.set_cons_zero, List.set_cons_succ]
            refine seqK_end (by kernel_rfl) (fun hEnd => ?_)
            clear hy0 hy1 hy2 hy3 hy4 hy5 hy6 hy7 hw0 hw1 hw2 hw3 hw4
            go_wp2_with fail
            go_roundw
            case rel =>
              refine ⟨j + 1, by omega, by go_num, ?_, ?_⟩
              · rw [htn.out, turn1, if_pos ⟨by omega, by omega⟩, HX.out]; exact HST.out.1
              · rw [HX.out]; exact below_grown_own (hbel.drew) hbel.size hownd HST.out.2
            case measure => simp [intOf]; omega
          · go_wp2_with fail
            go_roundw
            case rel => exact ⟨j + 1, by omega, by go_num, by rw [htn.out, turn1, if_neg (by omega)]; exact hown, hbel⟩
            case measure => simp [intOf]; omega
        · go_wp2_with fail
          go_roundw
          case rel => exact ⟨j + 1, by omega, by go_num, by rw [htn.out, turn1, if_neg (by omega)]; exact hown, hbel⟩
          case measure => simp [intOf]; omega
      · obtain rfl : j = 3 := by omega
        have hown : OwnB wr w9.heap.size (.slice (some ⟨g1, 0, none⟩) N c1) (turn1 (turn1 (turn1 B N z0) N z1) N z2) := hown
        have hTl : (turn1 (turn1 (turn1 B N z0) N z1) N z2).length = N := by rw [turn1_len, turn1_len, turn1_len, hN]
        obtain ⟨T, hT⟩ : ∃ T, turn1 (turn1 (turn1 B N z0) N z1) N z2 = T := ⟨_, rfl⟩
        rw [hT] at hown hTl E4
        clear hT
        have P10 : Hid (∀ (a : Option Addr) (c : Nat) (w : World), Bs w a T → N ≤ c → Calls Try.prog 11 #[.slice a N c, .int .u64 at_] w fun e w' => (∃ (kk : Int) (xx : Nat) (pp oo : Int) (a' : Option Addr) (l1 l2 : Nat) (s' : Option Addr) (u1 u2 : Nat) (nn rr tt : Nat) (sz er : Int), e = .returned (.tuple #[rv kk xx pp oo a' l1 l2 s' u1 u2 nn rr tt, .int .i64 sz, .int .i64 er]) ∧ (T ≠ B → (er == 4) = true)) ∧ Below w.heap.size w w') := fun a c w h hc => by
          by_cases ho : T = B
          · subst ho
            have := OfSome a c T at_ hatm w h (by omega) (by omega) _ _ E5
            rw [hTl] at this
            refine this.mono ?_
            rintro e w' ⟨⟨ab', sb', cs', rfl, _⟩, hb⟩
            exact ⟨⟨_, _, _, _, _, _, _, _, _, _, _, _, _, _, _, rfl, fun h => absurd rfl h⟩, hb⟩
          · have := OfNone a c T at_ w h (by omega) (by omega) (fun _ => E4 ho)
            rw [hTl] at this
            refine this.mono ?_
            rintro e w' ⟨⟨x, rfl, hx⟩, hb⟩
            refine ⟨⟨0, 0, 0, 0, none, 0, 0, none, 0, 0, 0, 0, 0, _, _, rfl, fun _ => ?_⟩, hb⟩
            rw [hx, if_pos hatm]; rfl
        have hBT : Bs wr (some ⟨g1, 0, none⟩) T := by
          obtain ⟨_, _, e, h, _⟩ := hown.form
          cases e; exact h
        have hBB := hBs3.below (belT hA9 hbel)
        have hlow := belT hA9W hbel
        clear E4 E5
        go_wp2_with fail
        refine (P10.out _ _ _ hBT hc1).mono ?_
        rintro e w10 ⟨⟨kk, xx, pp, oo, a', l1, l2, s', u1, u2, nn, rr, tt, sz, er2, rfl, her2⟩, hb10⟩
        have hbz := belT hb10 (below_alloc w10 (.cells #[.int .i64 kk, .int .u64 xx, .int .i64 pp, .int .i64 oo, .slice a' l1 l2, .slice s' u1 u2, .int .u64 nn, .int .u64 rr, .int .u64 tt] 27))
        have cv1 := conv_str _ c1 T _ (hBT.below hbz)
        have cv2 := conv_str _ cB B _ (hBB.below hbz)
        rw [hTl] at cv1
        rw [hN] at cv2
        have hfin := belT hB0 (belT hlow hbz)
        clear P10 hb10 hBT hBB hown hbel hlow hbz
        by_cases hTB : T = B
        · have hq : ((str T).toList == (str B).toList) = true := by rw [str_beq]; simp [hTB]
          clear her2 hTB
          go_wp2_with (go_at_call 10; refine (numF _ _).mono ?_; rintro e wd ⟨rfl, rfl⟩)
          go_ret
          exact ⟨rfl, hfin⟩
        · have hq : ((str T).toList == (str B).toList) = false := by rw [str_beq]; simp [hTB]
          have her2 := her2 hTB
          clear hTB
          go_wp2_with (go_at_call 10; refine (numF _ _).mono ?_; rintro e wd ⟨rfl, rfl⟩)
          go_ret
          exact ⟨rfl, hfin⟩
  · have hz : ((other : Int) != (at_ : Int)) = true := by simpa using fun h => ho (by exact_mod_cast h)
    have her := her ho
    have HO := Lib.hid ho
    clear ho
    go_wp2_with (first | (go_at_call 10; refine (numF _ _).mono ?_; rintro e wd ⟨rfl, rfl⟩) | (go_at_call 12; refine (P9.out _ (ha.below (belT hB0 (belT hW3 hA6)))).mono ?_; rintro e w7 ⟨rfl, hb7⟩; have hA7 := belT hA6 hb7; clear F0 F1 F2 F3 F4 F5 F6 F7 F8 F9 T0 T1 T2 T3 T4 T5 T6 T7 T8 T9; obtain ⟨F0, F1, F2, F3, F4, F5, F6, F7, F8, F9⟩ := HK.out _ (belT hW3 hA7); obtain ⟨T0, T1, T2, T3, T4, T5, T6, T7, T8, T9⟩ := HK3.out _ hA7) | (go_at_call 8; refine (RSameF k x p o ab3 sb3 l.length cs3 l u n r t k x p o ab sb cb cs l u n r t _ (hR3a.below hA7) (ha.below (belT hB0 (belT hW3 hA7)))).mono ?_; rw [decide_eq_true rfl]; rintro e w8 ⟨rfl, hb8⟩; have hA8 := belT hA7 hb8; clear F0 F1 F2 F3 F4 F5 F6 F7 F8 F9 T0 T1 T2 T3 T4 T5 T6 T7 T8 T9; obtain ⟨F0, F1, F2, F3, F4, F5, F6, F7, F8, F9⟩ := HK.out _ (belT hW3 hA8); obtain ⟨T0, T1, T2, T3, T4, T5, T6, T7, T8, T9⟩ := HK3.out _ hA8) | (go_at_call 7; refine (SameF k x p o ab3 sb3 l.length cs3 l u n r t k x p o ab sb cb cs l u n r t _ (hR3a.below hA8) (ha.below (belT hB0 (belT hW3 hA8)))).mono ?_; rw [decide_eq_true rfl]; rintro e w9 ⟨rfl, hb9⟩; have hA9 := belT hA8 hb9; clear F0 F1 F2 F3 F4 F5 F6 F7 F8 F9 T0 T1 T2 T3 T4 T5 T6 T7 T8 T9) | (refine wpList_append_b rfl _ _ rfl w9.heap.size (.slice none 0 0) [] rfl (OwnB.nil _ _) (some ⟨gB, oB, none⟩) B N cB rfl hN.symm (hBs3.below hA9) (fun e => by cases e) (by simp; omega) (Nat.le_refl _) ?_; intro v1 w1 ho1 hg1))
    rw [List.nil_append] at ho1
    have hb1 := below_grown hg1
    clear hg1
    obtain ⟨a1, c1, hv1, hB1, hc1, hx1⟩ := ho1.form
    obtain ⟨g1, o1, rfl⟩ := hB1.ex (k := 0) (by omega)
    obtain ⟨g, he, hge, hgl⟩ := hx1 _ rfl
    cases he
    rw [hN] at hv1 hc1
    subst hv1
    have hA9W := belT hW3 hA9
    clear hx1 hB1 hA6 hA7 hA8 hb7 hb8 hb9 hz
    go_loopw [23] (fun i wr => ∃ j : Nat, j ≤ 3 ∧ i = .int .i64 j ∧ OwnB wr w9.heap.size (.slice (some ⟨g1, 0, none⟩) N c1) (turns B N z0 z1 z2 j) ∧ Below w9.heap.size w9 wr) (fun i _ => 3 - (intOf i).toNat)
    case atStart => exact ⟨0, by omega, rfl, ho1, hb1⟩
    case round =>
      clear ho1 hb1
      obtain ⟨j, hj, rfl, hown, hbel⟩ := hrel
      by_cases hlt : j < 3
      · have hcb : wr.cell? ⟨w.heap.size + 1, j, none⟩ = some (.int .i64 (bt z0 z1 z2 j)) := by
          rw [cell_of_row _ _ _ _ _ _ (HBT.out wr (belT hA9W hbel))]; exact bits_get z0 z1 z2 j hlt
        have htn : Hid (turns B N z0 z1 z2 (j + 1) = turn1 (turns B N z0 z1 z2 j) N (bt z0 z1 z2 j)) := rfl
        have hTl : (turns B N z0 z1 z2 j).length = N := by rw [turns_len, hN]
        obtain ⟨Tj, hTj⟩ : ∃ Tj, turns B N z0 z1 z2 j = Tj := ⟨_, rfl⟩
        obtain ⟨z, hzz⟩ : ∃ z, bt z0 z1 z2 j = z := ⟨_, rfl⟩
        rw [hTj] at hown htn hTl
        rw [hzz] at hcb htn
        clear hTj hzz
        by_cases h32 : 32 ≤ z
        · by_cases h8 : z < 8 * (N : Int)
          · obtain ⟨q, rfl⟩ : ∃ q : Nat, z = (q : Int) := ⟨z.toNat, by omega⟩
            have hq8 : q / 8 < Tj.length := by omega
            have hownd := hown.below (Below.refl wr.heap.size wr).drew
            obtain ⟨hc, hf⟩ := hownd.cell hTl.symm (q / 8) hq8
            have hst := hownd.set hTl.symm (q / 8) hq8 (Tj[q / 8] ^^^ (1 <<< UInt8.ofNat (q % 8)))
            have hfl : CrcM.flipL Tj q = Tj.set (q / 8) (Tj[q / 8] ^^^ (1 <<< UInt8.ofNat (q % 8))) := by
              unfold CrcM.flipL
              rw [List.getD_eq_getElem?_getD, List.getElem?_eq_getElem hq8]; rfl
            rw [← hfl] at hst
            have HFL := Lib.hid hfl
            clear hfl
            obtain ⟨c, hcc⟩ : ∃ c, Tj[q / 8] = c := ⟨_, rfl⟩
            rw [hcc] at hc hst
            clear hcc
            have HST := Lib.hid hst
            clear hst
            have hsh : (2 : Int) ^ (q % 8) % 256 = (((1 : UInt8) <<< UInt8.ofNat (q % 8)).toNat : Int) := by
              have := shl_u8 (q % 8) (by omega)
              rw [IntKind.wrap_u8] at this; exact this
            have hX : bits .xor .u8 (c.toNat : Int) ((2 : Int) ^ (q % 8) % 256) = ((c ^^^ 1 <<< UInt8.ofNat (q % 8)).toNat : Int) := by
              rw [hsh]; exact xor_u8 c (1 <<< UInt8.ofNat (q % 8))
            have HX := Lib.hid hX
            clear hX hsh
            have hcb2 : 0 ≤ (c.toNat : Int) ∧ (c.toNat : Int) ≤ 255 := by have := c.toNat_lt; omega
            have hqI : (0 : Int) ≤ (q : Int) ∧ (q : Int) < 8 * (N : Int) := by omega
            have hq8N : q / 8 < N := by omega
            have hcb3 : wr.drew.cell? ⟨w.heap.size + 1, j, none⟩ = some (.int .i64 (q : Int)) := hcb
            go_wp2_with fail
            have KF : ∀ w' : World, (false = false → w'.cell? ⟨w.heap.size + 1, j, none⟩ = some (.int .i64 (q : Int)) ∧ w'.cell? ⟨g1, q / 8, none⟩ = some (.int .u8 (c.toNat : Int))) → w'.cell? ⟨w.heap.size + 1, j, none⟩ = some (.int .i64 (q : Int)) ∧ w'.cell? ⟨g1, q / 8, none⟩ = some (.int .u8 (c.toNat : Int)) := fun _ h => h rfl
            have hw1 : IntKind.i64.wrap ((q : Int) / 8) = ((q / 8 : Nat) : Int) := by rw [IntKind.wrap_i64]; omega
            have hw0 : (q : Int).tdiv 8 = (q : Int) / 8 := Int.tdiv_eq_ediv_of_nonneg (by omega)
            have hw2 : (q : Int).tmod 8 = ((q % 8 : Nat) : Int) := by rw [Int.tmod_eq_emod_of_nonneg (by omega)]; omega
            have hw3 : IntKind.i64.wrap ((q % 8 : Nat) : Int) = ((q % 8 : Nat) : Int) := by rw [IntKind.wrap_i64]; omega
            have hw4 : IntKind.u64.wrap ((q % 8 : Nat) : Int) = ((q % 8 : Nat) : Int) := by rw [IntKind.wrap_u64]; omega
            have hy0 : (0 : Int) ≤ (q : Int) / 8 := by omega
            have hy1 : (q : Int) / 8 < (N : Int) := by omega
            have hy2 : ((q : Int) / 8).toNat = q / 8 := by omega
            have hy3 : (0 : Int) ≤ (q : Int) % 8 := by omega
            have hy4 : ((q : Int) % 8).toNat = q % 8 := by omega
            have hy5 : (q : Int) % 8 < 8 := by omega
            have hy6 : IntKind.i64.wrap ((q : Int) % 8) = (q : Int) % 8 := by rw [IntKind.wrap_i64]; omega
            have hy7 : IntKind.u64.wrap ((q : Int) % 8) = (q : Int) % 8 := by rw [IntKind.wrap_u64]; omega
            refine seqK_start 20 (fun (b : Bool) (w' : World) => b = false → w'.cell? ⟨w.heap.size + 1, j, none⟩ = some (.int .i64 (q : Int)) ∧ w'.cell? ⟨g1, q / 8, none⟩ = some (.int .u8 (c.toNat : Int))) 21 [false, false, false, false, false, false, false, false, false, false, false, false, false, false, false, false, false, false, false, false, false] (by kernel_rfl) rfl rfl rfl (fun _ => ⟨hcb3, hc⟩) ?_
            refine seqK_take 0 [20] (v := ?_) rfl (by kernel_rfl) (by kernel_rfl) (fun _ _ _ h => h) (Or.inl ⟨by rfl, fun w' hb => ?_⟩) ?_
            rotate_left
            · have kf := KF w' hb
              go_simp
              with_reducible rfl
            simp only [Act.put, List.setIfInBounds_toArray, List.set_cons_zero, List.set_cons_succ]
            refine seqK_take 1 [20] (v := ?_) rfl (by kernel_rfl) (by kernel_rfl) (fun _ _ _ h => h) (Or.inl ⟨by rfl, fun w' hb => ?_⟩) ?_
            rotate_left
            · have kf := KF w' hb
              go_simp
              with_reducible rfl
            simp only [Act.put, List.setIfInBounds_toArray, List.set_cons_zero, List.set_cons_succ]
            refine seqK_take 2 [20] (v := ?_) rfl (by kernel_rfl) (by kernel_rfl) (fun _ _ _ h => h) (Or.inl ⟨by rfl, fun w' hb => ?_⟩) ?_
            rotate_left
            · have kf := KF w' hb
              go_simp
              with_reducible rfl
            simp only [Act.put, List.setIfInBounds_toArray, List.set_cons_zero, List.set_cons_succ]
            refine seqK_take 3 [20] (v := ?_) rfl (by kernel_rfl) (by kernel_rfl) (fun _ _ _ h => h) (Or.inl ⟨by rfl, fun w' hb => ?_⟩) ?_
            rotate_left
            · have kf := KF w' hb
              go_simp
              with_reducible rfl
            simp only [Act.put, List.setIfInBounds_toArray, List.set_cons_zero, List.set_cons_succ]
            refine seqK_take 4 [20] (v := ?_) rfl (by kernel_rfl) (by kernel_rfl) (fun _ _ _ h => h) (Or.inl ⟨by rfl, fun w' hb => ?_⟩) ?_
            rotate_left
            · have kf := KF w' hb
              go_simp
              with_reducible rfl
            simp only [Act.put, List.setIfInBounds_toArray, List.set_cons_zero, List.set_cons_succ]
            refine seqK_take 5 [20] (v := ?_) rfl (by kernel_rfl) (by kernel_rfl) (fun _ _ _ h => h) (Or.inl ⟨by rfl, fun w' hb => ?_⟩) ?_
            rotate_left
            · have kf := KF w' hb
              go_simp
              with_reducible rfl
            simp only [Act.put, List.setIfInBounds_toArray, List.set_cons_zero, List.set_cons_succ]
            refine seqK_take 6 [20] (v := ?_) rfl (by kernel_rfl) (by kernel_rfl) (fun _ _ _ h => h) (Or.inl ⟨by rfl, fun w' hb => ?_⟩) ?_
            rotate_left
            · have kf := KF w' hb
              go_simp
              with_reducible rfl
            simp only [Act.put, List.setIfInBounds_toArray, List.set_cons_zero, List.set_cons_succ]
            refine seqK_take 7 [20] (v := ?_) rfl (by kernel_rfl) (by kernel_rfl) (fun _ _ _ h => h) (Or.inl ⟨by rfl, fun w' hb => ?_⟩) ?_
            rotate_left
            · have kf := KF w' hb
              go_simp
              with_reducible rfl
            simp only [Act.put, List.setIfInBounds_toArray, List.set_cons_zero, List.set_cons_succ]
            refine seqK_take 8 [20] (v := ?_) rfl (by kernel_rfl) (by kernel_rfl) (fun _ _ _ h => h) (Or.inl ⟨by rfl, fun w' hb => ?_⟩) ?_
            rotate_left
            · have kf := KF w' hb
              go_simp
              with_reducible rfl
            simp only [Act.put, List.setIfInBounds_toArray, List.set_cons_zero, List.set_cons_succ]
            refine seqK_take 9 [20] (v := ?_) rfl (by kernel_rfl) (by kernel_rfl) (fun _ _ _ h => h) (Or.inl ⟨by rfl, fun w' hb => ?_⟩) ?_
            rotate_left
            · have kf := KF w' hb
              go_simp
              with_reducible rfl
            simp only [Act.put, List.setIfInBounds_toArray, List.set_cons_zero, List.set_cons_succ]
            refine seqK_take 10 [20] (v := ?_) rfl (by kernel_rfl) (by kernel_rfl) (fun _ _ _ h => h) (Or.inl ⟨by rfl, fun w' hb => ?_⟩) ?_
            rotate_left
            · have kf := KF w' hb
              go_simp
              with_reducible rfl
            simp only [Act.put, List.setIfInBounds_toArray, List.set_cons_zero, List.set_cons_succ]
            refine seqK_take 11 [20] (v := ?_) rfl (by kernel_rfl) (by kernel_rfl) (fun _ _ _ h => h) (Or.inl ⟨by rfl, fun w' hb => ?_⟩) ?_
            rotate_left
            · have kf := KF w' hb
              go_simp
              with_reducible rfl
            simp only [Act.put, List.setIfInBounds_toArray, List.set_cons_zero, List.set_cons_succ]
            refine seqK_take 12 [20] (v := ?_) rfl (by kernel_rfl) (by kernel_rfl) (fun _ _ _ h => h) (Or.inl ⟨by rfl, fun w' hb => ?_⟩) ?_
            rotate_left
            · have kf := KF w' hb
              go_simp
              with_reducible rfl
            simp only [Act.put, List.setIfInBounds_toArray, List.set_cons_zero, List.set_cons_succ]
            refine seqK_take 13 [20] (v := ?_) rfl (by kernel_rfl) (by kernel_rfl) (fun _ _ _ h => h) (Or.inl ⟨by rfl, fun w' hb => ?_⟩) ?_
            rotate_left
            · have kf := KF w' hb
              go_simp
              with_reducible rfl
            simp only [Act.put, List.setIfInBounds_toArray, List.set_cons_zero, List.set_cons_succ]
            refine seqK_take 14 [20] (v := ?_) rfl (by kernel_rfl) (by kernel_rfl) (fun _ _ _ h => h) (Or.inl ⟨by rfl, fun w' hb => ?_⟩) ?_
            rotate_left
            · have kf := KF w' hb
              go_simp
              with_reducible rfl
            simp only [Act.put, List.setIfInBounds_toArray, List.set_cons_zero, List.set_cons_succ]
            refine seqK_take 15 [20] (v := ?_) rfl (by kernel_rfl) (by kernel_rfl) (fun _ _ _ h => h) (Or.inl ⟨by rfl, fun w' hb => ?_⟩) ?_
            rotate_left
            · have kf := KF w' hb
              go_simp
              with_reducible rfl
            simp only [Act.put, List.setIfInBounds_toArray, List.set_cons_zero, List.set_cons_succ]
            refine seqK_take 16 [20] (v := ?_) rfl (by kernel_rfl) (by kernel_rfl) (fun _ _ _ h => h) (Or.inl ⟨by rfl, fun w' hb => ?_⟩) ?_
            rotate_left
            · have kf := KF w' hb
              go_simp
              with_reducible rfl
            simp only [Act.put, List.setIfInBounds_toArray, List.set_cons_zero, List.set_cons_succ]
            refine seqK_take 17 [20] (v := ?_) rfl (by kernel_rfl) (by kernel_rfl) (fun _ _ _ h => h) (Or.inl ⟨by rfl, fun w' hb => ?_⟩) ?_
            rotate_left
            · have kf := KF w' hb
              go_simp
              with_reducible rfl
            simp only [Act.put, List.setIfInBounds_toArray, List.set_cons_zero, List.set_cons_succ]
            refine seqK_take 18 [20] (v := ?_) rfl (by kernel_rfl) (by kernel_rfl) (fun _ _ _ h => h) (Or.inl ⟨by rfl, fun w' hb => ?_⟩) ?_
            rotate_left
            · have kf := KF w' hb
              go_simp
              with_reducible rfl
            simp only [Act.put, List.setIfInBounds_toArray, List.set_cons_zero, List.set_cons_succ]
            refine seqK_take 19 [20] (v := ?_) rfl (by kernel_rfl) (by kernel_rfl) (fun _ _ _ h => h) (Or.inl ⟨by rfl, fun w' hb => ?_⟩) ?_
            rotate_left
            · have kf := KF w' hb
              go_simp
              with_reducible rfl
            simp only [Act.put, List.setIfInBounds_toArray, List.set_cons_zero, List.set_cons_succ]
            refine seqK_do 20 rfl (by kernel_rfl) (fun K hK => ?_)
            go_simp
            refine hK.out _ _ _ (fun _ _ h => h) (fun h => by cases h) ?_
            clear hK K
            simp only [List.set_cons_zero, List.set_cons_succ]
            refine seqK_end (by kernel_rfl) (fun hEnd => ?_)
            clear hy0 hy1 hy2 hy3 hy4 hy5 hy6 hy7 hw0 hw1 hw2 hw3 hw4
            go_wp2_with fail
            go_roundw
            case rel =>
              refine ⟨j + 1, by omega, by go_num, ?_, ?_⟩
              · rw [htn.out, turn1, if_pos ⟨by omega, by omega⟩, HX.out]; exact HST.out.1
              · rw [HX.out]; exact below_grown_own (hbel.drew) hbel.size hownd HST.out.2
            case measure => simp [intOf]; omega
          · go_wp2_with fail
            go_roundw
            case rel => exact ⟨j + 1, by omega, by go_num, by rw [htn.out, turn1, if_neg (by omega)]; exact hown, hbel⟩
            case measure => simp [intOf]; omega
        · go_wp2_with fail
          go_roundw
          case rel => exact ⟨j + 1, by omega, by go_num, by rw [htn.out, turn1, if_neg (by omega)]; exact hown, hbel⟩
          case measure => simp [intOf]; omega
      · obtain rfl : j = 3 := by omega
        have hown : OwnB wr w9.heap.size (.slice (some ⟨g1, 0, none⟩) N c1) (turn1 (turn1 (turn1 B N z0) N z1) N z2) := hown
        have hTl : (turn1 (turn1 (turn1 B N z0) N z1) N z2).length = N := by rw [turn1_len, turn1_len, turn1_len, hN]
        obtain ⟨T, hT⟩ : ∃ T, turn1 (turn1 (turn1 B N z0) N z1) N z2 = T := ⟨_, rfl⟩
        rw [hT] at hown hTl E4
        clear hT
        have P10 : Hid (∀ (a : Option Addr) (c : Nat) (w : World), Bs w a T → N ≤ c → Calls Try.prog 11 #[.slice a N c, .int .u64 at_] w fun e w' => (∃ (kk : Int) (xx : Nat) (pp oo : Int) (a' : Option Addr) (l1 l2 : Nat) (s' : Option Addr) (u1 u2 : Nat) (nn rr tt : Nat) (sz er : Int), e = .returned (.tuple #[rv kk xx pp oo a' l1 l2 s' u1 u2 nn rr tt, .int .i64 sz, .int .i64 er]) ∧ (T ≠ B → (er == 4) = true)) ∧ Below w.heap.size w w') := fun a c w h hc => by
          by_cases ho : T = B
          · subst ho
            have := OfSome a c T at_ hatm w h (by omega) (by omega) _ _ E5
            rw [hTl] at this
            refine this.mono ?_
            rintro e w' ⟨⟨ab', sb', cs', rfl, _⟩, hb⟩
            exact ⟨⟨_, _, _, _, _, _, _, _, _, _, _, _, _, _, _, rfl, fun h => absurd rfl h⟩, hb⟩
          · have := OfNone a c T at_ w h (by omega) (by omega) (fun _ => E4 ho)
            rw [hTl] at this
            refine this.mono ?_
            rintro e w' ⟨⟨x, rfl, hx⟩, hb⟩
            refine ⟨⟨0, 0, 0, 0, none, 0, 0, none, 0, 0, 0, 0, 0, _, _, rfl, fun _ => ?_⟩, hb⟩
            rw [hx, if_pos hatm]; rfl
        have hBT : Bs wr (some ⟨g1, 0, none⟩) T := by
          obtain ⟨_, _, e, h, _⟩ := hown.form
          cases e; exact h
        have hBB := hBs3.below (belT hA9 hbel)
        have hlow := belT hA9W hbel
        clear E4 E5
        go_wp2_with fail
        refine (P10.out _ _ _ hBT hc1).mono ?_
        rintro e w10 ⟨⟨kk, xx, pp, oo, a', l1, l2, s', u1, u2, nn, rr, tt, sz, er2, rfl, her2⟩, hb10⟩
        have hbz := belT hb10 (below_alloc w10 (.cells #[.int .i64 kk, .int .u64 xx, .int .i64 pp, .int .i64 oo, .slice a' l1 l2, .slice s' u1 u2, .int .u64 nn, .int .u64 rr, .int .u64 tt] 27))
        have cv1 := conv_str _ c1 T _ (hBT.below hbz)
        have cv2 := conv_str _ cB B _ (hBB.below hbz)
        rw [hTl] at cv1
        rw [hN] at cv2
        have hfin := belT hB0 (belT hlow hbz)
        clear P10 hb10 hBT hBB hown hbel hlow hbz
        by_cases hTB : T = B
        · have hq : ((str T).toList == (str B).toList) = true := by rw [str_beq]; simp [hTB]
          clear her2 hTB
          go_wp2_with (go_at_call 10; refine (numF _ _).mono ?_; rintro e wd ⟨rfl, rfl⟩)
          go_ret
          exact ⟨rfl, hfin⟩
        · have hq : ((str T).toList == (str B).toList) = false := by rw [str_beq]; simp [hTB]
          have her2 := her2 hTB
          clear hTB
          go_wp2_with (go_at_call 10; refine (numF _ _).mono ?_; rintro e wd ⟨rfl, rfl⟩)
          go_ret
          exact ⟨rfl, hfin⟩

end Go.Proofs.Ytokijkinlcdjeaa

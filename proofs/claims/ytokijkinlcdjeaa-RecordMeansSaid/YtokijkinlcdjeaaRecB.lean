/- Records as values: Same, the reference's Same and Much, bare. -/
import Derived.Test.YtokijkinlcdjeaaRecA
namespace Go.Proofs.Ytokijkinlcdjeaa
open Go.RowKit WireM

structure Rec where
  kind : Int
  xid : Nat
  page : Int
  off : Int
  bytes : List UInt8
  subs : List Nat
  next : Nat
  redo : Nat
  tl : Nat
  deriving DecidableEq
structure RB (w : World) (r : Rec) (ab sb : Option Addr) (cb cs : Nat) : Prop where
  b : Bs w ab r.bytes
  s : Us w sb r.subs
  lb : r.bytes.length ≤ 9223372036854775807
  ls : r.subs.length ≤ 9223372036854775807
  nb : ab = none → cb = 0
  ns : sb = none → cs = 0
theorem RB.below {w w' : World} {r : Rec} {ab sb : Option Addr} {cb cs : Nat} (h : RB w r ab sb cb cs) (hb : Below w.heap.size w w') : RB w' r ab sb cb cs :=
  ⟨h.b.below hb, h.s.below hb, h.lb, h.ls, h.nb, h.ns⟩
theorem old2 (w : World) (a b : Obj) : ((w.alloc a).alloc b).heap[w.heap.size]? = some a := heap_alloc2_old _ _ _
theorem new2 (w : World) (a b : Obj) : ((w.alloc a).alloc b).heap[w.heap.size + 1]? = some b := heap_alloc2_new _ _ _
theorem below2 (w : World) (a b : Obj) : Below w.heap.size w ((w.alloc a).alloc b) := (below_alloc _ _).alloc (by simp) _
theorem below3 {w w' : World} {a b : Obj} (h : Below ((w.alloc a).alloc b).heap.size ((w.alloc a).alloc b) w') : Below w.heap.size w w' := belT (below2 w a b) h
abbrev rv (k : Int) (x : Nat) (p o : Int) (ab : Option Addr) (nb cb : Nat) (sb : Option Addr) (ns cs n r t : Nat) : Value :=
  .agg #[.int .i64 k, .int .u64 x, .int .i64 p, .int .i64 o, .slice ab nb cb, .slice sb ns cs, .int .u64 n, .int .u64 r, .int .u64 t]

theorem MuchF (k : Int) (x : Nat) (p o : Int) (ab sb : Option Addr) (cb cs : Nat) (l : List UInt8) (u : List Nat) (n r t : Nat) (w : World) :
    Calls Try.prog 5 #[rv k x p o ab l.length cb sb u.length cs n r t] w fun e w' => e = .returned (.bool (decide (70000 < l.length) || decide (9000 < u.length))) ∧ Below w.heap.size w w' := by
  by_cases h1 : 70000 < l.length
  · have hd : decide ((70000 : Int) < (l.length : Int)) = true := by simp; omega
    rw [decide_eq_true h1]
    go_enter Try.func5, Try.ntmps5
    go_wp2
    go_ret
    exact ⟨rfl, below_alloc _ _⟩
  · rw [decide_eq_false h1]
    have hd0 : decide ((70000 : Int) < (l.length : Int)) = false := by simp; omega
    by_cases h2 : 9000 < u.length
    · have hd : decide ((9000 : Int) < (u.length : Int)) = true := by simp; omega
      rw [decide_eq_true h2]
      go_enter Try.func5, Try.ntmps5
      go_wp2
      go_ret
      exact ⟨by first | rfl | (simp [hd]; first | done | omega), below_alloc _ _⟩
    · have hd : decide ((9000 : Int) < (u.length : Int)) = false := by simp; omega
      rw [decide_eq_false h2]
      go_enter Try.func5, Try.ntmps5
      go_wp2
      go_ret
      exact ⟨by first | rfl | (simp [hd]; first | done | omega), below_alloc _ _⟩
set_option maxHeartbeats 8000000 in
theorem SameF (k : Int) (x : Nat) (p o : Int) (ab sb : Option Addr) (cb cs : Nat) (l : List UInt8) (u : List Nat) (n r t : Nat) (k' : Int) (x' : Nat) (p' o' : Int) (ab' sb' : Option Addr) (cb' cs' : Nat) (l' : List UInt8) (u' : List Nat) (n' r' t' : Nat) (w : World) (ha : RB w ⟨k, x, p, o, l, u, n, r, t⟩ ab sb cb cs) (hb : RB w ⟨k', x', p', o', l', u', n', r', t'⟩ ab' sb' cb' cs') :
    Calls Try.prog 7 #[rv k x p o ab l.length cb sb u.length cs n r t, rv k' x' p' o' ab' l'.length cb' sb' u'.length cs' n' r' t'] w fun e w' => e = .returned (.bool (decide ((⟨k, x, p, o, l, u, n, r, t⟩ : Rec) = ⟨k', x', p', o', l', u', n', r', t'⟩))) ∧ Below w.heap.size w w' := by
  obtain ⟨bl, bu, l1, l2, _, _⟩ := ha
  obtain ⟨bl', bu', l1', l2', _, _⟩ := hb
  simp only at bl bu l1 l2 bl' bu' l1' l2'
  by_cases hk : k = k'
  case neg =>
    rw [decide_eq_false (fun e => hk (by injection e))]
    have hd : ((k : Int) == (k' : Int)) = false := by simpa using fun e => hk (by exact e)
    clear hk
    go_enter Try.func7, Try.ntmps7
    go_wp2
    go_ret
    exact ⟨rfl, (below_alloc _ _).alloc (by simp) _⟩
  subst hk
  by_cases hx : x = x'
  case neg =>
    rw [decide_eq_false (fun e => hx (by injection e))]
    have hd : ((x : Int) == (x' : Int)) = false := by simpa using fun e => hx (by exact_mod_cast e)
    clear hx
    go_enter Try.func7, Try.ntmps7
    go_wp2
    go_ret
    exact ⟨rfl, (below_alloc _ _).alloc (by simp) _⟩
  subst hx
  by_cases hp : p = p'
  case neg =>
    rw [decide_eq_false (fun e => hp (by injection e))]
    have hd : ((p : Int) == (p' : Int)) = false := by simpa using fun e => hp (by exact e)
    clear hp
    go_enter Try.func7, Try.ntmps7
    go_wp2
    go_ret
    exact ⟨rfl, (below_alloc _ _).alloc (by simp) _⟩
  subst hp
  by_cases ho : o = o'
  case neg =>
    rw [decide_eq_false (fun e => ho (by injection e))]
    have hd : ((o : Int) == (o' : Int)) = false := by simpa using fun e => ho (by exact e)
    clear ho
    go_enter Try.func7, Try.ntmps7
    go_wp2
    go_ret
    exact ⟨rfl, (below_alloc _ _).alloc (by simp) _⟩
  subst ho
  by_cases hn : n = n'
  case neg =>
    rw [decide_eq_false (fun e => hn (by injection e))]
    have hd : ((n : Int) == (n' : Int)) = false := by simpa using fun e => hn (by exact_mod_cast e)
    clear hn
    go_enter Try.func7, Try.ntmps7
    go_wp2
    go_ret
    exact ⟨rfl, (below_alloc _ _).alloc (by simp) _⟩
  subst hn
  by_cases hr : r = r'
  case neg =>
    rw [decide_eq_false (fun e => hr (by injection e))]
    have hd : ((r : Int) == (r' : Int)) = false := by simpa using fun e => hr (by exact_mod_cast e)
    clear hr
    go_enter Try.func7, Try.ntmps7
    go_wp2
    go_ret
    exact ⟨rfl, (below_alloc _ _).alloc (by simp) _⟩
  subst hr
  by_cases ht : t = t'
  case neg =>
    rw [decide_eq_false (fun e => ht (by injection e))]
    have hd : ((t : Int) == (t' : Int)) = false := by simpa using fun e => ht (by exact_mod_cast e)
    clear ht
    go_enter Try.func7, Try.ntmps7
    go_wp2
    go_ret
    exact ⟨rfl, (below_alloc _ _).alloc (by simp) _⟩
  subst ht
  by_cases hl : l = l'
  · subst hl
    have hE : decide (l = l) = true := by simp
    rw [show decide ((⟨k, x, p, o, l, u, n, r, t⟩ : Rec) = ⟨k, x, p, o, l, u', n, r, t⟩) = decide (u = u') from decide_eq_decide.2 ⟨fun e => by injection e, fun e => by rw [e]⟩]
    go_enter Try.func7, Try.ntmps7
    go_wp2_with (first | (go_at_call 14; refine (EqualB ab ab' cb cb' l l _ (bl.below (below2 _ _ _)) (bl'.below (below2 _ _ _)) l1 l1').mono ?_; rw [hE]; rintro e w1 ⟨rfl, hb1⟩; have z1 : w1.cell? ⟨w.heap.size, 5, none⟩ = some (.slice sb u.length cs) := Below.cellSome hb1 (cell_of_row _ _ _ _ _ _ (old2 _ _ _)); have z2 : w1.cell? ⟨w.heap.size + 1, 5, none⟩ = some (.slice sb' u'.length cs') := Below.cellSome hb1 (cell_of_row _ _ _ _ _ _ (new2 _ _ _))) | (go_at_call 15; refine (EqualU sb sb' cs cs' u u' _ (bu.below (below3 hb1)) (bu'.below (below3 hb1)) l2 l2').mono ?_; rintro e w2 ⟨rfl, hb2⟩))
    go_ret
    exact ⟨rfl, belT (below3 hb1) hb2⟩
  · have hE : decide (l = l') = false := by simpa using hl
    rw [decide_eq_false (fun e => hl (by injection e))]
    go_enter Try.func7, Try.ntmps7
    go_wp2_with (go_at_call 14; refine (EqualB ab ab' cb cb' l l' _ (bl.below (below2 _ _ _)) (bl'.below (below2 _ _ _)) l1 l1').mono ?_; rw [hE]; rintro e w1 ⟨rfl, hb1⟩; have z1 : w1.cell? ⟨w.heap.size, 5, none⟩ = some (.slice sb u.length cs) := Below.cellSome hb1 (cell_of_row _ _ _ _ _ _ (old2 _ _ _)); have z2 : w1.cell? ⟨w.heap.size + 1, 5, none⟩ = some (.slice sb' u'.length cs') := Below.cellSome hb1 (cell_of_row _ _ _ _ _ _ (new2 _ _ _)))
    go_ret
    exact ⟨rfl, below3 hb1⟩
set_option maxHeartbeats 8000000 in
theorem RSameF (k : Int) (x : Nat) (p o : Int) (ab sb : Option Addr) (cb cs : Nat) (l : List UInt8) (u : List Nat) (n r t : Nat) (k' : Int) (x' : Nat) (p' o' : Int) (ab' sb' : Option Addr) (cb' cs' : Nat) (l' : List UInt8) (u' : List Nat) (n' r' t' : Nat) (w : World) (ha : RB w ⟨k, x, p, o, l, u, n, r, t⟩ ab sb cb cs) (hb : RB w ⟨k', x', p', o', l', u', n', r', t'⟩ ab' sb' cb' cs') :
    Calls Try.prog 8 #[rv k x p o ab l.length cb sb u.length cs n r t, rv k' x' p' o' ab' l'.length cb' sb' u'.length cs' n' r' t'] w fun e w' => e = .returned (.bool (decide ((⟨k, x, p, o, l, u, n, r, t⟩ : Rec) = ⟨k', x', p', o', l', u', n', r', t'⟩))) ∧ Below w.heap.size w w' := by
  obtain ⟨bl, bu, l1, l2, _, _⟩ := ha
  obtain ⟨bl', bu', l1', l2', _, _⟩ := hb
  simp only at bl bu l1 l2 bl' bu' l1' l2'
  by_cases hk : k = k'
  case neg =>
    rw [decide_eq_false (fun e => hk (by injection e))]
    have hd : ((k : Int) != (k' : Int)) = true := by simpa using fun e => hk (by exact e)
    clear hk
    go_enter Try.func8, Try.ntmps8
    go_wp2
    go_ret
    exact ⟨rfl, (below_alloc _ _).alloc (by simp) _⟩
  subst hk
  by_cases hx : x = x'
  case neg =>
    rw [decide_eq_false (fun e => hx (by injection e))]
    have hd : ((x : Int) != (x' : Int)) = true := by simpa using fun e => hx (by exact_mod_cast e)
    clear hx
    go_enter Try.func8, Try.ntmps8
    go_wp2
    go_ret
    exact ⟨rfl, (below_alloc _ _).alloc (by simp) _⟩
  subst hx
  by_cases hp : p = p'
  case neg =>
    rw [decide_eq_false (fun e => hp (by injection e))]
    have hd : ((p : Int) != (p' : Int)) = true := by simpa using fun e => hp (by exact e)
    clear hp
    go_enter Try.func8, Try.ntmps8
    go_wp2
    go_ret
    exact ⟨rfl, (below_alloc _ _).alloc (by simp) _⟩
  subst hp
  by_cases ho : o = o'
  case neg =>
    rw [decide_eq_false (fun e => ho (by injection e))]
    have hd : ((o : Int) != (o' : Int)) = true := by simpa using fun e => ho (by exact e)
    clear ho
    go_enter Try.func8, Try.ntmps8
    go_wp2
    go_ret
    exact ⟨rfl, (below_alloc _ _).alloc (by simp) _⟩
  subst ho
  by_cases hn : n = n'
  case neg =>
    rw [decide_eq_false (fun e => hn (by injection e))]
    have hd : ((n : Int) != (n' : Int)) = true := by simpa using fun e => hn (by exact_mod_cast e)
    clear hn
    go_enter Try.func8, Try.ntmps8
    go_wp2
    go_ret
    exact ⟨rfl, (below_alloc _ _).alloc (by simp) _⟩
  subst hn
  by_cases hr : r = r'
  case neg =>
    rw [decide_eq_false (fun e => hr (by injection e))]
    have hd : ((r : Int) != (r' : Int)) = true := by simpa using fun e => hr (by exact_mod_cast e)
    clear hr
    go_enter Try.func8, Try.ntmps8
    go_wp2
    go_ret
    exact ⟨rfl, (below_alloc _ _).alloc (by simp) _⟩
  subst hr
  by_cases ht : t = t'
  case neg =>
    rw [decide_eq_false (fun e => ht (by injection e))]
    have hd : ((t : Int) != (t' : Int)) = true := by simpa using fun e => ht (by exact_mod_cast e)
    clear ht
    go_enter Try.func8, Try.ntmps8
    go_wp2
    go_ret
    exact ⟨rfl, (below_alloc _ _).alloc (by simp) _⟩
  subst ht
  obtain ⟨W, hW⟩ : ∃ W, W = (w.alloc (.cells #[.int .i64 k, .int .u64 x, .int .i64 p, .int .i64 o, .slice ab l.length cb, .slice sb u.length cs, .int .u64 n, .int .u64 r, .int .u64 t] 27)).alloc (.cells #[.int .i64 k, .int .u64 x, .int .i64 p, .int .i64 o, .slice ab' l'.length cb', .slice sb' u'.length cs', .int .u64 n, .int .u64 r, .int .u64 t] 27) := ⟨_, rfl⟩
  have hB : Below w.heap.size w W := by rw [hW]; exact below2 _ _ _
  have q1 := conv_str ab cb l W (bl.below hB)
  have q2 := conv_str ab' cb' l' W (bl'.below hB)
  have hs := str_beq l l'
  by_cases hl : l = l'
  · subst hl
    rw [show decide ((⟨k, x, p, o, l, u, n, r, t⟩ : Rec) = ⟨k, x, p, o, l, u', n, r, t⟩) = decide (u = u') from decide_eq_decide.2 ⟨fun e => by injection e, fun e => by rw [e]⟩]
    rw [hW] at q1 q2
    by_cases hlen : u.length = u'.length
    · rw [hlen] at q1 q2 hW ⊢
      have HL := Lib.hid hlen
      clear hlen
      go_enter Try.func8, Try.ntmps8
      go_wp2_with fail
      rw [← hW]
      have z1 : W.cell? ⟨w.heap.size, 5, none⟩ = some (.slice sb u'.length cs) := by rw [hW]; exact cell_of_row _ _ _ _ _ _ (old2 _ _ _)
      have z2 : W.cell? ⟨w.heap.size + 1, 5, none⟩ = some (.slice sb' u'.length cs') := by rw [hW]; exact cell_of_row _ _ _ _ _ _ (new2 _ _ _)
      have bu := bu.below hB
      have bu' := bu'.below hB
      clear q1 q2 hs hW bl bl'
      go_loopw [5] (fun i wr => ∃ k : Nat, k ≤ u'.length ∧ i = .int .i64 k ∧ Hid (u.take k = u'.take k) ∧ Below W.heap.size W wr) (fun i _ => u'.length - (intOf i).toNat)
      case atStart => exact ⟨0, by omega, rfl, by simp [Hid], Below.refl _ _⟩
      case round =>
        obtain ⟨k, hk, rfl, HT, hbel⟩ := hrel
        have z1 := Below.cellSome hbel z1
        have z2 := Below.cellSome hbel z2
        by_cases hlt : k < u'.length
        · obtain ⟨b1, o1, rfl⟩ := bu.ex (k := k) (by rw [HL.out]; exact hlt)
          obtain ⟨b2, o2, rfl⟩ := bu'.ex (k := k) (by omega)
          have c1 := (bu.below hbel).cell b1 o1 rfl k (by rw [HL.out]; exact hlt)
          have c2 := (bu'.below hbel).cell b2 o2 rfl k (by omega)
          have t1 := Lib.hid (take_snoc u k (by rw [HL.out]; exact hlt))
          have t2 := Lib.hid (take_snoc u' k (by omega))
          obtain ⟨x, hx⟩ : ∃ x, u[k]'(by rw [HL.out]; exact hlt) = x := ⟨_, rfl⟩
          obtain ⟨y, hy⟩ : ∃ y, u'[k]'(by omega) = y := ⟨_, rfl⟩
          rw [hx] at c1 t1
          rw [hy] at c2 t2
          have HX := Lib.hid hx
          have HY := Lib.hid hy
          clear hx hy
          by_cases hxy : x = y
          · subst hxy
            go_wp2_with fail
            go_big_region
            go_wp2_with fail
            go_roundw
            case rel => exact ⟨k + 1, by omega, by go_num, by rw [Hid, t1.out, t2.out, HT.out], hbel.drew⟩
            case measure => simp [intOf]; omega
          · have hne : ((x : Int) != (y : Int)) = true := by simpa using fun e => hxy (by exact_mod_cast e)
            have HN := Lib.hid hxy
            clear hxy
            have HE : u ≠ u' := by
              intro e
              have e1 := HX.out
              have e2 := HY.out
              apply HN.out
              rw [← e1, ← e2]
              simp [e]
            have HE := Lib.hid HE
            go_wp2_with fail
            go_big_region
            go_wp2_with fail
            go_ret
            exact ⟨by rw [decide_eq_false HE.out]; rfl, belT hB hbel.drew⟩
        · go_wp2_with fail
          go_ret
          refine ⟨?_, belT hB hbel⟩
          have e := HT.out
          rw [List.take_of_length_le (by have := HL.out; omega), List.take_of_length_le (by omega)] at e
          simp [e]
    · have hne : ((u.length : Int) != (u'.length : Int)) = true := by simpa using fun e => hlen (by exact_mod_cast e)
      rw [decide_eq_false (fun e => hlen (by rw [e]))]
      go_enter Try.func8, Try.ntmps8
      go_wp2_with fail
      go_ret
      exact ⟨rfl, below2 _ _ _⟩
  · rw [decide_eq_false (fun e => hl (by injection e))]
    rw [hW] at q1 q2
    rw [decide_eq_false hl] at hs
    obtain ⟨s1, hs1⟩ : ∃ s, str l = s := ⟨_, rfl⟩
    obtain ⟨s2, hs2⟩ : ∃ s, str l' = s := ⟨_, rfl⟩
    rw [hs1] at q1 hs
    rw [hs2] at q2 hs
    clear hs1 hs2 hl
    go_enter Try.func8, Try.ntmps8
    go_wp2_with fail
    go_ret
    exact ⟨rfl, below2 _ _ _⟩
end Go.Proofs.Ytokijkinlcdjeaa

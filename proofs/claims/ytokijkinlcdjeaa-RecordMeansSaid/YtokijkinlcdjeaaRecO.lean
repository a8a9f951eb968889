/- Records that come in, opened; RecordSame. -/
import Derived.Test.YtokijkinlcdjeaaRecN
import Derived.WalkKit
import Derived.ProofKit
import Derived.OpenShut
import Derived.ShutString
import Derived.ChangeOld
import Derived.Below
namespace Go.Proofs.Ytokijkinlcdjeaa
open Go.ChangeShapes Go.WideShapes Go.ChangeAt Go.RowKit WireM

theorem row_u64 {w : World} {a : Option Addr} {len cap : Nat} {zs : List Int} (h : (a = none ∧ len = 0 ∧ cap = 0 ∧ zs = []) ∨
    ∃ x, a = some x ∧ len ≤ cap ∧ cap ≤ maxLen ∧ zs.length = cap ∧ (∀ i, i < zs.length → w.cell? (x.add i) = some (.int .u64 (zs.getD i 0))) ∧ ∀ n ∈ zs, (Lit.int .u64 n).wf = true) :
    ∃ l : List Nat, l.length = len ∧ Us w a l ∧ len ≤ cap ∧ cap ≤ 9223372036854775807 ∧ (a = none → cap = 0) := by
  rcases h with ⟨rfl, rfl, rfl, rfl⟩ | ⟨x, rfl, hl, hm, hz, hc, hw⟩
  · exact ⟨[], rfl, ⟨fun h => absurd rfl h, fun b o e => by cases e⟩, Nat.le_refl _, by omega, fun _ => rfl⟩
  · have hlen : ((zs.take len).map fun z => z.toNat).length = len := by simp; omega
    have hsp : 0 < len → x.spot = none := fun h => by
      have := World.cell?_spot (hc 0 (by omega))
      simpa [Addr.add] using this
    refine ⟨_, hlen, ⟨fun hne => ?_, fun b o e i hi => ?_⟩, hl, by unfold maxLen at hm; omega, fun h => by cases h⟩
    · have hp : 0 < len := by
        rcases Nat.eq_zero_or_pos len with h0 | h0
        · exact absurd (List.eq_nil_of_length_eq_zero (hlen.trans h0)) hne
        · exact h0
      obtain ⟨b, o, s⟩ := x
      have := hsp hp
      simp only at this
      subst this
      exact ⟨b, o, rfl⟩
    · rw [hlen] at hi
      cases e
      have h1 := hc i (by omega)
      rw [Addr.add_mid] at h1
      rw [h1]
      have hmem : zs.getD i 0 ∈ zs := by
        rw [List.getD_eq_getElem?_getD, List.getElem?_eq_getElem (by omega : i < zs.length)]; simp
      have hwf := hw _ hmem
      simp [Lit.wf, IntKind.min, IntKind.max, IntKind.signed, IntKind.bits] at hwf
      congr 2
      rw [List.getElem_map, List.getElem_take]
      rw [List.getElem?_eq_getElem (by omega : i < zs.length)] at hwf
      rw [List.getD_eq_getElem?_getD, List.getElem?_eq_getElem (by omega : i < zs.length)]
      simp only [Option.getD_some] at hwf ⊢
      omega

variable {H : Type} {enc : TypeId × Value → H} {w : World} {base : Nat} {held : Bool}
theorem bytes_open {fuel : Nat} {a : Option Addr} {len cap : Nat} {x : DataW H × List MemPlace} (hf : DataW.trod enc Try.prog w base (fun _ => true) held fuel 24 (Value.slice a len cap).cells.toList = some x) :
    ∃ l : List UInt8, l.length = len ∧ Bs w a l ∧ len ≤ cap ∧ cap ≤ 9223372036854775807 ∧ (a = none → cap = 0) := by
  rcases open_ints Try.underlying24 Try.underlying5 (by kernel_rfl) hf with ⟨hcs, _⟩ | ⟨y, l, c, zs, hcs, _, hl, hm, hz, _, hcell, hwz⟩
  · simp [Value.cells] at hcs
    obtain ⟨rfl, rfl, rfl⟩ := hcs
    exact row_bytes (zs := []) (.inl ⟨rfl, rfl, rfl, rfl⟩)
  · simp [Value.cells] at hcs
    obtain ⟨rfl, rfl, rfl⟩ := hcs
    exact row_bytes (zs := zs) (.inr ⟨_, rfl, hl, hm, by simpa using hz, hcell, hwz⟩)
theorem bytes_open1 {fuel : Nat} {v : Value} {x : DataW H × List MemPlace} (hf : DataW.trod enc Try.prog w base (fun _ => true) held fuel 24 [v] = some x) :
    ∃ (l : List UInt8) (a : Option Addr) (c : Nat), v = .slice a l.length c ∧ Bs w a l ∧ l.length ≤ 9223372036854775807 ∧ (a = none → c = 0) := by
  rcases open_ints Try.underlying24 Try.underlying5 (by kernel_rfl) hf with ⟨hcs, _⟩ | ⟨y, l, c, zs, hcs, _, hl, hm, hz, _, hcell, hwz⟩
  · simp at hcs
    exact ⟨[], none, 0, hcs, ⟨fun h => absurd rfl h, fun b o e => by cases e⟩, by simp, fun _ => rfl⟩
  · simp at hcs
    obtain ⟨m, hm1, hm2, hm3, hm4, hm5⟩ := row_bytes (w := w) (a := some y) (len := l) (cap := c) (zs := zs) (.inr ⟨_, rfl, hl, hm, by simpa using hz, hcell, hwz⟩)
    exact ⟨m, some y, c, by rw [hm1]; exact hcs, hm2, by omega, fun e => by cases e⟩
theorem u64s_open1 {fuel : Nat} {v : Value} {x : DataW H × List MemPlace} (hf : DataW.trod enc Try.prog w base (fun _ => true) held fuel 25 [v] = some x) :
    ∃ (l : List Nat) (a : Option Addr) (c : Nat), v = .slice a l.length c ∧ Us w a l ∧ l.length ≤ 9223372036854775807 ∧ (a = none → c = 0) := by
  rcases open_ints Try.underlying25 Try.underlying23 (by kernel_rfl) hf with ⟨hcs, _⟩ | ⟨y, l, c, zs, hcs, _, hl, hm, hz, _, hcell, hwz⟩
  · simp at hcs
    exact ⟨[], none, 0, hcs, ⟨fun h => absurd rfl h, fun b o e => by cases e⟩, by simp, fun _ => rfl⟩
  · simp at hcs
    obtain ⟨m, hm1, hm2, hm3, hm4, hm5⟩ := row_u64 (w := w) (a := some y) (len := l) (cap := c) (zs := zs) (.inr ⟨_, rfl, hl, hm, by simpa using hz, hcell, hwz⟩)
    exact ⟨m, some y, c, by rw [hm1]; exact hcs, hm2, by omega, fun e => by cases e⟩
theorem open_u64 {fuel : Nat} {t : TypeId} {v : Value} {x : DataW H × List MemPlace} (ht : Try.prog.underlying t = some (.int .u64)) (hf : DataW.trod enc Try.prog w base (fun _ => true) held fuel t [v] = some x) : ∃ n : Nat, v = .int .u64 n ∧ n < 18446744073709551616 := by
  obtain ⟨z, e, _, wf⟩ := DataW.trod_int (x := x) ht hf
  have hz : 0 ≤ z ∧ z ≤ 18446744073709551615 := by
    simp [Lit.wf, IntKind.min, IntKind.max, IntKind.signed, IntKind.bits] at wf; omega
  refine ⟨z.toNat, ?_, by omega⟩
  have hzz : ((z.toNat : Nat) : Int) = z := by omega
  have E : v = .int .u64 z := by simpa using e
  rw [hzz]; exact E
theorem open_i64 {fuel : Nat} {t : TypeId} {v : Value} {x : DataW H × List MemPlace} (ht : Try.prog.underlying t = some (.int .i64)) (hf : DataW.trod enc Try.prog w base (fun _ => true) held fuel t [v] = some x) : ∃ n : Int, v = .int .i64 n ∧ -9223372036854775808 ≤ n ∧ n ≤ 9223372036854775807 := by
  obtain ⟨z, e, _, wf⟩ := DataW.trod_int (x := x) ht hf
  have hz : -9223372036854775808 ≤ z ∧ z ≤ 9223372036854775807 := by
    simp [Lit.wf, IntKind.min, IntKind.max, IntKind.signed, IntKind.bits] at wf; omega
  exact ⟨z, by simpa using e, hz⟩
theorem rec_open {r : Reach} {b0 : Nat} {v : Value} {d : DataW H} {p : List MemPlace} (hv : Value.okWide Try.prog w r b0 27 v) (h : DataW.Trod enc Try.prog w base (fun _ => true) held 27 v d p) :
    ∃ (R : Rec) (ab sb : Option Addr) (cb cs : Nat), v = rv R.kind R.xid R.page R.off ab R.bytes.length cb sb R.subs.length cs R.next R.redo R.tl ∧ RB w R ab sb cb cs := by
  obtain ⟨cs, rfl, hsz⟩ := okWide_struct Try.underlying27 hv
  obtain ⟨l⟩ := cs
  have hC : Try.prog.cellsOf 27 = 9 := by kernel_rfl
  match l, hsz.trans hC with
  | [c0, c1, c2, c3, c4, c5, c6, c7, c8], _ =>
    obtain ⟨fuel, hf⟩ := h
    obtain ⟨xs, n, _, hx, _, hlen, hg⟩ := DataW.trod_struct Try.underlying27 hf
    have C22 : Try.prog.cellsOf 22 = 1 := by kernel_rfl
    have C23 : Try.prog.cellsOf 23 = 1 := by kernel_rfl
    have C3 : Try.prog.cellsOf 3 = 1 := by kernel_rfl
    have C24 : Try.prog.cellsOf 24 = 1 := by kernel_rfl
    have C25 : Try.prog.cellsOf 25 = 1 := by kernel_rfl
    match xs, hlen with
    | [y0, y1, y2, y3, y4, y5, y6, y7, y8], _ =>
      have f0 : DataW.trod enc Try.prog w base (fun _ => true) held n 22 (([c0, c1, c2, c3, c4, c5, c6, c7, c8].drop 0).take (Try.prog.cellsOf 22)) = [y0, y1, y2, y3, y4, y5, y6, y7, y8][0]? := hg 0 _ rfl
      rw [C22] at f0
      obtain ⟨z0, e0, _⟩ := open_i64 Try.underlying22 (v := c0) (x := y0) f0
      have f1 : DataW.trod enc Try.prog w base (fun _ => true) held n 23 (([c0, c1, c2, c3, c4, c5, c6, c7, c8].drop 1).take (Try.prog.cellsOf 23)) = [y0, y1, y2, y3, y4, y5, y6, y7, y8][1]? := hg 1 _ rfl
      rw [C23] at f1
      obtain ⟨z1, e1, _⟩ := open_u64 Try.underlying23 (v := c1) (x := y1) f1
      have f2 : DataW.trod enc Try.prog w base (fun _ => true) held n 3 (([c0, c1, c2, c3, c4, c5, c6, c7, c8].drop 2).take (Try.prog.cellsOf 3)) = [y0, y1, y2, y3, y4, y5, y6, y7, y8][2]? := hg 2 _ rfl
      rw [C3] at f2
      obtain ⟨z2, e2, _⟩ := open_i64 Try.underlying3 (v := c2) (x := y2) f2
      have f3 : DataW.trod enc Try.prog w base (fun _ => true) held n 3 (([c0, c1, c2, c3, c4, c5, c6, c7, c8].drop 3).take (Try.prog.cellsOf 3)) = [y0, y1, y2, y3, y4, y5, y6, y7, y8][3]? := hg 3 _ rfl
      rw [C3] at f3
      obtain ⟨z3, e3, _⟩ := open_i64 Try.underlying3 (v := c3) (x := y3) f3
      have f4 : DataW.trod enc Try.prog w base (fun _ => true) held n 24 (([c0, c1, c2, c3, c4, c5, c6, c7, c8].drop 4).take (Try.prog.cellsOf 24)) = [y0, y1, y2, y3, y4, y5, y6, y7, y8][4]? := hg 4 _ rfl
      rw [C24] at f4
      obtain ⟨z4, a4, k4, e4, B4, l4, n4⟩ := bytes_open1 (v := c4) (x := y4) f4
      have f5 : DataW.trod enc Try.prog w base (fun _ => true) held n 25 (([c0, c1, c2, c3, c4, c5, c6, c7, c8].drop 5).take (Try.prog.cellsOf 25)) = [y0, y1, y2, y3, y4, y5, y6, y7, y8][5]? := hg 5 _ rfl
      rw [C25] at f5
      obtain ⟨z5, a5, k5, e5, B5, l5, n5⟩ := u64s_open1 (v := c5) (x := y5) f5
      have f6 : DataW.trod enc Try.prog w base (fun _ => true) held n 23 (([c0, c1, c2, c3, c4, c5, c6, c7, c8].drop 6).take (Try.prog.cellsOf 23)) = [y0, y1, y2, y3, y4, y5, y6, y7, y8][6]? := hg 6 _ rfl
      rw [C23] at f6
      obtain ⟨z6, e6, _⟩ := open_u64 Try.underlying23 (v := c6) (x := y6) f6
      have f7 : DataW.trod enc Try.prog w base (fun _ => true) held n 23 (([c0, c1, c2, c3, c4, c5, c6, c7, c8].drop 7).take (Try.prog.cellsOf 23)) = [y0, y1, y2, y3, y4, y5, y6, y7, y8][7]? := hg 7 _ rfl
      rw [C23] at f7
      obtain ⟨z7, e7, _⟩ := open_u64 Try.underlying23 (v := c7) (x := y7) f7
      have f8 : DataW.trod enc Try.prog w base (fun _ => true) held n 23 (([c0, c1, c2, c3, c4, c5, c6, c7, c8].drop 8).take (Try.prog.cellsOf 23)) = [y0, y1, y2, y3, y4, y5, y6, y7, y8][8]? := hg 8 _ rfl
      rw [C23] at f8
      obtain ⟨z8, e8, _⟩ := open_u64 Try.underlying23 (v := c8) (x := y8) f8
      subst e0 e1 e2 e3 e4 e5 e6 e7 e8
      exact ⟨⟨z0, z1, z2, z3, z4, z5, z6, z7, z8⟩, a4, a5, k4, k5, rfl, ⟨B4, B5, l4, l5, n4, n5⟩⟩


def MuchB (R : Rec) : Bool := decide (70000 < R.bytes.length) || decide (9000 < R.subs.length)
set_option maxRecDepth 100000 in
set_option maxHeartbeats 8000000 in
theorem same_any (k1 : Int) (x1 : Nat) (p1 o1 : Int) (ab1 sb1 : Option Addr) (cb1 cs1 : Nat) (l1 : List UInt8) (u1 : List Nat) (n1 r1 t1 : Nat) (k2 : Int) (x2 : Nat) (p2 o2 : Int) (ab2 sb2 : Option Addr) (cb2 cs2 : Nat) (l2 : List UInt8) (u2 : List Nat) (n2 r2 t2 : Nat) (w : World) (ha : RB w ⟨k1, x1, p1, o1, l1, u1, n1, r1, t1⟩ ab1 sb1 cb1 cs1) (hb : RB w ⟨k2, x2, p2, o2, l2, u2, n2, r2, t2⟩ ab2 sb2 cb2 cs2) :
    Calls Try.prog 3 #[rv k1 x1 p1 o1 ab1 l1.length cb1 sb1 u1.length cs1 n1 r1 t1, rv k2 x2 p2 o2 ab2 l2.length cb2 sb2 u2.length cs2 n2 r2 t2] w fun e w' => e = .returned (.bool true) ∧ Below w.heap.size w w' := by
  obtain ⟨m1, hm1⟩ : ∃ m, (decide (70000 < l1.length) || decide (9000 < u1.length)) = m := ⟨_, rfl⟩
  obtain ⟨m2, hm2⟩ : ∃ m, (decide (70000 < l2.length) || decide (9000 < u2.length)) = m := ⟨_, rfl⟩
  have M1 := Lib.hid (fun w => MuchF k1 x1 p1 o1 ab1 sb1 cb1 cs1 l1 u1 n1 r1 t1 w)
  have M2 := Lib.hid (fun w => MuchF k2 x2 p2 o2 ab2 sb2 cb2 cs2 l2 u2 n2 r2 t2 w)
  rw [hm1] at M1
  rw [hm2] at M2
  obtain ⟨W, hW⟩ : ∃ W, W = (w.alloc (.cells #[.int .i64 k1, .int .u64 x1, .int .i64 p1, .int .i64 o1, .slice ab1 l1.length cb1, .slice sb1 u1.length cs1, .int .u64 n1, .int .u64 r1, .int .u64 t1] 27)).alloc (.cells #[.int .i64 k2, .int .u64 x2, .int .i64 p2, .int .i64 o2, .slice ab2 l2.length cb2, .slice sb2 u2.length cs2, .int .u64 n2, .int .u64 r2, .int .u64 t2] 27) := ⟨_, rfl⟩
  have hB0 : Below w.heap.size w W := by rw [hW]; exact below2 w _ _
  have hG1 : W.heap[w.heap.size]? = some (.cells #[.int .i64 k1, .int .u64 x1, .int .i64 p1, .int .i64 o1, .slice ab1 l1.length cb1, .slice sb1 u1.length cs1, .int .u64 n1, .int .u64 r1, .int .u64 t1] 27 (0, 0)) := by rw [hW]; exact heap_alloc2_old _ _ _
  have hG2 : W.heap[w.heap.size + 1]? = some (.cells #[.int .i64 k2, .int .u64 x2, .int .i64 p2, .int .i64 o2, .slice ab2 l2.length cb2, .slice sb2 u2.length cs2, .int .u64 n2, .int .u64 r2, .int .u64 t2] 27 (0, 0)) := by rw [hW]; exact heap_alloc2_new _ _ _
  have hsz : w.heap.size + 1 < W.heap.size := by rw [hW]; simp
  have KF0 : ∀ w', Below W.heap.size W w' → ((loadVar 27 ⟨(w.heap.size), 0, none⟩).run Try.prog w' = .ok (rv k1 x1 p1 o1 ab1 l1.length cb1 sb1 u1.length cs1 n1 r1 t1) w' ∧ w'.cell? ⟨(w.heap.size), 0, none⟩ = some (.int .i64 k1) ∧ w'.cell? ⟨(w.heap.size), 1, none⟩ = some (.int .u64 x1) ∧ w'.cell? ⟨(w.heap.size), 2, none⟩ = some (.int .i64 p1) ∧ w'.cell? ⟨(w.heap.size), 3, none⟩ = some (.int .i64 o1) ∧ w'.cell? ⟨(w.heap.size), 4, none⟩ = some (.slice ab1 l1.length cb1) ∧ w'.cell? ⟨(w.heap.size), 5, none⟩ = some (.slice sb1 u1.length cs1) ∧ w'.cell? ⟨(w.heap.size), 6, none⟩ = some (.int .u64 n1) ∧ w'.cell? ⟨(w.heap.size), 7, none⟩ = some (.int .u64 r1) ∧ w'.cell? ⟨(w.heap.size), 8, none⟩ = some (.int .u64 t1)) ∧ ((loadVar 27 ⟨(w.heap.size + 1), 0, none⟩).run Try.prog w' = .ok (rv k2 x2 p2 o2 ab2 l2.length cb2 sb2 u2.length cs2 n2 r2 t2) w' ∧ w'.cell? ⟨(w.heap.size + 1), 0, none⟩ = some (.int .i64 k2) ∧ w'.cell? ⟨(w.heap.size + 1), 1, none⟩ = some (.int .u64 x2) ∧ w'.cell? ⟨(w.heap.size + 1), 2, none⟩ = some (.int .i64 p2) ∧ w'.cell? ⟨(w.heap.size + 1), 3, none⟩ = some (.int .i64 o2) ∧ w'.cell? ⟨(w.heap.size + 1), 4, none⟩ = some (.slice ab2 l2.length cb2) ∧ w'.cell? ⟨(w.heap.size + 1), 5, none⟩ = some (.slice sb2 u2.length cs2) ∧ w'.cell? ⟨(w.heap.size + 1), 6, none⟩ = some (.int .u64 n2) ∧ w'.cell? ⟨(w.heap.size + 1), 7, none⟩ = some (.int .u64 r2) ∧ w'.cell? ⟨(w.heap.size + 1), 8, none⟩ = some (.int .u64 t2)) := fun w' h => ⟨loads9 k1 x1 p1 o1 ab1 sb1 cb1 cs1 l1 u1 n1 r1 t1 _ w' ((h.block _ (by omega)).trans hG1), loads9 k2 x2 p2 o2 ab2 sb2 cb2 cs2 l2 u2 n2 r2 t2 _ w' ((h.block _ hsz).trans hG2)⟩
  have HK := Lib.hid KF0
  have HW := Lib.hid hW
  have hra := ha.below hB0
  have hrb := hb.below hB0
  clear hG1 hG2 hW KF0 hm1 hm2
  obtain ⟨⟨F0, F1, F2, F3, F4, F5, F6, F7, F8, F9⟩, ⟨G0, G1, G2, G3, G4, G5, G6, G7, G8, G9⟩⟩ := HK.out W (Below.refl _ _)
  have hra0 := ha
  have hrb0 := hb
  clear ha hb
  go_enter Try.func3, Try.ntmps3
  go_wp2_with fail
  rw [← HW.out]
  refine (M1.out _).mono ?_
  rintro e wa ⟨rfl, hba⟩
  clear F0 F1 F2 F3 F4 F5 F6 F7 F8 F9 G0 G1 G2 G3 G4 G5 G6 G7 G8 G9
  cases m1
  · obtain ⟨⟨F0, F1, F2, F3, F4, F5, F6, F7, F8, F9⟩, ⟨G0, G1, G2, G3, G4, G5, G6, G7, G8, G9⟩⟩ := HK.out wa hba
    go_wp2_with fail
    refine (M2.out _).mono ?_
    rintro e wb ⟨rfl, hbb'⟩
    have hbb := belT hba hbb'
    clear F0 F1 F2 F3 F4 F5 F6 F7 F8 F9 G0 G1 G2 G3 G4 G5 G6 G7 G8 G9 hbb'
    cases m2
    · go_wp2_with fail
      have KF0 : ∀ w', Below wb.heap.size wb w' → ((loadVar 27 ⟨(w.heap.size), 0, none⟩).run Try.prog w' = .ok (rv k1 x1 p1 o1 ab1 l1.length cb1 sb1 u1.length cs1 n1 r1 t1) w' ∧ w'.cell? ⟨(w.heap.size), 0, none⟩ = some (.int .i64 k1) ∧ w'.cell? ⟨(w.heap.size), 1, none⟩ = some (.int .u64 x1) ∧ w'.cell? ⟨(w.heap.size), 2, none⟩ = some (.int .i64 p1) ∧ w'.cell? ⟨(w.heap.size), 3, none⟩ = some (.int .i64 o1) ∧ w'.cell? ⟨(w.heap.size), 4, none⟩ = some (.slice ab1 l1.length cb1) ∧ w'.cell? ⟨(w.heap.size), 5, none⟩ = some (.slice sb1 u1.length cs1) ∧ w'.cell? ⟨(w.heap.size), 6, none⟩ = some (.int .u64 n1) ∧ w'.cell? ⟨(w.heap.size), 7, none⟩ = some (.int .u64 r1) ∧ w'.cell? ⟨(w.heap.size), 8, none⟩ = some (.int .u64 t1)) ∧ ((loadVar 27 ⟨(w.heap.size + 1), 0, none⟩).run Try.prog w' = .ok (rv k2 x2 p2 o2 ab2 l2.length cb2 sb2 u2.length cs2 n2 r2 t2) w' ∧ w'.cell? ⟨(w.heap.size + 1), 0, none⟩ = some (.int .i64 k2) ∧ w'.cell? ⟨(w.heap.size + 1), 1, none⟩ = some (.int .u64 x2) ∧ w'.cell? ⟨(w.heap.size + 1), 2, none⟩ = some (.int .i64 p2) ∧ w'.cell? ⟨(w.heap.size + 1), 3, none⟩ = some (.int .i64 o2) ∧ w'.cell? ⟨(w.heap.size + 1), 4, none⟩ = some (.slice ab2 l2.length cb2) ∧ w'.cell? ⟨(w.heap.size + 1), 5, none⟩ = some (.slice sb2 u2.length cs2) ∧ w'.cell? ⟨(w.heap.size + 1), 6, none⟩ = some (.int .u64 n2) ∧ w'.cell? ⟨(w.heap.size + 1), 7, none⟩ = some (.int .u64 r2) ∧ w'.cell? ⟨(w.heap.size + 1), 8, none⟩ = some (.int .u64 t2)) := fun w' h => HK.out w' (belT hbb h)
      have KF : ∀ w', Below wb.drew.heap.size wb.drew w' → ((loadVar 27 ⟨(w.heap.size), 0, none⟩).run Try.prog w' = .ok (rv k1 x1 p1 o1 ab1 l1.length cb1 sb1 u1.length cs1 n1 r1 t1) w' ∧ w'.cell? ⟨(w.heap.size), 0, none⟩ = some (.int .i64 k1) ∧ w'.cell? ⟨(w.heap.size), 1, none⟩ = some (.int .u64 x1) ∧ w'.cell? ⟨(w.heap.size), 2, none⟩ = some (.int .i64 p1) ∧ w'.cell? ⟨(w.heap.size), 3, none⟩ = some (.int .i64 o1) ∧ w'.cell? ⟨(w.heap.size), 4, none⟩ = some (.slice ab1 l1.length cb1) ∧ w'.cell? ⟨(w.heap.size), 5, none⟩ = some (.slice sb1 u1.length cs1) ∧ w'.cell? ⟨(w.heap.size), 6, none⟩ = some (.int .u64 n1) ∧ w'.cell? ⟨(w.heap.size), 7, none⟩ = some (.int .u64 r1) ∧ w'.cell? ⟨(w.heap.size), 8, none⟩ = some (.int .u64 t1)) ∧ ((loadVar 27 ⟨(w.heap.size + 1), 0, none⟩).run Try.prog w' = .ok (rv k2 x2 p2 o2 ab2 l2.length cb2 sb2 u2.length cs2 n2 r2 t2) w' ∧ w'.cell? ⟨(w.heap.size + 1), 0, none⟩ = some (.int .i64 k2) ∧ w'.cell? ⟨(w.heap.size + 1), 1, none⟩ = some (.int .u64 x2) ∧ w'.cell? ⟨(w.heap.size + 1), 2, none⟩ = some (.int .i64 p2) ∧ w'.cell? ⟨(w.heap.size + 1), 3, none⟩ = some (.int .i64 o2) ∧ w'.cell? ⟨(w.heap.size + 1), 4, none⟩ = some (.slice ab2 l2.length cb2) ∧ w'.cell? ⟨(w.heap.size + 1), 5, none⟩ = some (.slice sb2 u2.length cs2) ∧ w'.cell? ⟨(w.heap.size + 1), 6, none⟩ = some (.int .u64 n2) ∧ w'.cell? ⟨(w.heap.size + 1), 7, none⟩ = some (.int .u64 r2) ∧ w'.cell? ⟨(w.heap.size + 1), 8, none⟩ = some (.int .u64 t2)) := fun w' h => KF0 w' (belT (Below.refl _ _).drew h)
      have hxx := belT hbb (Below.refl _ _).drew
      by_cases hEQ : (⟨k1, x1, p1, o1, l1, u1, n1, r1, t1⟩ : Rec) = ⟨k2, x2, p2, o2, l2, u2, n2, r2, t2⟩
      · have HE := Lib.hid hEQ
        clear hEQ
        refine seq_start 25 [false, false, false, false, false, false, false, false, false, false, false, false, false, false, false, false, false, false, false, false, false, false, false, false, false] (by kernel_rfl) rfl rfl ?_
        refine seq_take 0 (v := ?_) rfl (by kernel_rfl) (fun _ _ _ h => h) (Or.inl ⟨by rfl, fun w' hb => ?_⟩) ?_
        rotate_left
        · have kf := KF w' hb
          go_simp
          with_reducible rfl
        simp only [Act.put, List.setIfInBounds_toArray, List.set_cons_zero, List.set_cons_succ]
        refine seq_take 1 (v := ?_) rfl (by kernel_rfl) (fun _ _ _ h => h) (Or.inl ⟨by rfl, fun w' hb => ?_⟩) ?_
        rotate_left
        · have kf := KF w' hb
          go_simp
          with_reducible rfl
        simp only [Act.put, List.setIfInBounds_toArray, List.set_cons_zero, List.set_cons_succ]
        refine seq_take 3 (v := ?_) rfl (by kernel_rfl) (fun _ _ _ h => h) (Or.inl ⟨by rfl, fun w' hb => ?_⟩) ?_
        rotate_left
        · have kf := KF w' hb
          go_simp
          with_reducible rfl
        simp only [Act.put, List.setIfInBounds_toArray, List.set_cons_zero, List.set_cons_succ]
        refine seq_take 4 (v := ?_) rfl (by kernel_rfl) (fun _ _ _ h => h) (Or.inl ⟨by rfl, fun w' hb => ?_⟩) ?_
        rotate_left
        · have kf := KF w' hb
          go_simp
          with_reducible rfl
        simp only [Act.put, List.setIfInBounds_toArray, List.set_cons_zero, List.set_cons_succ]
        refine seq_do 2 rfl (by kernel_rfl) (fun K hK => ?_)
        go_simp
        refine (SameF k1 x1 p1 o1 ab1 sb1 cb1 cs1 l1 u1 n1 r1 t1 k2 x2 p2 o2 ab2 sb2 cb2 cs2 l2 u2 n2 r2 t2 _ (hra0.below (belT hB0 hxx)) (hrb0.below (belT hB0 hxx))).mono ?_
        rw [decide_eq_true HE.out]
        rintro e v1 ⟨rfl, hv1⟩
        refine hK.out _ _ hv1 ?_
        clear hK K
        simp only [List.set_cons_zero, List.set_cons_succ]
        replace hxx := belT hxx hv1
        replace KF : ∀ w', Below v1.heap.size v1 w' → ((loadVar 27 ⟨(w.heap.size), 0, none⟩).run Try.prog w' = .ok (rv k1 x1 p1 o1 ab1 l1.length cb1 sb1 u1.length cs1 n1 r1 t1) w' ∧ w'.cell? ⟨(w.heap.size), 0, none⟩ = some (.int .i64 k1) ∧ w'.cell? ⟨(w.heap.size), 1, none⟩ = some (.int .u64 x1) ∧ w'.cell? ⟨(w.heap.size), 2, none⟩ = some (.int .i64 p1) ∧ w'.cell? ⟨(w.heap.size), 3, none⟩ = some (.int .i64 o1) ∧ w'.cell? ⟨(w.heap.size), 4, none⟩ = some (.slice ab1 l1.length cb1) ∧ w'.cell? ⟨(w.heap.size), 5, none⟩ = some (.slice sb1 u1.length cs1) ∧ w'.cell? ⟨(w.heap.size), 6, none⟩ = some (.int .u64 n1) ∧ w'.cell? ⟨(w.heap.size), 7, none⟩ = some (.int .u64 r1) ∧ w'.cell? ⟨(w.heap.size), 8, none⟩ = some (.int .u64 t1)) ∧ ((loadVar 27 ⟨(w.heap.size + 1), 0, none⟩).run Try.prog w' = .ok (rv k2 x2 p2 o2 ab2 l2.length cb2 sb2 u2.length cs2 n2 r2 t2) w' ∧ w'.cell? ⟨(w.heap.size + 1), 0, none⟩ = some (.int .i64 k2) ∧ w'.cell? ⟨(w.heap.size + 1), 1, none⟩ = some (.int .u64 x2) ∧ w'.cell? ⟨(w.heap.size + 1), 2, none⟩ = some (.int .i64 p2) ∧ w'.cell? ⟨(w.heap.size + 1), 3, none⟩ = some (.int .i64 o2) ∧ w'.cell? ⟨(w.heap.size + 1), 4, none⟩ = some (.slice ab2 l2.length cb2) ∧ w'.cell? ⟨(w.heap.size + 1), 5, none⟩ = some (.slice sb2 u2.length cs2) ∧ w'.cell? ⟨(w.heap.size + 1), 6, none⟩ = some (.int .u64 n2) ∧ w'.cell? ⟨(w.heap.size + 1), 7, none⟩ = some (.int .u64 r2) ∧ w'.cell? ⟨(w.heap.size + 1), 8, none⟩ = some (.int .u64 t2)) := fun w' h => HK.out w' (belT hxx h)
        refine seq_do 5 rfl (by kernel_rfl) (fun K hK => ?_)
        go_simp
        refine (RSameF k1 x1 p1 o1 ab1 sb1 cb1 cs1 l1 u1 n1 r1 t1 k2 x2 p2 o2 ab2 sb2 cb2 cs2 l2 u2 n2 r2 t2 _ (hra0.below (belT hB0 hxx)) (hrb0.below (belT hB0 hxx))).mono ?_
        rw [decide_eq_true HE.out]
        rintro e v2 ⟨rfl, hv2⟩
        refine hK.out _ _ hv2 ?_
        clear hK K
        simp only [List.set_cons_zero, List.set_cons_succ]
        replace hxx := belT hxx hv2
        replace KF : ∀ w', Below v2.heap.size v2 w' → ((loadVar 27 ⟨(w.heap.size), 0, none⟩).run Try.prog w' = .ok (rv k1 x1 p1 o1 ab1 l1.length cb1 sb1 u1.length cs1 n1 r1 t1) w' ∧ w'.cell? ⟨(w.heap.size), 0, none⟩ = some (.int .i64 k1) ∧ w'.cell? ⟨(w.heap.size), 1, none⟩ = some (.int .u64 x1) ∧ w'.cell? ⟨(w.heap.size), 2, none⟩ = some (.int .i64 p1) ∧ w'.cell? ⟨(w.heap.size), 3, none⟩ = some (.int .i64 o1) ∧ w'.cell? ⟨(w.heap.size), 4, none⟩ = some (.slice ab1 l1.length cb1) ∧ w'.cell? ⟨(w.heap.size), 5, none⟩ = some (.slice sb1 u1.length cs1) ∧ w'.cell? ⟨(w.heap.size), 6, none⟩ = some (.int .u64 n1) ∧ w'.cell? ⟨(w.heap.size), 7, none⟩ = some (.int .u64 r1) ∧ w'.cell? ⟨(w.heap.size), 8, none⟩ = some (.int .u64 t1)) ∧ ((loadVar 27 ⟨(w.heap.size + 1), 0, none⟩).run Try.prog w' = .ok (rv k2 x2 p2 o2 ab2 l2.length cb2 sb2 u2.length cs2 n2 r2 t2) w' ∧ w'.cell? ⟨(w.heap.size + 1), 0, none⟩ = some (.int .i64 k2) ∧ w'.cell? ⟨(w.heap.size + 1), 1, none⟩ = some (.int .u64 x2) ∧ w'.cell? ⟨(w.heap.size + 1), 2, none⟩ = some (.int .i64 p2) ∧ w'.cell? ⟨(w.heap.size + 1), 3, none⟩ = some (.int .i64 o2) ∧ w'.cell? ⟨(w.heap.size + 1), 4, none⟩ = some (.slice ab2 l2.length cb2) ∧ w'.cell? ⟨(w.heap.size + 1), 5, none⟩ = some (.slice sb2 u2.length cs2) ∧ w'.cell? ⟨(w.heap.size + 1), 6, none⟩ = some (.int .u64 n2) ∧ w'.cell? ⟨(w.heap.size + 1), 7, none⟩ = some (.int .u64 r2) ∧ w'.cell? ⟨(w.heap.size + 1), 8, none⟩ = some (.int .u64 t2)) := fun w' h => HK.out w' (belT hxx h)
        refine seq_take 6 (v := ?_) rfl (by kernel_rfl) (fun _ _ _ h => h) (Or.inl ⟨by rfl, fun w' hb => ?_⟩) ?_
        rotate_left
        · have kf := KF w' hb
          go_simp
          with_reducible rfl
        simp only [Act.put, List.setIfInBounds_toArray, List.set_cons_zero, List.set_cons_succ]
        refine seq_take 7 (v := ?_) rfl (by kernel_rfl) (fun _ _ _ h => h) (Or.inl ⟨by rfl, fun w' hb => ?_⟩) ?_
        rotate_left
        · have kf := KF w' hb
          go_simp
          with_reducible rfl
        simp only [Act.put, List.setIfInBounds_toArray, List.set_cons_zero, List.set_cons_succ]
        refine seq_take 8 (v := ?_) rfl (by kernel_rfl) (fun _ _ _ h => h) (Or.inl ⟨by rfl, fun w' hb => ?_⟩) ?_
        rotate_left
        · have kf := KF w' hb
          go_simp
          with_reducible rfl
        simp only [Act.put, List.setIfInBounds_toArray, List.set_cons_zero, List.set_cons_succ]
        refine seq_take 9 (v := ?_) rfl (by kernel_rfl) (fun _ _ _ h => h) (Or.inl ⟨by rfl, fun w' hb => ?_⟩) ?_
        rotate_left
        · have kf := KF w' hb
          go_simp
          with_reducible rfl
        simp only [Act.put, List.setIfInBounds_toArray, List.set_cons_zero, List.set_cons_succ]
        refine seq_take 11 (v := ?_) rfl (by kernel_rfl) (fun _ _ _ h => h) (Or.inl ⟨by rfl, fun w' hb => ?_⟩) ?_
        rotate_left
        · have kf := KF w' hb
          go_simp
          with_reducible rfl
        simp only [Act.put, List.setIfInBounds_toArray, List.set_cons_zero, List.set_cons_succ]
        refine seq_take 12 (v := ?_) rfl (by kernel_rfl) (fun _ _ _ h => h) (Or.inl ⟨by rfl, fun w' hb => ?_⟩) ?_
        rotate_left
        · have kf := KF w' hb
          go_simp
          with_reducible rfl
        simp only [Act.put, List.setIfInBounds_toArray, List.set_cons_zero, List.set_cons_succ]
        refine seq_do 10 rfl (by kernel_rfl) (fun K hK => ?_)
        go_simp
        refine (SameF k2 x2 p2 o2 ab2 sb2 cb2 cs2 l2 u2 n2 r2 t2 k1 x1 p1 o1 ab1 sb1 cb1 cs1 l1 u1 n1 r1 t1 _ (hrb0.below (belT hB0 hxx)) (hra0.below (belT hB0 hxx))).mono ?_
        rw [decide_eq_true HE.out.symm]
        rintro e v3 ⟨rfl, hv3⟩
        refine hK.out _ _ hv3 ?_
        clear hK K
        simp only [List.set_cons_zero, List.set_cons_succ]
        replace hxx := belT hxx hv3
        replace KF : ∀ w', Below v3.heap.size v3 w' → ((loadVar 27 ⟨(w.heap.size), 0, none⟩).run Try.prog w' = .ok (rv k1 x1 p1 o1 ab1 l1.length cb1 sb1 u1.length cs1 n1 r1 t1) w' ∧ w'.cell? ⟨(w.heap.size), 0, none⟩ = some (.int .i64 k1) ∧ w'.cell? ⟨(w.heap.size), 1, none⟩ = some (.int .u64 x1) ∧ w'.cell? ⟨(w.heap.size), 2, none⟩ = some (.int .i64 p1) ∧ w'.cell? ⟨(w.heap.size), 3, none⟩ = some (.int .i64 o1) ∧ w'.cell? ⟨(w.heap.size), 4, none⟩ = some (.slice ab1 l1.length cb1) ∧ w'.cell? ⟨(w.heap.size), 5, none⟩ = some (.slice sb1 u1.length cs1) ∧ w'.cell? ⟨(w.heap.size), 6, none⟩ = some (.int .u64 n1) ∧ w'.cell? ⟨(w.heap.size), 7, none⟩ = some (.int .u64 r1) ∧ w'.cell? ⟨(w.heap.size), 8, none⟩ = some (.int .u64 t1)) ∧ ((loadVar 27 ⟨(w.heap.size + 1), 0, none⟩).run Try.prog w' = .ok (rv k2 x2 p2 o2 ab2 l2.length cb2 sb2 u2.length cs2 n2 r2 t2) w' ∧ w'.cell? ⟨(w.heap.size + 1), 0, none⟩ = some (.int .i64 k2) ∧ w'.cell? ⟨(w.heap.size + 1), 1, none⟩ = some (.int .u64 x2) ∧ w'.cell? ⟨(w.heap.size + 1), 2, none⟩ = some (.int .i64 p2) ∧ w'.cell? ⟨(w.heap.size + 1), 3, none⟩ = some (.int .i64 o2) ∧ w'.cell? ⟨(w.heap.size + 1), 4, none⟩ = some (.slice ab2 l2.length cb2) ∧ w'.cell? ⟨(w.heap.size + 1), 5, none⟩ = some (.slice sb2 u2.length cs2) ∧ w'.cell? ⟨(w.heap.size + 1), 6, none⟩ = some (.int .u64 n2) ∧ w'.cell? ⟨(w.heap.size + 1), 7, none⟩ = some (.int .u64 r2) ∧ w'.cell? ⟨(w.heap.size + 1), 8, none⟩ = some (.int .u64 t2)) := fun w' h => HK.out w' (belT hxx h)
        refine seq_do 13 rfl (by kernel_rfl) (fun K hK => ?_)
        go_simp
        refine (RSameF k1 x1 p1 o1 ab1 sb1 cb1 cs1 l1 u1 n1 r1 t1 k2 x2 p2 o2 ab2 sb2 cb2 cs2 l2 u2 n2 r2 t2 _ (hra0.below (belT hB0 hxx)) (hrb0.below (belT hB0 hxx))).mono ?_
        rw [decide_eq_true HE.out]
        rintro e v4 ⟨rfl, hv4⟩
        refine hK.out _ _ hv4 ?_
        clear hK K
        simp only [List.set_cons_zero, List.set_cons_succ]
        replace hxx := belT hxx hv4
        replace KF : ∀ w', Below v4.heap.size v4 w' → ((loadVar 27 ⟨(w.heap.size), 0, none⟩).run Try.prog w' = .ok (rv k1 x1 p1 o1 ab1 l1.length cb1 sb1 u1.length cs1 n1 r1 t1) w' ∧ w'.cell? ⟨(w.heap.size), 0, none⟩ = some (.int .i64 k1) ∧ w'.cell? ⟨(w.heap.size), 1, none⟩ = some (.int .u64 x1) ∧ w'.cell? ⟨(w.heap.size), 2, none⟩ = some (.int .i64 p1) ∧ w'.cell? ⟨(w.heap.size), 3, none⟩ = some (.int .i64 o1) ∧ w'.cell? ⟨(w.heap.size), 4, none⟩ = some (.slice ab1 l1.length cb1) ∧ w'.cell? ⟨(w.heap.size), 5, none⟩ = some (.slice sb1 u1.length cs1) ∧ w'.cell? ⟨(w.heap.size), 6, none⟩ = some (.int .u64 n1) ∧ w'.cell? ⟨(w.heap.size), 7, none⟩ = some (.int .u64 r1) ∧ w'.cell? ⟨(w.heap.size), 8, none⟩ = some (.int .u64 t1)) ∧ ((loadVar 27 ⟨(w.heap.size + 1), 0, none⟩).run Try.prog w' = .ok (rv k2 x2 p2 o2 ab2 l2.length cb2 sb2 u2.length cs2 n2 r2 t2) w' ∧ w'.cell? ⟨(w.heap.size + 1), 0, none⟩ = some (.int .i64 k2) ∧ w'.cell? ⟨(w.heap.size + 1), 1, none⟩ = some (.int .u64 x2) ∧ w'.cell? ⟨(w.heap.size + 1), 2, none⟩ = some (.int .i64 p2) ∧ w'.cell? ⟨(w.heap.size + 1), 3, none⟩ = some (.int .i64 o2) ∧ w'.cell? ⟨(w.heap.size + 1), 4, none⟩ = some (.slice ab2 l2.length cb2) ∧ w'.cell? ⟨(w.heap.size + 1), 5, none⟩ = some (.slice sb2 u2.length cs2) ∧ w'.cell? ⟨(w.heap.size + 1), 6, none⟩ = some (.int .u64 n2) ∧ w'.cell? ⟨(w.heap.size + 1), 7, none⟩ = some (.int .u64 r2) ∧ w'.cell? ⟨(w.heap.size + 1), 8, none⟩ = some (.int .u64 t2)) := fun w' h => HK.out w' (belT hxx h)
        refine seq_take 14 (v := ?_) rfl (by kernel_rfl) (fun _ _ _ h => h) (Or.inl ⟨by rfl, fun w' hb => ?_⟩) ?_
        rotate_left
        · have kf := KF w' hb
          go_simp
          with_reducible rfl
        simp only [Act.put, List.setIfInBounds_toArray, List.set_cons_zero, List.set_cons_succ]
        refine seq_take 15 (v := ?_) rfl (by kernel_rfl) (fun _ _ _ h => h) (Or.inl ⟨by rfl, fun w' hb => ?_⟩) ?_
        rotate_left
        · have kf := KF w' hb
          go_simp
          with_reducible rfl
        simp only [Act.put, List.setIfInBounds_toArray, List.set_cons_zero, List.set_cons_succ]
        refine seq_take 16 (v := ?_) rfl (by kernel_rfl) (fun _ _ _ h => h) (Or.inl ⟨by rfl, fun w' hb => ?_⟩) ?_
        rotate_left
        · have kf := KF w' hb
          go_simp
          with_reducible rfl
        simp only [Act.put, List.setIfInBounds_toArray, List.set_cons_zero, List.set_cons_succ]
        refine seq_take 17 (v := ?_) rfl (by kernel_rfl) (fun _ _ _ h => h) (Or.inl ⟨by rfl, fun w' hb => ?_⟩) ?_
        rotate_left
        · have kf := KF w' hb
          go_simp
          with_reducible rfl
        simp only [Act.put, List.setIfInBounds_toArray, List.set_cons_zero, List.set_cons_succ]
        refine seq_take 18 (v := ?_) rfl (by kernel_rfl) (fun _ _ _ h => h) (Or.inl ⟨by rfl, fun w' hb => ?_⟩) ?_
        rotate_left
        · have kf := KF w' hb
          go_simp
          with_reducible rfl
        simp only [Act.put, List.setIfInBounds_toArray, List.set_cons_zero, List.set_cons_succ]
        refine seq_do 19 rfl (by kernel_rfl) (fun K hK => ?_)
        go_simp
        refine (SameF k1 x1 p1 o1 ab1 sb1 cb1 cs1 l1 u1 n1 r1 t1 k1 x1 p1 o1 ab1 sb1 cb1 cs1 l1 u1 n1 r1 t1 _ (hra0.below (belT hB0 hxx)) (hra0.below (belT hB0 hxx))).mono ?_
        rw [decide_eq_true rfl]
        rintro e v5 ⟨rfl, hv5⟩
        refine hK.out _ _ hv5 ?_
        clear hK K
        simp only [List.set_cons_zero, List.set_cons_succ]
        replace hxx := belT hxx hv5
        replace KF : ∀ w', Below v5.heap.size v5 w' → ((loadVar 27 ⟨(w.heap.size), 0, none⟩).run Try.prog w' = .ok (rv k1 x1 p1 o1 ab1 l1.length cb1 sb1 u1.length cs1 n1 r1 t1) w' ∧ w'.cell? ⟨(w.heap.size), 0, none⟩ = some (.int .i64 k1) ∧ w'.cell? ⟨(w.heap.size), 1, none⟩ = some (.int .u64 x1) ∧ w'.cell? ⟨(w.heap.size), 2, none⟩ = some (.int .i64 p1) ∧ w'.cell? ⟨(w.heap.size), 3, none⟩ = some (.int .i64 o1) ∧ w'.cell? ⟨(w.heap.size), 4, none⟩ = some (.slice ab1 l1.length cb1) ∧ w'.cell? ⟨(w.heap.size), 5, none⟩ = some (.slice sb1 u1.length cs1) ∧ w'.cell? ⟨(w.heap.size), 6, none⟩ = some (.int .u64 n1) ∧ w'.cell? ⟨(w.heap.size), 7, none⟩ = some (.int .u64 r1) ∧ w'.cell? ⟨(w.heap.size), 8, none⟩ = some (.int .u64 t1)) ∧ ((loadVar 27 ⟨(w.heap.size + 1), 0, none⟩).run Try.prog w' = .ok (rv k2 x2 p2 o2 ab2 l2.length cb2 sb2 u2.length cs2 n2 r2 t2) w' ∧ w'.cell? ⟨(w.heap.size + 1), 0, none⟩ = some (.int .i64 k2) ∧ w'.cell? ⟨(w.heap.size + 1), 1, none⟩ = some (.int .u64 x2) ∧ w'.cell? ⟨(w.heap.size + 1), 2, none⟩ = some (.int .i64 p2) ∧ w'.cell? ⟨(w.heap.size + 1), 3, none⟩ = some (.int .i64 o2) ∧ w'.cell? ⟨(w.heap.size + 1), 4, none⟩ = some (.slice ab2 l2.length cb2) ∧ w'.cell? ⟨(w.heap.size + 1), 5, none⟩ = some (.slice sb2 u2.length cs2) ∧ w'.cell? ⟨(w.heap.size + 1), 6, none⟩ = some (.int .u64 n2) ∧ w'.cell? ⟨(w.heap.size + 1), 7, none⟩ = some (.int .u64 r2) ∧ w'.cell? ⟨(w.heap.size + 1), 8, none⟩ = some (.int .u64 t2)) := fun w' h => HK.out w' (belT hxx h)
        refine seq_take 20 (v := ?_) rfl (by kernel_rfl) (fun _ _ _ h => h) (Or.inl ⟨by rfl, fun w' hb => ?_⟩) ?_
        rotate_left
        · have kf := KF w' hb
          go_simp
          with_reducible rfl
        simp only [Act.put, List.setIfInBounds_toArray, List.set_cons_zero, List.set_cons_succ]
        refine seq_take 21 (v := ?_) rfl (by kernel_rfl) (fun _ _ _ h => h) (Or.inl ⟨by rfl, fun w' hb => ?_⟩) ?_
        rotate_left
        · have kf := KF w' hb
          go_simp
          with_reducible rfl
        simp only [Act.put, List.setIfInBounds_toArray, List.set_cons_zero, List.set_cons_succ]
        refine seq_do 22 rfl (by kernel_rfl) (fun K hK => ?_)
        go_simp
        refine (knownF _).mono ?_
        rintro e v6 ⟨rfl, hv6⟩
        refine hK.out _ _ hv6 ?_
        clear hK K
        simp only [List.set_cons_zero, List.set_cons_succ]
        replace hxx := belT hxx hv6
        replace KF : ∀ w', Below v6.heap.size v6 w' → ((loadVar 27 ⟨(w.heap.size), 0, none⟩).run Try.prog w' = .ok (rv k1 x1 p1 o1 ab1 l1.length cb1 sb1 u1.length cs1 n1 r1 t1) w' ∧ w'.cell? ⟨(w.heap.size), 0, none⟩ = some (.int .i64 k1) ∧ w'.cell? ⟨(w.heap.size), 1, none⟩ = some (.int .u64 x1) ∧ w'.cell? ⟨(w.heap.size), 2, none⟩ = some (.int .i64 p1) ∧ w'.cell? ⟨(w.heap.size), 3, none⟩ = some (.int .i64 o1) ∧ w'.cell? ⟨(w.heap.size), 4, none⟩ = some (.slice ab1 l1.length cb1) ∧ w'.cell? ⟨(w.heap.size), 5, none⟩ = some (.slice sb1 u1.length cs1) ∧ w'.cell? ⟨(w.heap.size), 6, none⟩ = some (.int .u64 n1) ∧ w'.cell? ⟨(w.heap.size), 7, none⟩ = some (.int .u64 r1) ∧ w'.cell? ⟨(w.heap.size), 8, none⟩ = some (.int .u64 t1)) ∧ ((loadVar 27 ⟨(w.heap.size + 1), 0, none⟩).run Try.prog w' = .ok (rv k2 x2 p2 o2 ab2 l2.length cb2 sb2 u2.length cs2 n2 r2 t2) w' ∧ w'.cell? ⟨(w.heap.size + 1), 0, none⟩ = some (.int .i64 k2) ∧ w'.cell? ⟨(w.heap.size + 1), 1, none⟩ = some (.int .u64 x2) ∧ w'.cell? ⟨(w.heap.size + 1), 2, none⟩ = some (.int .i64 p2) ∧ w'.cell? ⟨(w.heap.size + 1), 3, none⟩ = some (.int .i64 o2) ∧ w'.cell? ⟨(w.heap.size + 1), 4, none⟩ = some (.slice ab2 l2.length cb2) ∧ w'.cell? ⟨(w.heap.size + 1), 5, none⟩ = some (.slice sb2 u2.length cs2) ∧ w'.cell? ⟨(w.heap.size + 1), 6, none⟩ = some (.int .u64 n2) ∧ w'.cell? ⟨(w.heap.size + 1), 7, none⟩ = some (.int .u64 r2) ∧ w'.cell? ⟨(w.heap.size + 1), 8, none⟩ = some (.int .u64 t2)) := fun w' h => HK.out w' (belT hxx h)
        refine seq_take 23 (v := ?_) rfl (by kernel_rfl) (fun _ _ _ h => h) (Or.inl ⟨by rfl, fun w' hb => ?_⟩) ?_
        rotate_left
        · have kf := KF w' hb
          go_simp
          with_reducible rfl
        simp only [Act.put, List.setIfInBounds_toArray, List.set_cons_zero, List.set_cons_succ]
        refine seq_take 24 (v := ?_) rfl (by kernel_rfl) (fun _ _ _ h => h) (Or.inl ⟨by rfl, fun w' hb => ?_⟩) ?_
        rotate_left
        · have kf := KF w' hb
          go_simp
          with_reducible rfl
        simp only [Act.put, List.setIfInBounds_toArray, List.set_cons_zero, List.set_cons_succ]
        refine seq_end (by kernel_rfl) ?_
        go_wp2_with fail
        go_ret
        exact ⟨rfl, belT hB0 hxx⟩
      · have HE := Lib.hid hEQ
        clear hEQ
        refine seq_start 25 [false, false, false, false, false, false, false, false, false, false, false, false, false, false, false, false, false, false, false, false, false, false, false, false, false] (by kernel_rfl) rfl rfl ?_
        refine seq_take 0 (v := ?_) rfl (by kernel_rfl) (fun _ _ _ h => h) (Or.inl ⟨by rfl, fun w' hb => ?_⟩) ?_
        rotate_left
        · have kf := KF w' hb
          go_simp
          with_reducible rfl
        simp only [Act.put, List.setIfInBounds_toArray, List.set_cons_zero, List.set_cons_succ]
        refine seq_take 1 (v := ?_) rfl (by kernel_rfl) (fun _ _ _ h => h) (Or.inl ⟨by rfl, fun w' hb => ?_⟩) ?_
        rotate_left
        · have kf := KF w' hb
          go_simp
          with_reducible rfl
        simp only [Act.put, List.setIfInBounds_toArray, List.set_cons_zero, List.set_cons_succ]
        refine seq_take 3 (v := ?_) rfl (by kernel_rfl) (fun _ _ _ h => h) (Or.inl ⟨by rfl, fun w' hb => ?_⟩) ?_
        rotate_left
        · have kf := KF w' hb
          go_simp
          with_reducible rfl
        simp only [Act.put, List.setIfInBounds_toArray, List.set_cons_zero, List.set_cons_succ]
        refine seq_take 4 (v := ?_) rfl (by kernel_rfl) (fun _ _ _ h => h) (Or.inl ⟨by rfl, fun w' hb => ?_⟩) ?_
        rotate_left
        · have kf := KF w' hb
          go_simp
          with_reducible rfl
        simp only [Act.put, List.setIfInBounds_toArray, List.set_cons_zero, List.set_cons_succ]
        refine seq_do 2 rfl (by kernel_rfl) (fun K hK => ?_)
        go_simp
        refine (SameF k1 x1 p1 o1 ab1 sb1 cb1 cs1 l1 u1 n1 r1 t1 k2 x2 p2 o2 ab2 sb2 cb2 cs2 l2 u2 n2 r2 t2 _ (hra0.below (belT hB0 hxx)) (hrb0.below (belT hB0 hxx))).mono ?_
        rw [decide_eq_false HE.out]
        rintro e v1 ⟨rfl, hv1⟩
        refine hK.out _ _ hv1 ?_
        clear hK K
        simp only [List.set_cons_zero, List.set_cons_succ]
        replace hxx := belT hxx hv1
        replace KF : ∀ w', Below v1.heap.size v1 w' → ((loadVar 27 ⟨(w.heap.size), 0, none⟩).run Try.prog w' = .ok (rv k1 x1 p1 o1 ab1 l1.length cb1 sb1 u1.length cs1 n1 r1 t1) w' ∧ w'.cell? ⟨(w.heap.size), 0, none⟩ = some (.int .i64 k1) ∧ w'.cell? ⟨(w.heap.size), 1, none⟩ = some (.int .u64 x1) ∧ w'.cell? ⟨(w.heap.size), 2, none⟩ = some (.int .i64 p1) ∧ w'.cell? ⟨(w.heap.size), 3, none⟩ = some (.int .i64 o1) ∧ w'.cell? ⟨(w.heap.size), 4, none⟩ = some (.slice ab1 l1.length cb1) ∧ w'.cell? ⟨(w.heap.size), 5, none⟩ = some (.slice sb1 u1.length cs1) ∧ w'.cell? ⟨(w.heap.size), 6, none⟩ = some (.int .u64 n1) ∧ w'.cell? ⟨(w.heap.size), 7, none⟩ = some (.int .u64 r1) ∧ w'.cell? ⟨(w.heap.size), 8, none⟩ = some (.int .u64 t1)) ∧ ((loadVar 27 ⟨(w.heap.size + 1), 0, none⟩).run Try.prog w' = .ok (rv k2 x2 p2 o2 ab2 l2.length cb2 sb2 u2.length cs2 n2 r2 t2) w' ∧ w'.cell? ⟨(w.heap.size + 1), 0, none⟩ = some (.int .i64 k2) ∧ w'.cell? ⟨(w.heap.size + 1), 1, none⟩ = some (.int .u64 x2) ∧ w'.cell? ⟨(w.heap.size + 1), 2, none⟩ = some (.int .i64 p2) ∧ w'.cell? ⟨(w.heap.size + 1), 3, none⟩ = some (.int .i64 o2) ∧ w'.cell? ⟨(w.heap.size + 1), 4, none⟩ = some (.slice ab2 l2.length cb2) ∧ w'.cell? ⟨(w.heap.size + 1), 5, none⟩ = some (.slice sb2 u2.length cs2) ∧ w'.cell? ⟨(w.heap.size + 1), 6, none⟩ = some (.int .u64 n2) ∧ w'.cell? ⟨(w.heap.size + 1), 7, none⟩ = some (.int .u64 r2) ∧ w'.cell? ⟨(w.heap.size + 1), 8, none⟩ = some (.int .u64 t2)) := fun w' h => HK.out w' (belT hxx h)
        refine seq_do 5 rfl (by kernel_rfl) (fun K hK => ?_)
        go_simp
        refine (RSameF k1 x1 p1 o1 ab1 sb1 cb1 cs1 l1 u1 n1 r1 t1 k2 x2 p2 o2 ab2 sb2 cb2 cs2 l2 u2 n2 r2 t2 _ (hra0.below (belT hB0 hxx)) (hrb0.below (belT hB0 hxx))).mono ?_
        rw [decide_eq_false HE.out]
        rintro e v2 ⟨rfl, hv2⟩
        refine hK.out _ _ hv2 ?_
        clear hK K
        simp only [List.set_cons_zero, List.set_cons_succ]
        replace hxx := belT hxx hv2
        replace KF : ∀ w', Below v2.heap.size v2 w' → ((loadVar 27 ⟨(w.heap.size), 0, none⟩).run Try.prog w' = .ok (rv k1 x1 p1 o1 ab1 l1.length cb1 sb1 u1.length cs1 n1 r1 t1) w' ∧ w'.cell? ⟨(w.heap.size), 0, none⟩ = some (.int .i64 k1) ∧ w'.cell? ⟨(w.heap.size), 1, none⟩ = some (.int .u64 x1) ∧ w'.cell? ⟨(w.heap.size), 2, none⟩ = some (.int .i64 p1) ∧ w'.cell? ⟨(w.heap.size), 3, none⟩ = some (.int .i64 o1) ∧ w'.cell? ⟨(w.heap.size), 4, none⟩ = some (.slice ab1 l1.length cb1) ∧ w'.cell? ⟨(w.heap.size), 5, none⟩ = some (.slice sb1 u1.length cs1) ∧ w'.cell? ⟨(w.heap.size), 6, none⟩ = some (.int .u64 n1) ∧ w'.cell? ⟨(w.heap.size), 7, none⟩ = some (.int .u64 r1) ∧ w'.cell? ⟨(w.heap.size), 8, none⟩ = some (.int .u64 t1)) ∧ ((loadVar 27 ⟨(w.heap.size + 1), 0, none⟩).run Try.prog w' = .ok (rv k2 x2 p2 o2 ab2 l2.length cb2 sb2 u2.length cs2 n2 r2 t2) w' ∧ w'.cell? ⟨(w.heap.size + 1), 0, none⟩ = some (.int .i64 k2) ∧ w'.cell? ⟨(w.heap.size + 1), 1, none⟩ = some (.int .u64 x2) ∧ w'.cell? ⟨(w.heap.size + 1), 2, none⟩ = some (.int .i64 p2) ∧ w'.cell? ⟨(w.heap.size + 1), 3, none⟩ = some (.int .i64 o2) ∧ w'.cell? ⟨(w.heap.size + 1), 4, none⟩ = some (.slice ab2 l2.length cb2) ∧ w'.cell? ⟨(w.heap.size + 1), 5, none⟩ = some (.slice sb2 u2.length cs2) ∧ w'.cell? ⟨(w.heap.size + 1), 6, none⟩ = some (.int .u64 n2) ∧ w'.cell? ⟨(w.heap.size + 1), 7, none⟩ = some (.int .u64 r2) ∧ w'.cell? ⟨(w.heap.size + 1), 8, none⟩ = some (.int .u64 t2)) := fun w' h => HK.out w' (belT hxx h)
        refine seq_take 6 (v := ?_) rfl (by kernel_rfl) (fun _ _ _ h => h) (Or.inl ⟨by rfl, fun w' hb => ?_⟩) ?_
        rotate_left
        · have kf := KF w' hb
          go_simp
          with_reducible rfl
        simp only [Act.put, List.setIfInBounds_toArray, List.set_cons_zero, List.set_cons_succ]
        refine seq_take 7 (v := ?_) rfl (by kernel_rfl) (fun _ _ _ h => h) (Or.inl ⟨by rfl, fun w' hb => ?_⟩) ?_
        rotate_left
        · have kf := KF w' hb
          go_simp
          with_reducible rfl
        simp only [Act.put, List.setIfInBounds_toArray, List.set_cons_zero, List.set_cons_succ]
        refine seq_take 8 (v := ?_) rfl (by kernel_rfl) (fun _ _ _ h => h) (Or.inl ⟨by rfl, fun w' hb => ?_⟩) ?_
        rotate_left
        · have kf := KF w' hb
          go_simp
          with_reducible rfl
        simp only [Act.put, List.setIfInBounds_toArray, List.set_cons_zero, List.set_cons_succ]
        refine seq_take 9 (v := ?_) rfl (by kernel_rfl) (fun _ _ _ h => h) (Or.inl ⟨by rfl, fun w' hb => ?_⟩) ?_
        rotate_left
        · have kf := KF w' hb
          go_simp
          with_reducible rfl
        simp only [Act.put, List.setIfInBounds_toArray, List.set_cons_zero, List.set_cons_succ]
        refine seq_take 11 (v := ?_) rfl (by kernel_rfl) (fun _ _ _ h => h) (Or.inl ⟨by rfl, fun w' hb => ?_⟩) ?_
        rotate_left
        · have kf := KF w' hb
          go_simp
          with_reducible rfl
        simp only [Act.put, List.setIfInBounds_toArray, List.set_cons_zero, List.set_cons_succ]
        refine seq_take 12 (v := ?_) rfl (by kernel_rfl) (fun _ _ _ h => h) (Or.inl ⟨by rfl, fun w' hb => ?_⟩) ?_
        rotate_left
        · have kf := KF w' hb
          go_simp
          with_reducible rfl
        simp only [Act.put, List.setIfInBounds_toArray, List.set_cons_zero, List.set_cons_succ]
        refine seq_do 10 rfl (by kernel_rfl) (fun K hK => ?_)
        go_simp
        refine (SameF k2 x2 p2 o2 ab2 sb2 cb2 cs2 l2 u2 n2 r2 t2 k1 x1 p1 o1 ab1 sb1 cb1 cs1 l1 u1 n1 r1 t1 _ (hrb0.below (belT hB0 hxx)) (hra0.below (belT hB0 hxx))).mono ?_
        rw [decide_eq_false (fun h => HE.out h.symm)]
        rintro e v3 ⟨rfl, hv3⟩
        refine hK.out _ _ hv3 ?_
        clear hK K
        simp only [List.set_cons_zero, List.set_cons_succ]
        replace hxx := belT hxx hv3
        replace KF : ∀ w', Below v3.heap.size v3 w' → ((loadVar 27 ⟨(w.heap.size), 0, none⟩).run Try.prog w' = .ok (rv k1 x1 p1 o1 ab1 l1.length cb1 sb1 u1.length cs1 n1 r1 t1) w' ∧ w'.cell? ⟨(w.heap.size), 0, none⟩ = some (.int .i64 k1) ∧ w'.cell? ⟨(w.heap.size), 1, none⟩ = some (.int .u64 x1) ∧ w'.cell? ⟨(w.heap.size), 2, none⟩ = some (.int .i64 p1) ∧ w'.cell? ⟨(w.heap.size), 3, none⟩ = some (.int .i64 o1) ∧ w'.cell? ⟨(w.heap.size), 4, none⟩ = some (.slice ab1 l1.length cb1) ∧ w'.cell? ⟨(w.heap.size), 5, none⟩ = some (.slice sb1 u1.length cs1) ∧ w'.cell? ⟨(w.heap.size), 6, none⟩ = some (.int .u64 n1) ∧ w'.cell? ⟨(w.heap.size), 7, none⟩ = some (.int .u64 r1) ∧ w'.cell? ⟨(w.heap.size), 8, none⟩ = some (.int .u64 t1)) ∧ ((loadVar 27 ⟨(w.heap.size + 1), 0, none⟩).run Try.prog w' = .ok (rv k2 x2 p2 o2 ab2 l2.length cb2 sb2 u2.length cs2 n2 r2 t2) w' ∧ w'.cell? ⟨(w.heap.size + 1), 0, none⟩ = some (.int .i64 k2) ∧ w'.cell? ⟨(w.heap.size + 1), 1, none⟩ = some (.int .u64 x2) ∧ w'.cell? ⟨(w.heap.size + 1), 2, none⟩ = some (.int .i64 p2) ∧ w'.cell? ⟨(w.heap.size + 1), 3, none⟩ = some (.int .i64 o2) ∧ w'.cell? ⟨(w.heap.size + 1), 4, none⟩ = some (.slice ab2 l2.length cb2) ∧ w'.cell? ⟨(w.heap.size + 1), 5, none⟩ = some (.slice sb2 u2.length cs2) ∧ w'.cell? ⟨(w.heap.size + 1), 6, none⟩ = some (.int .u64 n2) ∧ w'.cell? ⟨(w.heap.size + 1), 7, none⟩ = some (.int .u64 r2) ∧ w'.cell? ⟨(w.heap.size + 1), 8, none⟩ = some (.int .u64 t2)) := fun w' h => HK.out w' (belT hxx h)
        refine seq_do 13 rfl (by kernel_rfl) (fun K hK => ?_)
        go_simp
        refine (RSameF k1 x1 p1 o1 ab1 sb1 cb1 cs1 l1 u1 n1 r1 t1 k2 x2 p2 o2 ab2 sb2 cb2 cs2 l2 u2 n2 r2 t2 _ (hra0.below (belT hB0 hxx)) (hrb0.below (belT hB0 hxx))).mono ?_
        rw [decide_eq_false HE.out]
        rintro e v4 ⟨rfl, hv4⟩
        refine hK.out _ _ hv4 ?_
        clear hK K
        simp only [List.set_cons_zero, List.set_cons_succ]
        replace hxx := belT hxx hv4
        replace KF : ∀ w', Below v4.heap.size v4 w' → ((loadVar 27 ⟨(w.heap.size), 0, none⟩).run Try.prog w' = .ok (rv k1 x1 p1 o1 ab1 l1.length cb1 sb1 u1.length cs1 n1 r1 t1) w' ∧ w'.cell? ⟨(w.heap.size), 0, none⟩ = some (.int .i64 k1) ∧ w'.cell? ⟨(w.heap.size), 1, none⟩ = some (.int .u64 x1) ∧ w'.cell? ⟨(w.heap.size), 2, none⟩ = some (.int .i64 p1) ∧ w'.cell? ⟨(w.heap.size), 3, none⟩ = some (.int .i64 o1) ∧ w'.cell? ⟨(w.heap.size), 4, none⟩ = some (.slice ab1 l1.length cb1) ∧ w'.cell? ⟨(w.heap.size), 5, none⟩ = some (.slice sb1 u1.length cs1) ∧ w'.cell? ⟨(w.heap.size), 6, none⟩ = some (.int .u64 n1) ∧ w'.cell? ⟨(w.heap.size), 7, none⟩ = some (.int .u64 r1) ∧ w'.cell? ⟨(w.heap.size), 8, none⟩ = some (.int .u64 t1)) ∧ ((loadVar 27 ⟨(w.heap.size + 1), 0, none⟩).run Try.prog w' = .ok (rv k2 x2 p2 o2 ab2 l2.length cb2 sb2 u2.length cs2 n2 r2 t2) w' ∧ w'.cell? ⟨(w.heap.size + 1), 0, none⟩ = some (.int .i64 k2) ∧ w'.cell? ⟨(w.heap.size + 1), 1, none⟩ = some (.int .u64 x2) ∧ w'.cell? ⟨(w.heap.size + 1), 2, none⟩ = some (.int .i64 p2) ∧ w'.cell? ⟨(w.heap.size + 1), 3, none⟩ = some (.int .i64 o2) ∧ w'.cell? ⟨(w.heap.size + 1), 4, none⟩ = some (.slice ab2 l2.length cb2) ∧ w'.cell? ⟨(w.heap.size + 1), 5, none⟩ = some (.slice sb2 u2.length cs2) ∧ w'.cell? ⟨(w.heap.size + 1), 6, none⟩ = some (.int .u64 n2) ∧ w'.cell? ⟨(w.heap.size + 1), 7, none⟩ = some (.int .u64 r2) ∧ w'.cell? ⟨(w.heap.size + 1), 8, none⟩ = some (.int .u64 t2)) := fun w' h => HK.out w' (belT hxx h)
        refine seq_take 14 (v := ?_) rfl (by kernel_rfl) (fun _ _ _ h => h) (Or.inl ⟨by rfl, fun w' hb => ?_⟩) ?_
        rotate_left
        · have kf := KF w' hb
          go_simp
          with_reducible rfl
        simp only [Act.put, List.setIfInBounds_toArray, List.set_cons_zero, List.set_cons_succ]
        refine seq_take 15 (v := ?_) rfl (by kernel_rfl) (fun _ _ _ h => h) (Or.inl ⟨by rfl, fun w' hb => ?_⟩) ?_
        rotate_left
        · have kf := KF w' hb
          go_simp
          with_reducible rfl
        simp only [Act.put, List.setIfInBounds_toArray, List.set_cons_zero, List.set_cons_succ]
        refine seq_take 16 (v := ?_) rfl (by kernel_rfl) (fun _ _ _ h => h) (Or.inl ⟨by rfl, fun w' hb => ?_⟩) ?_
        rotate_left
        · have kf := KF w' hb
          go_simp
          with_reducible rfl
        simp only [Act.put, List.setIfInBounds_toArray, List.set_cons_zero, List.set_cons_succ]
        refine seq_take 17 (v := ?_) rfl (by kernel_rfl) (fun _ _ _ h => h) (Or.inl ⟨by rfl, fun w' hb => ?_⟩) ?_
        rotate_left
        · have kf := KF w' hb
          go_simp
          with_reducible rfl
        simp only [Act.put, List.setIfInBounds_toArray, List.set_cons_zero, List.set_cons_succ]
        refine seq_take 18 (v := ?_) rfl (by kernel_rfl) (fun _ _ _ h => h) (Or.inl ⟨by rfl, fun w' hb => ?_⟩) ?_
        rotate_left
        · have kf := KF w' hb
          go_simp
          with_reducible rfl
        simp only [Act.put, List.setIfInBounds_toArray, List.set_cons_zero, List.set_cons_succ]
        refine seq_do 19 rfl (by kernel_rfl) (fun K hK => ?_)
        go_simp
        refine (SameF k1 x1 p1 o1 ab1 sb1 cb1 cs1 l1 u1 n1 r1 t1 k1 x1 p1 o1 ab1 sb1 cb1 cs1 l1 u1 n1 r1 t1 _ (hra0.below (belT hB0 hxx)) (hra0.below (belT hB0 hxx))).mono ?_
        rw [decide_eq_true rfl]
        rintro e v5 ⟨rfl, hv5⟩
        refine hK.out _ _ hv5 ?_
        clear hK K
        simp only [List.set_cons_zero, List.set_cons_succ]
        replace hxx := belT hxx hv5
        replace KF : ∀ w', Below v5.heap.size v5 w' → ((loadVar 27 ⟨(w.heap.size), 0, none⟩).run Try.prog w' = .ok (rv k1 x1 p1 o1 ab1 l1.length cb1 sb1 u1.length cs1 n1 r1 t1) w' ∧ w'.cell? ⟨(w.heap.size), 0, none⟩ = some (.int .i64 k1) ∧ w'.cell? ⟨(w.heap.size), 1, none⟩ = some (.int .u64 x1) ∧ w'.cell? ⟨(w.heap.size), 2, none⟩ = some (.int .i64 p1) ∧ w'.cell? ⟨(w.heap.size), 3, none⟩ = some (.int .i64 o1) ∧ w'.cell? ⟨(w.heap.size), 4, none⟩ = some (.slice ab1 l1.length cb1) ∧ w'.cell? ⟨(w.heap.size), 5, none⟩ = some (.slice sb1 u1.length cs1) ∧ w'.cell? ⟨(w.heap.size), 6, none⟩ = some (.int .u64 n1) ∧ w'.cell? ⟨(w.heap.size), 7, none⟩ = some (.int .u64 r1) ∧ w'.cell? ⟨(w.heap.size), 8, none⟩ = some (.int .u64 t1)) ∧ ((loadVar 27 ⟨(w.heap.size + 1), 0, none⟩).run Try.prog w' = .ok (rv k2 x2 p2 o2 ab2 l2.length cb2 sb2 u2.length cs2 n2 r2 t2) w' ∧ w'.cell? ⟨(w.heap.size + 1), 0, none⟩ = some (.int .i64 k2) ∧ w'.cell? ⟨(w.heap.size + 1), 1, none⟩ = some (.int .u64 x2) ∧ w'.cell? ⟨(w.heap.size + 1), 2, none⟩ = some (.int .i64 p2) ∧ w'.cell? ⟨(w.heap.size + 1), 3, none⟩ = some (.int .i64 o2) ∧ w'.cell? ⟨(w.heap.size + 1), 4, none⟩ = some (.slice ab2 l2.length cb2) ∧ w'.cell? ⟨(w.heap.size + 1), 5, none⟩ = some (.slice sb2 u2.length cs2) ∧ w'.cell? ⟨(w.heap.size + 1), 6, none⟩ = some (.int .u64 n2) ∧ w'.cell? ⟨(w.heap.size + 1), 7, none⟩ = some (.int .u64 r2) ∧ w'.cell? ⟨(w.heap.size + 1), 8, none⟩ = some (.int .u64 t2)) := fun w' h => HK.out w' (belT hxx h)
        refine seq_take 20 (v := ?_) rfl (by kernel_rfl) (fun _ _ _ h => h) (Or.inl ⟨by rfl, fun w' hb => ?_⟩) ?_
        rotate_left
        · have kf := KF w' hb
          go_simp
          with_reducible rfl
        simp only [Act.put, List.setIfInBounds_toArray, List.set_cons_zero, List.set_cons_succ]
        refine seq_take 21 (v := ?_) rfl (by kernel_rfl) (fun _ _ _ h => h) (Or.inl ⟨by rfl, fun w' hb => ?_⟩) ?_
        rotate_left
        · have kf := KF w' hb
          go_simp
          with_reducible rfl
        simp only [Act.put, List.setIfInBounds_toArray, List.set_cons_zero, List.set_cons_succ]
        refine seq_do 22 rfl (by kernel_rfl) (fun K hK => ?_)
        go_simp
        refine (knownF _).mono ?_
        rintro e v6 ⟨rfl, hv6⟩
        refine hK.out _ _ hv6 ?_
        clear hK K
        simp only [List.set_cons_zero, List.set_cons_succ]
        replace hxx := belT hxx hv6
        replace KF : ∀ w', Below v6.heap.size v6 w' → ((loadVar 27 ⟨(w.heap.size), 0, none⟩).run Try.prog w' = .ok (rv k1 x1 p1 o1 ab1 l1.length cb1 sb1 u1.length cs1 n1 r1 t1) w' ∧ w'.cell? ⟨(w.heap.size), 0, none⟩ = some (.int .i64 k1) ∧ w'.cell? ⟨(w.heap.size), 1, none⟩ = some (.int .u64 x1) ∧ w'.cell? ⟨(w.heap.size), 2, none⟩ = some (.int .i64 p1) ∧ w'.cell? ⟨(w.heap.size), 3, none⟩ = some (.int .i64 o1) ∧ w'.cell? ⟨(w.heap.size), 4, none⟩ = some (.slice ab1 l1.length cb1) ∧ w'.cell? ⟨(w.heap.size), 5, none⟩ = some (.slice sb1 u1.length cs1) ∧ w'.cell? ⟨(w.heap.size), 6, none⟩ = some (.int .u64 n1) ∧ w'.cell? ⟨(w.heap.size), 7, none⟩ = some (.int .u64 r1) ∧ w'.cell? ⟨(w.heap.size), 8, none⟩ = some (.int .u64 t1)) ∧ ((loadVar 27 ⟨(w.heap.size + 1), 0, none⟩).run Try.prog w' = .ok (rv k2 x2 p2 o2 ab2 l2.length cb2 sb2 u2.length cs2 n2 r2 t2) w' ∧ w'.cell? ⟨(w.heap.size + 1), 0, none⟩ = some (.int .i64 k2) ∧ w'.cell? ⟨(w.heap.size + 1), 1, none⟩ = some (.int .u64 x2) ∧ w'.cell? ⟨(w.heap.size + 1), 2, none⟩ = some (.int .i64 p2) ∧ w'.cell? ⟨(w.heap.size + 1), 3, none⟩ = some (.int .i64 o2) ∧ w'.cell? ⟨(w.heap.size + 1), 4, none⟩ = some (.slice ab2 l2.length cb2) ∧ w'.cell? ⟨(w.heap.size + 1), 5, none⟩ = some (.slice sb2 u2.length cs2) ∧ w'.cell? ⟨(w.heap.size + 1), 6, none⟩ = some (.int .u64 n2) ∧ w'.cell? ⟨(w.heap.size + 1), 7, none⟩ = some (.int .u64 r2) ∧ w'.cell? ⟨(w.heap.size + 1), 8, none⟩ = some (.int .u64 t2)) := fun w' h => HK.out w' (belT hxx h)
        refine seq_take 23 (v := ?_) rfl (by kernel_rfl) (fun _ _ _ h => h) (Or.inl ⟨by rfl, fun w' hb => ?_⟩) ?_
        rotate_left
        · have kf := KF w' hb
          go_simp
          with_reducible rfl
        simp only [Act.put, List.setIfInBounds_toArray, List.set_cons_zero, List.set_cons_succ]
        refine seq_take 24 (v := ?_) rfl (by kernel_rfl) (fun _ _ _ h => h) (Or.inl ⟨by rfl, fun w' hb => ?_⟩) ?_
        rotate_left
        · have kf := KF w' hb
          go_simp
          with_reducible rfl
        simp only [Act.put, List.setIfInBounds_toArray, List.set_cons_zero, List.set_cons_succ]
        refine seq_end (by kernel_rfl) ?_
        go_wp2_with fail
        go_ret
        exact ⟨rfl, belT hB0 hxx⟩
    · go_wp2_with (go_at_call 6; refine (knownF _).mono ?_; rintro e wc ⟨rfl, hbc⟩)
      go_ret
      exact ⟨rfl, belT hB0 (belT hbb hbc)⟩
  · go_wp2_with (go_at_call 6; refine (knownF _).mono ?_; rintro e wc ⟨rfl, hbc⟩)
    go_ret
    exact ⟨rfl, belT hB0 (belT hba hbc)⟩

end Go.Proofs.Ytokijkinlcdjeaa

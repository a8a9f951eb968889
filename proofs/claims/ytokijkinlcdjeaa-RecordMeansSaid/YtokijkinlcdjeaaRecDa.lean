/- May: which records may be. -/
import Derived.Test.YtokijkinlcdjeaaRecC
import Derived.Test.YtokijkinlcdjeaaSeq2
namespace Go.Proofs.Ytokijkinlcdjeaa
open Go.RowKit WireM

def bareR (r : Rec) : Rec := if r.kind = 1 then ⟨r.kind, r.xid, r.page, r.off, r.bytes, [], 0, 0, 0⟩ else if r.kind = 2 then ⟨r.kind, r.xid, r.page, 0, r.bytes, [], 0, 0, 0⟩ else if r.kind = 3 then ⟨r.kind, r.xid, 0, 0, [], r.subs, 0, 0, 0⟩ else if r.kind = 4 then ⟨r.kind, r.xid, 0, 0, [], r.subs, 0, 0, 0⟩ else if r.kind = 5 then ⟨r.kind, r.xid, 0, 0, [], [], 0, 0, 0⟩ else if r.kind = 6 then ⟨r.kind, 0, 0, 0, [], r.subs, r.next, 0, 0⟩ else if r.kind = 7 then ⟨r.kind, 0, 0, 0, [], [], r.next, r.redo, 0⟩ else if r.kind = 8 then ⟨r.kind, 0, 0, 0, [], [], 0, r.redo, r.tl⟩ else ⟨r.kind, 0, 0, 0, [], [], 0, 0, 0⟩
def kindB (r : Rec) : Bool :=
  if r.kind = 1 then decide (12 ≤ r.off ∧ 1 ≤ r.bytes.length ∧ r.bytes.length ≤ 1024 ∧ r.off ≤ 1024 - r.bytes.length) else
  if r.kind = 2 then decide (r.bytes.length = 1024) else
  if r.kind = 3 then decide (1 ≤ r.xid ∧ r.xid ≤ 4000) && (risingL r.xid 4001 r.subs && decide (r.subs.length ≤ 64)) else
  if r.kind = 4 then decide (1 ≤ r.xid ∧ r.xid ≤ 4000) && (risingL r.xid 4001 r.subs && decide (r.subs.length ≤ 64)) else
  if r.kind = 5 then true else
  if r.kind = 6 then decide (1 ≤ r.next ∧ r.next ≤ 4001) && (risingL 0 r.next r.subs && decide (r.subs.length ≤ 256)) else
  if r.kind = 7 then decide (1 ≤ r.next ∧ r.next ≤ 4001) else
  if r.kind = 8 then decide (1 ≤ r.tl ∧ r.tl ≤ 2147483647) else false
def mayB (r : Rec) : Bool := decide (r = bareR r) && (decide (0 ≤ r.page) && (decide (r.page < 128) && (decide (r.xid ≤ 4000) && (decide (r.redo ≤ 4611686018427387904) && kindB r))))
theorem RB.nil {w : World} (k : Int) (x : Nat) (p o : Int) (n r t : Nat) : RB w ⟨k, x, p, o, [], [], n, r, t⟩ none none 0 0 :=
  ⟨⟨fun h => absurd rfl h, fun b o e => by cases e⟩, ⟨fun h => absurd rfl h, fun b o e => by cases e⟩, by simp, by simp, fun _ => rfl, fun _ => rfl⟩
theorem RB.onlyB {w : World} {k : Int} {x : Nat} {p o : Int} {l : List UInt8} {u : List Nat} {n r t : Nat} {ab sb : Option Addr} {cb cs : Nat} (h : RB w ⟨k, x, p, o, l, u, n, r, t⟩ ab sb cb cs) (k' : Int) (x' : Nat) (p' o' : Int) (n' r' t' : Nat) :
    RB w ⟨k', x', p', o', l, [], n', r', t'⟩ ab none cb 0 := ⟨h.b, ⟨fun h => absurd rfl h, fun b o e => by cases e⟩, h.lb, by simp, h.nb, fun _ => rfl⟩
theorem RB.onlyS {w : World} {k : Int} {x : Nat} {p o : Int} {l : List UInt8} {u : List Nat} {n r t : Nat} {ab sb : Option Addr} {cb cs : Nat} (h : RB w ⟨k, x, p, o, l, u, n, r, t⟩ ab sb cb cs) (k' : Int) (x' : Nat) (p' o' : Int) (n' r' t' : Nat) :
    RB w ⟨k', x', p', o', [], u, n', r', t'⟩ none sb 0 cs := ⟨⟨fun h => absurd rfl h, fun b o e => by cases e⟩, h.s, by simp, h.ls, fun _ => rfl, h.ns⟩
def BareOut (e : Ending) (w' : World) (R : Rec) : Prop :=
  ∃ (k : Int) (x : Nat) (p o : Int) (ab sb : Option Addr) (cb cs : Nat) (l : List UInt8) (u : List Nat) (n r t : Nat), R = ⟨k, x, p, o, l, u, n, r, t⟩ ∧ e = .returned (rv k x p o ab l.length cb sb u.length cs n r t) ∧ RB w' ⟨k, x, p, o, l, u, n, r, t⟩ ab sb cb cs
theorem bareAny (k : Int) (x : Nat) (p o : Int) (ab sb : Option Addr) (cb cs : Nat) (l : List UInt8) (u : List Nat) (n r t : Nat) (w : World) (h : RB w ⟨k, x, p, o, l, u, n, r, t⟩ ab sb cb cs) :
    Calls Try.prog 23 #[rv k x p o ab l.length cb sb u.length cs n r t] w fun e w' => BareOut e w' (bareR ⟨k, x, p, o, l, u, n, r, t⟩) ∧ Below w.heap.size w w' := by
  by_cases h1 : k = 1
  · refine (bareF1 k h1 x p o ab sb cb cs l u n r t w).mono ?_
    rintro e w' ⟨rfl, hb⟩
    refine ⟨⟨_, _, _, _, _, _, _, _, l, [], _, _, _, ?_, rfl, (h.below hb).onlyB _ _ _ _ _ _ _⟩, hb⟩
    subst h1; rfl
  by_cases h2 : k = 2
  · refine (bareF2 k h2 x p o ab sb cb cs l u n r t w).mono ?_
    rintro e w' ⟨rfl, hb⟩
    refine ⟨⟨_, _, _, _, _, _, _, _, l, [], _, _, _, ?_, rfl, (h.below hb).onlyB _ _ _ _ _ _ _⟩, hb⟩
    subst h2; rfl
  by_cases h3 : k = 3
  · refine (bareF3 k h3 x p o ab sb cb cs l u n r t w).mono ?_
    rintro e w' ⟨rfl, hb⟩
    refine ⟨⟨_, _, _, _, _, _, _, _, [], u, _, _, _, ?_, rfl, (h.below hb).onlyS _ _ _ _ _ _ _⟩, hb⟩
    subst h3; rfl
  by_cases h4 : k = 4
  · refine (bareF4 k h4 x p o ab sb cb cs l u n r t w).mono ?_
    rintro e w' ⟨rfl, hb⟩
    refine ⟨⟨_, _, _, _, _, _, _, _, [], u, _, _, _, ?_, rfl, (h.below hb).onlyS _ _ _ _ _ _ _⟩, hb⟩
    subst h4; rfl
  by_cases h5 : k = 5
  · refine (bareF5 k h5 x p o ab sb cb cs l u n r t w).mono ?_
    rintro e w' ⟨rfl, hb⟩
    refine ⟨⟨_, _, _, _, _, _, _, _, [], [], _, _, _, ?_, rfl, RB.nil _ _ _ _ _ _ _⟩, hb⟩
    subst h5; rfl
  by_cases h6 : k = 6
  · refine (bareF6 k h6 x p o ab sb cb cs l u n r t w).mono ?_
    rintro e w' ⟨rfl, hb⟩
    refine ⟨⟨_, _, _, _, _, _, _, _, [], u, _, _, _, ?_, rfl, (h.below hb).onlyS _ _ _ _ _ _ _⟩, hb⟩
    subst h6; rfl
  by_cases h7 : k = 7
  · refine (bareF7 k h7 x p o ab sb cb cs l u n r t w).mono ?_
    rintro e w' ⟨rfl, hb⟩
    refine ⟨⟨_, _, _, _, _, _, _, _, [], [], _, _, _, ?_, rfl, RB.nil _ _ _ _ _ _ _⟩, hb⟩
    subst h7; rfl
  by_cases h8 : k = 8
  · refine (bareF8 k h8 x p o ab sb cb cs l u n r t w).mono ?_
    rintro e w' ⟨rfl, hb⟩
    refine ⟨⟨_, _, _, _, _, _, _, _, [], [], _, _, _, ?_, rfl, RB.nil _ _ _ _ _ _ _⟩, hb⟩
    subst h8; rfl
  refine (bareF0 k (by omega) x p o ab sb cb cs l u n r t w).mono ?_
  rintro e w' ⟨rfl, hb⟩
  refine ⟨⟨_, _, _, _, _, _, _, _, [], [], _, _, _, ?_, rfl, RB.nil _ _ _ _ _ _ _⟩, hb⟩
  simp only [bareR, h1, h2, h3, h4, h5, h6, h7, h8, if_false]
theorem loads9 (k : Int) (x : Nat) (p o : Int) (ab sb : Option Addr) (cb cs : Nat) (l : List UInt8) (u : List Nat) (n r t : Nat) (g : Nat) (w' : World) (h : w'.heap[g]? = some (.cells #[.int .i64 k, .int .u64 x, .int .i64 p, .int .i64 o, .slice ab l.length cb, .slice sb u.length cs, .int .u64 n, .int .u64 r, .int .u64 t] 27 (0, 0))) :
    (loadVar 27 ⟨g, 0, none⟩).run Try.prog w' = .ok (rv k x p o ab l.length cb sb u.length cs n r t) w' ∧ w'.cell? ⟨g, 0, none⟩ = some (.int .i64 k) ∧ w'.cell? ⟨g, 1, none⟩ = some (.int .u64 x) ∧ w'.cell? ⟨g, 2, none⟩ = some (.int .i64 p) ∧ w'.cell? ⟨g, 3, none⟩ = some (.int .i64 o) ∧ w'.cell? ⟨g, 4, none⟩ = some (.slice ab l.length cb) ∧ w'.cell? ⟨g, 5, none⟩ = some (.slice sb u.length cs) ∧ w'.cell? ⟨g, 6, none⟩ = some (.int .u64 n) ∧ w'.cell? ⟨g, 7, none⟩ = some (.int .u64 r) ∧ w'.cell? ⟨g, 8, none⟩ = some (.int .u64 t) :=
  ⟨run_loadVar_row w' g 27 27 _ (0, 0) _ h Try.underlying27 rfl (by rw [info27]; rfl), cell_of_row _ _ _ _ _ _ h, cell_of_row _ _ _ _ _ _ h, cell_of_row _ _ _ _ _ _ h, cell_of_row _ _ _ _ _ _ h, cell_of_row _ _ _ _ _ _ h, cell_of_row _ _ _ _ _ _ h, cell_of_row _ _ _ _ _ _ h, cell_of_row _ _ _ _ _ _ h, cell_of_row _ _ _ _ _ _ h⟩
set_option maxRecDepth 100000 in
set_option maxHeartbeats 8000000 in
theorem MayA (k : Int) (x : Nat) (p o : Int) (ab sb : Option Addr) (cb cs : Nat) (l : List UInt8) (u : List Nat) (n r t : Nat) (w : World) (ha : RB w ⟨k, x, p, o, l, u, n, r, t⟩ ab sb cb cs) (he : ⟨k, x, p, o, l, u, n, r, t⟩ ≠ bareR ⟨k, x, p, o, l, u, n, r, t⟩) :
    Calls Try.prog 16 #[rv k x p o ab l.length cb sb u.length cs n r t] w fun e w' => e = .returned (.bool (mayB ⟨k, x, p, o, l, u, n, r, t⟩)) ∧ Below w.heap.size w w' := by
  have HEq := Lib.hid he
  have hM : mayB ⟨k, x, p, o, l, u, n, r, t⟩ = false := by unfold mayB; rw [decide_eq_false he]; rfl
  clear he
  go_enter Try.func16, Try.ntmps16
  go_wp2_with fail
  obtain ⟨W, hW⟩ : ∃ W, W = w.alloc (.cells #[.int .i64 k, .int .u64 x, .int .i64 p, .int .i64 o, .slice ab l.length cb, .slice sb u.length cs, .int .u64 n, .int .u64 r, .int .u64 t] 27) := ⟨_, rfl⟩
  have hB0 : Below w.heap.size w W := by rw [hW]; exact below_alloc _ _
  have hG : W.heap[w.heap.size]? = some (.cells #[.int .i64 k, .int .u64 x, .int .i64 p, .int .i64 o, .slice ab l.length cb, .slice sb u.length cs, .int .u64 n, .int .u64 r, .int .u64 t] 27 (0, 0)) := by rw [hW]; exact heap_alloc_new _ _
  have hsz : w.heap.size < W.heap.size := by rw [hW]; simp
  rw [← hW]
  have KF0 : ∀ w', Below W.heap.size W w' → (loadVar 27 ⟨w.heap.size, 0, none⟩).run Try.prog w' = .ok (rv k x p o ab l.length cb sb u.length cs n r t) w' ∧ w'.cell? ⟨w.heap.size, 0, none⟩ = some (.int .i64 k) ∧ w'.cell? ⟨w.heap.size, 1, none⟩ = some (.int .u64 x) ∧ w'.cell? ⟨w.heap.size, 2, none⟩ = some (.int .i64 p) ∧ w'.cell? ⟨w.heap.size, 3, none⟩ = some (.int .i64 o) ∧ w'.cell? ⟨w.heap.size, 4, none⟩ = some (.slice ab l.length cb) ∧ w'.cell? ⟨w.heap.size, 5, none⟩ = some (.slice sb u.length cs) ∧ w'.cell? ⟨w.heap.size, 6, none⟩ = some (.int .u64 n) ∧ w'.cell? ⟨w.heap.size, 7, none⟩ = some (.int .u64 r) ∧ w'.cell? ⟨w.heap.size, 8, none⟩ = some (.int .u64 t) := fun w' h => loads9 k x p o ab sb cb cs l u n r t _ w' ((h.block _ hsz).trans hG)
  clear hW hG
  have KF : ∀ w', Below W.drew.heap.size W.drew w' → (loadVar 27 ⟨w.heap.size, 0, none⟩).run Try.prog w' = .ok (rv k x p o ab l.length cb sb u.length cs n r t) w' ∧ w'.cell? ⟨w.heap.size, 0, none⟩ = some (.int .i64 k) ∧ w'.cell? ⟨w.heap.size, 1, none⟩ = some (.int .u64 x) ∧ w'.cell? ⟨w.heap.size, 2, none⟩ = some (.int .i64 p) ∧ w'.cell? ⟨w.heap.size, 3, none⟩ = some (.int .i64 o) ∧ w'.cell? ⟨w.heap.size, 4, none⟩ = some (.slice ab l.length cb) ∧ w'.cell? ⟨w.heap.size, 5, none⟩ = some (.slice sb u.length cs) ∧ w'.cell? ⟨w.heap.size, 6, none⟩ = some (.int .u64 n) ∧ w'.cell? ⟨w.heap.size, 7, none⟩ = some (.int .u64 r) ∧ w'.cell? ⟨w.heap.size, 8, none⟩ = some (.int .u64 t) := fun w' h => KF0 w' (belT (Below.refl _ _).drew h)
  refine seq_start 25 [false, false, false, false, false, false, false, false, false, false, false, false, false, false, false, false, false, false, false, false, false, false, false, false, false] (by kernel_rfl) rfl rfl ?_
  refine seq_take 0 (v := ?_) rfl (by kernel_rfl) (fun _ _ _ h => h) (Or.inl ⟨by rfl, fun w' hb => ?_⟩) ?_
  rotate_left
  · have kf := KF w' hb
    go_simp
    with_reducible rfl
  simp only [Act.put, List.setIfInBounds_toArray, List.set_cons_zero, List.set_cons_succ]
  refine seq_take 1 (v := ?_) rfl (by kernel_rfl) (fun _ _ _ h => h) (Or.inl ⟨by rfl, fun w' hb => ?_⟩) ?_
  rotate_left
  · have kf := KF w' hb
    go_simp
    with_reducible rfl
  simp only [Act.put, List.setIfInBounds_toArray, List.set_cons_zero, List.set_cons_succ]
  refine seq_do 2 rfl (by kernel_rfl) (fun K hK => ?_)
  go_simp
  refine (bareAny k x p o ab sb cb cs l u n r t _ (ha.below (belT hB0 (Below.refl _ _).drew))).mono ?_
  rintro e w1 ⟨⟨k2, x2, p2, o2, ab2, sb2, cb2, cs2, l2, u2, n2, r2, t2, hR, rfl, hR2⟩, hb1⟩
  refine hK.out _ _ hb1 ?_
  clear hK K
  simp only [List.set_cons_zero, List.set_cons_succ]
  have hb1 := belT (Below.refl _ _).drew hb1
  replace KF : ∀ w', Below w1.heap.size w1 w' → (loadVar 27 ⟨w.heap.size, 0, none⟩).run Try.prog w' = .ok (rv k x p o ab l.length cb sb u.length cs n r t) w' ∧ w'.cell? ⟨w.heap.size, 0, none⟩ = some (.int .i64 k) ∧ w'.cell? ⟨w.heap.size, 1, none⟩ = some (.int .u64 x) ∧ w'.cell? ⟨w.heap.size, 2, none⟩ = some (.int .i64 p) ∧ w'.cell? ⟨w.heap.size, 3, none⟩ = some (.int .i64 o) ∧ w'.cell? ⟨w.heap.size, 4, none⟩ = some (.slice ab l.length cb) ∧ w'.cell? ⟨w.heap.size, 5, none⟩ = some (.slice sb u.length cs) ∧ w'.cell? ⟨w.heap.size, 6, none⟩ = some (.int .u64 n) ∧ w'.cell? ⟨w.heap.size, 7, none⟩ = some (.int .u64 r) ∧ w'.cell? ⟨w.heap.size, 8, none⟩ = some (.int .u64 t) := fun w' h => KF0 w' (belT hb1 h)
  refine seq_do 3 rfl (by kernel_rfl) (fun K hK => ?_)
  go_simp
  refine (SameF k x p o ab sb cb cs l u n r t k2 x2 p2 o2 ab2 sb2 cb2 cs2 l2 u2 n2 r2 t2 _ (ha.below (belT hB0 hb1)) hR2).mono ?_
  rw [← hR, decide_eq_false HEq.out]
  rintro e w2 ⟨rfl, hb2⟩
  refine hK.out _ _ hb2 ?_
  clear hK K
  simp only [List.set_cons_zero, List.set_cons_succ]
  have hb2 := belT hb1 hb2
  replace KF : ∀ w', Below w2.heap.size w2 w' → (loadVar 27 ⟨w.heap.size, 0, none⟩).run Try.prog w' = .ok (rv k x p o ab l.length cb sb u.length cs n r t) w' ∧ w'.cell? ⟨w.heap.size, 0, none⟩ = some (.int .i64 k) ∧ w'.cell? ⟨w.heap.size, 1, none⟩ = some (.int .u64 x) ∧ w'.cell? ⟨w.heap.size, 2, none⟩ = some (.int .i64 p) ∧ w'.cell? ⟨w.heap.size, 3, none⟩ = some (.int .i64 o) ∧ w'.cell? ⟨w.heap.size, 4, none⟩ = some (.slice ab l.length cb) ∧ w'.cell? ⟨w.heap.size, 5, none⟩ = some (.slice sb u.length cs) ∧ w'.cell? ⟨w.heap.size, 6, none⟩ = some (.int .u64 n) ∧ w'.cell? ⟨w.heap.size, 7, none⟩ = some (.int .u64 r) ∧ w'.cell? ⟨w.heap.size, 8, none⟩ = some (.int .u64 t) := fun w' h => KF0 w' (belT hb2 h)
  refine seq_take 4 (v := ?_) rfl (by kernel_rfl) (fun _ _ _ h => h) (Or.inl ⟨by rfl, fun w' hb => ?_⟩) ?_
  rotate_left
  · have kf := KF w' hb
    go_simp
    with_reducible rfl
  simp only [Act.put, List.setIfInBounds_toArray, List.set_cons_zero, List.set_cons_succ]
  refine seq_take 5 (v := ?_) rfl (by kernel_rfl) (fun _ _ _ h => h) (Or.inl ⟨by rfl, fun w' hb => ?_⟩) ?_
  rotate_left
  · have kf := KF w' hb
    go_simp
    with_reducible rfl
  simp only [Act.put, List.setIfInBounds_toArray, List.set_cons_zero, List.set_cons_succ]
  refine seq_take 6 (v := undef) rfl (by kernel_rfl) (fun _ _ _ h => h) (Or.inr ⟨by rfl, rfl⟩) ?_
  simp only [Act.put, List.setIfInBounds_toArray, List.set_cons_zero, List.set_cons_succ]
  refine seq_take 7 (v := undef) rfl (by kernel_rfl) (fun _ _ _ h => h) (Or.inr ⟨by rfl, rfl⟩) ?_
  simp only [Act.put, List.setIfInBounds_toArray, List.set_cons_zero, List.set_cons_succ]
  refine seq_take 8 (v := undef) rfl (by kernel_rfl) (fun _ _ _ h => h) (Or.inr ⟨by rfl, rfl⟩) ?_
  simp only [Act.put, List.setIfInBounds_toArray, List.set_cons_zero, List.set_cons_succ]
  refine seq_take 9 (v := ?_) rfl (by kernel_rfl) (fun _ _ _ h => h) (Or.inl ⟨by rfl, fun w' hb => ?_⟩) ?_
  rotate_left
  · have kf := KF w' hb
    go_simp
    with_reducible rfl
  simp only [Act.put, List.setIfInBounds_toArray, List.set_cons_zero, List.set_cons_succ]
  refine seq_take 10 (v := ?_) rfl (by kernel_rfl) (fun _ _ _ h => h) (Or.inl ⟨by rfl, fun w' hb => ?_⟩) ?_
  rotate_left
  · have kf := KF w' hb
    go_simp
    with_reducible rfl
  simp only [Act.put, List.setIfInBounds_toArray, List.set_cons_zero, List.set_cons_succ]
  refine seq_take 11 (v := undef) rfl (by kernel_rfl) (fun _ _ _ h => h) (Or.inr ⟨by rfl, rfl⟩) ?_
  simp only [Act.put, List.setIfInBounds_toArray, List.set_cons_zero, List.set_cons_succ]
  refine seq_take 12 (v := undef) rfl (by kernel_rfl) (fun _ _ _ h => h) (Or.inr ⟨by rfl, rfl⟩) ?_
  simp only [Act.put, List.setIfInBounds_toArray, List.set_cons_zero, List.set_cons_succ]
  refine seq_take 13 (v := undef) rfl (by kernel_rfl) (fun _ _ _ h => h) (Or.inr ⟨by rfl, rfl⟩) ?_
  simp only [Act.put, List.setIfInBounds_toArray, List.set_cons_zero, List.set_cons_succ]
  refine seq_take 14 (v := ?_) rfl (by kernel_rfl) (fun _ _ _ h => h) (Or.inl ⟨by rfl, fun w' hb => ?_⟩) ?_
  rotate_left
  · have kf := KF w' hb
    go_simp
    with_reducible rfl
  simp only [Act.put, List.setIfInBounds_toArray, List.set_cons_zero, List.set_cons_succ]
  refine seq_take 15 (v := ?_) rfl (by kernel_rfl) (fun _ _ _ h => h) (Or.inl ⟨by rfl, fun w' hb => ?_⟩) ?_
  rotate_left
  · have kf := KF w' hb
    go_simp
    with_reducible rfl
  simp only [Act.put, List.setIfInBounds_toArray, List.set_cons_zero, List.set_cons_succ]
  refine seq_take 16 (v := undef) rfl (by kernel_rfl) (fun _ _ _ h => h) (Or.inr ⟨by rfl, rfl⟩) ?_
  simp only [Act.put, List.setIfInBounds_toArray, List.set_cons_zero, List.set_cons_succ]
  refine seq_take 17 (v := undef) rfl (by kernel_rfl) (fun _ _ _ h => h) (Or.inr ⟨by rfl, rfl⟩) ?_
  simp only [Act.put, List.setIfInBounds_toArray, List.set_cons_zero, List.set_cons_succ]
  refine seq_take 18 (v := undef) rfl (by kernel_rfl) (fun _ _ _ h => h) (Or.inr ⟨by rfl, rfl⟩) ?_
  simp only [Act.put, List.setIfInBounds_toArray, List.set_cons_zero, List.set_cons_succ]
  refine seq_take 19 (v := ?_) rfl (by kernel_rfl) (fun _ _ _ h => h) (Or.inl ⟨by rfl, fun w' hb => ?_⟩) ?_
  rotate_left
  · have kf := KF w' hb
    go_simp
    with_reducible rfl
  simp only [Act.put, List.setIfInBounds_toArray, List.set_cons_zero, List.set_cons_succ]
  refine seq_take 20 (v := ?_) rfl (by kernel_rfl) (fun _ _ _ h => h) (Or.inl ⟨by rfl, fun w' hb => ?_⟩) ?_
  rotate_left
  · have kf := KF w' hb
    go_simp
    with_reducible rfl
  simp only [Act.put, List.setIfInBounds_toArray, List.set_cons_zero, List.set_cons_succ]
  refine seq_take 21 (v := undef) rfl (by kernel_rfl) (fun _ _ _ h => h) (Or.inr ⟨by rfl, rfl⟩) ?_
  simp only [Act.put, List.setIfInBounds_toArray, List.set_cons_zero, List.set_cons_succ]
  refine seq_take 22 (v := undef) rfl (by kernel_rfl) (fun _ _ _ h => h) (Or.inr ⟨by rfl, rfl⟩) ?_
  simp only [Act.put, List.setIfInBounds_toArray, List.set_cons_zero, List.set_cons_succ]
  refine seq_take 23 (v := undef) rfl (by kernel_rfl) (fun _ _ _ h => h) (Or.inr ⟨by rfl, rfl⟩) ?_
  simp only [Act.put, List.setIfInBounds_toArray, List.set_cons_zero, List.set_cons_succ]
  refine seq_take 24 (v := ?_) rfl (by kernel_rfl) (fun _ _ _ h => h) (Or.inl ⟨by rfl, fun w' hb => ?_⟩) ?_
  rotate_left
  · have kf := KF w' hb
    go_simp
    with_reducible rfl
  simp only [Act.put, List.setIfInBounds_toArray, List.set_cons_zero, List.set_cons_succ]
  refine seq_end (by kernel_rfl) ?_
  go_wp2_with fail
  go_ret
  exact ⟨by rw [hM]; rfl, belT hB0 hb2⟩
set_option maxRecDepth 100000 in
set_option maxHeartbeats 8000000 in
theorem MayB0 (k : Int) (x : Nat) (p o : Int) (ab sb : Option Addr) (cb cs : Nat) (l : List UInt8) (u : List Nat) (n r t : Nat) (w : World) (ha : RB w ⟨k, x, p, o, l, u, n, r, t⟩ ab sb cb cs) (he : ⟨k, x, p, o, l, u, n, r, t⟩ = bareR ⟨k, x, p, o, l, u, n, r, t⟩) (hp0 : ¬ 0 ≤ p) :
    Calls Try.prog 16 #[rv k x p o ab l.length cb sb u.length cs n r t] w fun e w' => e = .returned (.bool (mayB ⟨k, x, p, o, l, u, n, r, t⟩)) ∧ Below w.heap.size w w' := by
  have HEq := Lib.hid he
  have hM : mayB ⟨k, x, p, o, l, u, n, r, t⟩ = false := by unfold mayB; rw [decide_eq_true he]; simp only []; simp [hp0]
  clear he
  have hd0 : decide (p < 0) = true := by simp; omega
  go_enter Try.func16, Try.ntmps16
  go_wp2_with fail
  obtain ⟨W, hW⟩ : ∃ W, W = w.alloc (.cells #[.int .i64 k, .int .u64 x, .int .i64 p, .int .i64 o, .slice ab l.length cb, .slice sb u.length cs, .int .u64 n, .int .u64 r, .int .u64 t] 27) := ⟨_, rfl⟩
  have hB0 : Below w.heap.size w W := by rw [hW]; exact below_alloc _ _
  have hG : W.heap[w.heap.size]? = some (.cells #[.int .i64 k, .int .u64 x, .int .i64 p, .int .i64 o, .slice ab l.length cb, .slice sb u.length cs, .int .u64 n, .int .u64 r, .int .u64 t] 27 (0, 0)) := by rw [hW]; exact heap_alloc_new _ _
  have hsz : w.heap.size < W.heap.size := by rw [hW]; simp
  rw [← hW]
  have KF0 : ∀ w', Below W.heap.size W w' → (loadVar 27 ⟨w.heap.size, 0, none⟩).run Try.prog w' = .ok (rv k x p o ab l.length cb sb u.length cs n r t) w' ∧ w'.cell? ⟨w.heap.size, 0, none⟩ = some (.int .i64 k) ∧ w'.cell? ⟨w.heap.size, 1, none⟩ = some (.int .u64 x) ∧ w'.cell? ⟨w.heap.size, 2, none⟩ = some (.int .i64 p) ∧ w'.cell? ⟨w.heap.size, 3, none⟩ = some (.int .i64 o) ∧ w'.cell? ⟨w.heap.size, 4, none⟩ = some (.slice ab l.length cb) ∧ w'.cell? ⟨w.heap.size, 5, none⟩ = some (.slice sb u.length cs) ∧ w'.cell? ⟨w.heap.size, 6, none⟩ = some (.int .u64 n) ∧ w'.cell? ⟨w.heap.size, 7, none⟩ = some (.int .u64 r) ∧ w'.cell? ⟨w.heap.size, 8, none⟩ = some (.int .u64 t) := fun w' h => loads9 k x p o ab sb cb cs l u n r t _ w' ((h.block _ hsz).trans hG)
  clear hW hG
  have KF : ∀ w', Below W.drew.heap.size W.drew w' → (loadVar 27 ⟨w.heap.size, 0, none⟩).run Try.prog w' = .ok (rv k x p o ab l.length cb sb u.length cs n r t) w' ∧ w'.cell? ⟨w.heap.size, 0, none⟩ = some (.int .i64 k) ∧ w'.cell? ⟨w.heap.size, 1, none⟩ = some (.int .u64 x) ∧ w'.cell? ⟨w.heap.size, 2, none⟩ = some (.int .i64 p) ∧ w'.cell? ⟨w.heap.size, 3, none⟩ = some (.int .i64 o) ∧ w'.cell? ⟨w.heap.size, 4, none⟩ = some (.slice ab l.length cb) ∧ w'.cell? ⟨w.heap.size, 5, none⟩ = some (.slice sb u.length cs) ∧ w'.cell? ⟨w.heap.size, 6, none⟩ = some (.int .u64 n) ∧ w'.cell? ⟨w.heap.size, 7, none⟩ = some (.int .u64 r) ∧ w'.cell? ⟨w.heap.size, 8, none⟩ = some (.int .u64 t) := fun w' h => KF0 w' (belT (Below.refl _ _).drew h)
  refine seq_start 25 [false, false, false, false, false, false, false, false, false, false, false, false, false, false, false, false, false, false, false, false, false, false, false, false, false] (by kernel_rfl) rfl rfl ?_
  refine seq_take 0 (v := ?_) rfl (by kernel_rfl) (fun _ _ _ h => h) (Or.inl ⟨by rfl, fun w' hb => ?_⟩) ?_
  rotate_left
  · have kf := KF w' hb
    go_simp
    with_reducible rfl
  simp only [Act.put, List.setIfInBounds_toArray, List.set_cons_zero, List.set_cons_succ]
  refine seq_take 1 (v := ?_) rfl (by kernel_rfl) (fun _ _ _ h => h) (Or.inl ⟨by rfl, fun w' hb => ?_⟩) ?_
  rotate_left
  · have kf := KF w' hb
    go_simp
    with_reducible rfl
  simp only [Act.put, List.setIfInBounds_toArray, List.set_cons_zero, List.set_cons_succ]
  refine seq_do 2 rfl (by kernel_rfl) (fun K hK => ?_)
  go_simp
  refine (bareAny k x p o ab sb cb cs l u n r t _ (ha.below (belT hB0 (Below.refl _ _).drew))).mono ?_
  rintro e w1 ⟨⟨k2, x2, p2, o2, ab2, sb2, cb2, cs2, l2, u2, n2, r2, t2, hR, rfl, hR2⟩, hb1⟩
  refine hK.out _ _ hb1 ?_
  clear hK K
  simp only [List.set_cons_zero, List.set_cons_succ]
  have hb1 := belT (Below.refl _ _).drew hb1
  replace KF : ∀ w', Below w1.heap.size w1 w' → (loadVar 27 ⟨w.heap.size, 0, none⟩).run Try.prog w' = .ok (rv k x p o ab l.length cb sb u.length cs n r t) w' ∧ w'.cell? ⟨w.heap.size, 0, none⟩ = some (.int .i64 k) ∧ w'.cell? ⟨w.heap.size, 1, none⟩ = some (.int .u64 x) ∧ w'.cell? ⟨w.heap.size, 2, none⟩ = some (.int .i64 p) ∧ w'.cell? ⟨w.heap.size, 3, none⟩ = some (.int .i64 o) ∧ w'.cell? ⟨w.heap.size, 4, none⟩ = some (.slice ab l.length cb) ∧ w'.cell? ⟨w.heap.size, 5, none⟩ = some (.slice sb u.length cs) ∧ w'.cell? ⟨w.heap.size, 6, none⟩ = some (.int .u64 n) ∧ w'.cell? ⟨w.heap.size, 7, none⟩ = some (.int .u64 r) ∧ w'.cell? ⟨w.heap.size, 8, none⟩ = some (.int .u64 t) := fun w' h => KF0 w' (belT hb1 h)
  refine seq_do 3 rfl (by kernel_rfl) (fun K hK => ?_)
  go_simp
  refine (SameF k x p o ab sb cb cs l u n r t k2 x2 p2 o2 ab2 sb2 cb2 cs2 l2 u2 n2 r2 t2 _ (ha.below (belT hB0 hb1)) hR2).mono ?_
  rw [← hR, decide_eq_true HEq.out]
  rintro e w2 ⟨rfl, hb2⟩
  refine hK.out _ _ hb2 ?_
  clear hK K
  simp only [List.set_cons_zero, List.set_cons_succ]
  have hb2 := belT hb1 hb2
  replace KF : ∀ w', Below w2.heap.size w2 w' → (loadVar 27 ⟨w.heap.size, 0, none⟩).run Try.prog w' = .ok (rv k x p o ab l.length cb sb u.length cs n r t) w' ∧ w'.cell? ⟨w.heap.size, 0, none⟩ = some (.int .i64 k) ∧ w'.cell? ⟨w.heap.size, 1, none⟩ = some (.int .u64 x) ∧ w'.cell? ⟨w.heap.size, 2, none⟩ = some (.int .i64 p) ∧ w'.cell? ⟨w.heap.size, 3, none⟩ = some (.int .i64 o) ∧ w'.cell? ⟨w.heap.size, 4, none⟩ = some (.slice ab l.length cb) ∧ w'.cell? ⟨w.heap.size, 5, none⟩ = some (.slice sb u.length cs) ∧ w'.cell? ⟨w.heap.size, 6, none⟩ = some (.int .u64 n) ∧ w'.cell? ⟨w.heap.size, 7, none⟩ = some (.int .u64 r) ∧ w'.cell? ⟨w.heap.size, 8, none⟩ = some (.int .u64 t) := fun w' h => KF0 w' (belT hb2 h)
  refine seq_take 4 (v := ?_) rfl (by kernel_rfl) (fun _ _ _ h => h) (Or.inl ⟨by rfl, fun w' hb => ?_⟩) ?_
  rotate_left
  · have kf := KF w' hb
    go_simp
    with_reducible rfl
  simp only [Act.put, List.setIfInBounds_toArray, List.set_cons_zero, List.set_cons_succ]
  refine seq_take 5 (v := ?_) rfl (by kernel_rfl) (fun _ _ _ h => h) (Or.inl ⟨by rfl, fun w' hb => ?_⟩) ?_
  rotate_left
  · have kf := KF w' hb
    go_simp
    with_reducible rfl
  simp only [Act.put, List.setIfInBounds_toArray, List.set_cons_zero, List.set_cons_succ]
  refine seq_take 6 (v := ?_) rfl (by kernel_rfl) (fun _ _ _ h => h) (Or.inl ⟨by rfl, fun w' hb => ?_⟩) ?_
  rotate_left
  · have kf := KF w' hb
    go_simp
    with_reducible rfl
  simp only [Act.put, List.setIfInBounds_toArray, List.set_cons_zero, List.set_cons_succ]
  refine seq_take 7 (v := ?_) rfl (by kernel_rfl) (fun _ _ _ h => h) (Or.inl ⟨by rfl, fun w' hb => ?_⟩) ?_
  rotate_left
  · have kf := KF w' hb
    go_simp
    with_reducible rfl
  simp only [Act.put, List.setIfInBounds_toArray, List.set_cons_zero, List.set_cons_succ]
  refine seq_take 8 (v := ?_) rfl (by kernel_rfl) (fun _ _ _ h => h) (Or.inl ⟨by rfl, fun w' hb => ?_⟩) ?_
  rotate_left
  · have kf := KF w' hb
    go_simp
    with_reducible rfl
  simp only [Act.put, List.setIfInBounds_toArray, List.set_cons_zero, List.set_cons_succ]
  refine seq_take 9 (v := ?_) rfl (by kernel_rfl) (fun _ _ _ h => h) (Or.inl ⟨by rfl, fun w' hb => ?_⟩) ?_
  rotate_left
  · have kf := KF w' hb
    go_simp
    with_reducible rfl
  simp only [Act.put, List.setIfInBounds_toArray, List.set_cons_zero, List.set_cons_succ]
  refine seq_take 10 (v := ?_) rfl (by kernel_rfl) (fun _ _ _ h => h) (Or.inl ⟨by rfl, fun w' hb => ?_⟩) ?_
  rotate_left
  · have kf := KF w' hb
    go_simp
    with_reducible rfl
  simp only [Act.put, List.setIfInBounds_toArray, List.set_cons_zero, List.set_cons_succ]
  refine seq_take 11 (v := undef) rfl (by kernel_rfl) (fun _ _ _ h => h) (Or.inr ⟨by rfl, rfl⟩) ?_
  simp only [Act.put, List.setIfInBounds_toArray, List.set_cons_zero, List.set_cons_succ]
  refine seq_take 12 (v := undef) rfl (by kernel_rfl) (fun _ _ _ h => h) (Or.inr ⟨by rfl, rfl⟩) ?_
  simp only [Act.put, List.setIfInBounds_toArray, List.set_cons_zero, List.set_cons_succ]
  refine seq_take 13 (v := undef) rfl (by kernel_rfl) (fun _ _ _ h => h) (Or.inr ⟨by rfl, rfl⟩) ?_
  simp only [Act.put, List.setIfInBounds_toArray, List.set_cons_zero, List.set_cons_succ]
  refine seq_take 14 (v := ?_) rfl (by kernel_rfl) (fun _ _ _ h => h) (Or.inl ⟨by rfl, fun w' hb => ?_⟩) ?_
  rotate_left
  · have kf := KF w' hb
    go_simp
    with_reducible rfl
  simp only [Act.put, List.setIfInBounds_toArray, List.set_cons_zero, List.set_cons_succ]
  refine seq_take 15 (v := ?_) rfl (by kernel_rfl) (fun _ _ _ h => h) (Or.inl ⟨by rfl, fun w' hb => ?_⟩) ?_
  rotate_left
  · have kf := KF w' hb
    go_simp
    with_reducible rfl
  simp only [Act.put, List.setIfInBounds_toArray, List.set_cons_zero, List.set_cons_succ]
  refine seq_take 16 (v := undef) rfl (by kernel_rfl) (fun _ _ _ h => h) (Or.inr ⟨by rfl, rfl⟩) ?_
  simp only [Act.put, List.setIfInBounds_toArray, List.set_cons_zero, List.set_cons_succ]
  refine seq_take 17 (v := undef) rfl (by kernel_rfl) (fun _ _ _ h => h) (Or.inr ⟨by rfl, rfl⟩) ?_
  simp only [Act.put, List.setIfInBounds_toArray, List.set_cons_zero, List.set_cons_succ]
  refine seq_take 18 (v := undef) rfl (by kernel_rfl) (fun _ _ _ h => h) (Or.inr ⟨by rfl, rfl⟩) ?_
  simp only [Act.put, List.setIfInBounds_toArray, List.set_cons_zero, List.set_cons_succ]
  refine seq_take 19 (v := ?_) rfl (by kernel_rfl) (fun _ _ _ h => h) (Or.inl ⟨by rfl, fun w' hb => ?_⟩) ?_
  rotate_left
  · have kf := KF w' hb
    go_simp
    with_reducible rfl
  simp only [Act.put, List.setIfInBounds_toArray, List.set_cons_zero, List.set_cons_succ]
  refine seq_take 20 (v := ?_) rfl (by kernel_rfl) (fun _ _ _ h => h) (Or.inl ⟨by rfl, fun w' hb => ?_⟩) ?_
  rotate_left
  · have kf := KF w' hb
    go_simp
    with_reducible rfl
  simp only [Act.put, List.setIfInBounds_toArray, List.set_cons_zero, List.set_cons_succ]
  refine seq_take 21 (v := undef) rfl (by kernel_rfl) (fun _ _ _ h => h) (Or.inr ⟨by rfl, rfl⟩) ?_
  simp only [Act.put, List.setIfInBounds_toArray, List.set_cons_zero, List.set_cons_succ]
  refine seq_take 22 (v := undef) rfl (by kernel_rfl) (fun _ _ _ h => h) (Or.inr ⟨by rfl, rfl⟩) ?_
  simp only [Act.put, List.setIfInBounds_toArray, List.set_cons_zero, List.set_cons_succ]
  refine seq_take 23 (v := undef) rfl (by kernel_rfl) (fun _ _ _ h => h) (Or.inr ⟨by rfl, rfl⟩) ?_
  simp only [Act.put, List.setIfInBounds_toArray, List.set_cons_zero, List.set_cons_succ]
  refine seq_take 24 (v := ?_) rfl (by kernel_rfl) (fun _ _ _ h => h) (Or.inl ⟨by rfl, fun w' hb => ?_⟩) ?_
  rotate_left
  · have kf := KF w' hb
    go_simp
    with_reducible rfl
  simp only [Act.put, List.setIfInBounds_toArray, List.set_cons_zero, List.set_cons_succ]
  refine seq_end (by kernel_rfl) ?_
  go_wp2_with fail
  go_ret
  exact ⟨by rw [hM]; rfl, belT hB0 hb2⟩
set_option maxRecDepth 100000 in
set_option maxHeartbeats 8000000 in
theorem MayB1 (k : Int) (x : Nat) (p o : Int) (ab sb : Option Addr) (cb cs : Nat) (l : List UInt8) (u : List Nat) (n r t : Nat) (w : World) (ha : RB w ⟨k, x, p, o, l, u, n, r, t⟩ ab sb cb cs) (he : ⟨k, x, p, o, l, u, n, r, t⟩ = bareR ⟨k, x, p, o, l, u, n, r, t⟩) (hp0 : 0 ≤ p) (hp1 : ¬ p < 128) :
    Calls Try.prog 16 #[rv k x p o ab l.length cb sb u.length cs n r t] w fun e w' => e = .returned (.bool (mayB ⟨k, x, p, o, l, u, n, r, t⟩)) ∧ Below w.heap.size w w' := by
  have HEq := Lib.hid he
  have hM : mayB ⟨k, x, p, o, l, u, n, r, t⟩ = false := by unfold mayB; rw [decide_eq_true he]; simp only []; simp [hp0, hp1]
  clear he
  have hd0 : decide (p < 0) = false := by simp; omega
  have hd1 : decide (128 ≤ p) = true := by simp; omega
  go_enter Try.func16, Try.ntmps16
  go_wp2_with fail
  obtain ⟨W, hW⟩ : ∃ W, W = w.alloc (.cells #[.int .i64 k, .int .u64 x, .int .i64 p, .int .i64 o, .slice ab l.length cb, .slice sb u.length cs, .int .u64 n, .int .u64 r, .int .u64 t] 27) := ⟨_, rfl⟩
  have hB0 : Below w.heap.size w W := by rw [hW]; exact below_alloc _ _
  have hG : W.heap[w.heap.size]? = some (.cells #[.int .i64 k, .int .u64 x, .int .i64 p, .int .i64 o, .slice ab l.length cb, .slice sb u.length cs, .int .u64 n, .int .u64 r, .int .u64 t] 27 (0, 0)) := by rw [hW]; exact heap_alloc_new _ _
  have hsz : w.heap.size < W.heap.size := by rw [hW]; simp
  rw [← hW]
  have KF0 : ∀ w', Below W.heap.size W w' → (loadVar 27 ⟨w.heap.size, 0, none⟩).run Try.prog w' = .ok (rv k x p o ab l.length cb sb u.length cs n r t) w' ∧ w'.cell? ⟨w.heap.size, 0, none⟩ = some (.int .i64 k) ∧ w'.cell? ⟨w.heap.size, 1, none⟩ = some (.int .u64 x) ∧ w'.cell? ⟨w.heap.size, 2, none⟩ = some (.int .i64 p) ∧ w'.cell? ⟨w.heap.size, 3, none⟩ = some (.int .i64 o) ∧ w'.cell? ⟨w.heap.size, 4, none⟩ = some (.slice ab l.length cb) ∧ w'.cell? ⟨w.heap.size, 5, none⟩ = some (.slice sb u.length cs) ∧ w'.cell? ⟨w.heap.size, 6, none⟩ = some (.int .u64 n) ∧ w'.cell? ⟨w.heap.size, 7, none⟩ = some (.int .u64 r) ∧ w'.cell? ⟨w.heap.size, 8, none⟩ = some (.int .u64 t) := fun w' h => loads9 k x p o ab sb cb cs l u n r t _ w' ((h.block _ hsz).trans hG)
  clear hW hG
  have KF : ∀ w', Below W.drew.heap.size W.drew w' → (loadVar 27 ⟨w.heap.size, 0, none⟩).run Try.prog w' = .ok (rv k x p o ab l.length cb sb u.length cs n r t) w' ∧ w'.cell? ⟨w.heap.size, 0, none⟩ = some (.int .i64 k) ∧ w'.cell? ⟨w.heap.size, 1, none⟩ = some (.int .u64 x) ∧ w'.cell? ⟨w.heap.size, 2, none⟩ = some (.int .i64 p) ∧ w'.cell? ⟨w.heap.size, 3, none⟩ = some (.int .i64 o) ∧ w'.cell? ⟨w.heap.size, 4, none⟩ = some (.slice ab l.length cb) ∧ w'.cell? ⟨w.heap.size, 5, none⟩ = some (.slice sb u.length cs) ∧ w'.cell? ⟨w.heap.size, 6, none⟩ = some (.int .u64 n) ∧ w'.cell? ⟨w.heap.size, 7, none⟩ = some (.int .u64 r) ∧ w'.cell? ⟨w.heap.size, 8, none⟩ = some (.int .u64 t) := fun w' h => KF0 w' (belT (Below.refl _ _).drew h)
  refine seq_start 25 [false, false, false, false, false, false, false, false, false, false, false, false, false, false, false, false, false, false, false, false, false, false, false, false, false] (by kernel_rfl) rfl rfl ?_
  refine seq_take 0 (v := ?_) rfl (by kernel_rfl) (fun _ _ _ h => h) (Or.inl ⟨by rfl, fun w' hb => ?_⟩) ?_
  rotate_left
  · have kf := KF w' hb
    go_simp
    with_reducible rfl
  simp only [Act.put, List.setIfInBounds_toArray, List.set_cons_zero, List.set_cons_succ]
  refine seq_take 1 (v := ?_) rfl (by kernel_rfl) (fun _ _ _ h => h) (Or.inl ⟨by rfl, fun w' hb => ?_⟩) ?_
  rotate_left
  · have kf := KF w' hb
    go_simp
    with_reducible rfl
  simp only [Act.put, List.setIfInBounds_toArray, List.set_cons_zero, List.set_cons_succ]
  refine seq_do 2 rfl (by kernel_rfl) (fun K hK => ?_)
  go_simp
  refine (bareAny k x p o ab sb cb cs l u n r t _ (ha.below (belT hB0 (Below.refl _ _).drew))).mono ?_
  rintro e w1 ⟨⟨k2, x2, p2, o2, ab2, sb2, cb2, cs2, l2, u2, n2, r2, t2, hR, rfl, hR2⟩, hb1⟩
  refine hK.out _ _ hb1 ?_
  clear hK K
  simp only [List.set_cons_zero, List.set_cons_succ]
  have hb1 := belT (Below.refl _ _).drew hb1
  replace KF : ∀ w', Below w1.heap.size w1 w' → (loadVar 27 ⟨w.heap.size, 0, none⟩).run Try.prog w' = .ok (rv k x p o ab l.length cb sb u.length cs n r t) w' ∧ w'.cell? ⟨w.heap.size, 0, none⟩ = some (.int .i64 k) ∧ w'.cell? ⟨w.heap.size, 1, none⟩ = some (.int .u64 x) ∧ w'.cell? ⟨w.heap.size, 2, none⟩ = some (.int .i64 p) ∧ w'.cell? ⟨w.heap.size, 3, none⟩ = some (.int .i64 o) ∧ w'.cell? ⟨w.heap.size, 4, none⟩ = some (.slice ab l.length cb) ∧ w'.cell? ⟨w.heap.size, 5, none⟩ = some (.slice sb u.length cs) ∧ w'.cell? ⟨w.heap.size, 6, none⟩ = some (.int .u64 n) ∧ w'.cell? ⟨w.heap.size, 7, none⟩ = some (.int .u64 r) ∧ w'.cell? ⟨w.heap.size, 8, none⟩ = some (.int .u64 t) := fun w' h => KF0 w' (belT hb1 h)
  refine seq_do 3 rfl (by kernel_rfl) (fun K hK => ?_)
  go_simp
  refine (SameF k x p o ab sb cb cs l u n r t k2 x2 p2 o2 ab2 sb2 cb2 cs2 l2 u2 n2 r2 t2 _ (ha.below (belT hB0 hb1)) hR2).mono ?_
  rw [← hR, decide_eq_true HEq.out]
  rintro e w2 ⟨rfl, hb2⟩
  refine hK.out _ _ hb2 ?_
  clear hK K
  simp only [List.set_cons_zero, List.set_cons_succ]
  have hb2 := belT hb1 hb2
  replace KF : ∀ w', Below w2.heap.size w2 w' → (loadVar 27 ⟨w.heap.size, 0, none⟩).run Try.prog w' = .ok (rv k x p o ab l.length cb sb u.length cs n r t) w' ∧ w'.cell? ⟨w.heap.size, 0, none⟩ = some (.int .i64 k) ∧ w'.cell? ⟨w.heap.size, 1, none⟩ = some (.int .u64 x) ∧ w'.cell? ⟨w.heap.size, 2, none⟩ = some (.int .i64 p) ∧ w'.cell? ⟨w.heap.size, 3, none⟩ = some (.int .i64 o) ∧ w'.cell? ⟨w.heap.size, 4, none⟩ = some (.slice ab l.length cb) ∧ w'.cell? ⟨w.heap.size, 5, none⟩ = some (.slice sb u.length cs) ∧ w'.cell? ⟨w.heap.size, 6, none⟩ = some (.int .u64 n) ∧ w'.cell? ⟨w.heap.size, 7, none⟩ = some (.int .u64 r) ∧ w'.cell? ⟨w.heap.size, 8, none⟩ = some (.int .u64 t) := fun w' h => KF0 w' (belT hb2 h)
  refine seq_take 4 (v := ?_) rfl (by kernel_rfl) (fun _ _ _ h => h) (Or.inl ⟨by rfl, fun w' hb => ?_⟩) ?_
  rotate_left
  · have kf := KF w' hb
    go_simp
    with_reducible rfl
  simp only [Act.put, List.setIfInBounds_toArray, List.set_cons_zero, List.set_cons_succ]
  refine seq_take 5 (v := ?_) rfl (by kernel_rfl) (fun _ _ _ h => h) (Or.inl ⟨by rfl, fun w' hb => ?_⟩) ?_
  rotate_left
  · have kf := KF w' hb
    go_simp
    with_reducible rfl
  simp only [Act.put, List.setIfInBounds_toArray, List.set_cons_zero, List.set_cons_succ]
  refine seq_take 6 (v := ?_) rfl (by kernel_rfl) (fun _ _ _ h => h) (Or.inl ⟨by rfl, fun w' hb => ?_⟩) ?_
  rotate_left
  · have kf := KF w' hb
    go_simp
    with_reducible rfl
  simp only [Act.put, List.setIfInBounds_toArray, List.set_cons_zero, List.set_cons_succ]
  refine seq_take 7 (v := ?_) rfl (by kernel_rfl) (fun _ _ _ h => h) (Or.inl ⟨by rfl, fun w' hb => ?_⟩) ?_
  rotate_left
  · have kf := KF w' hb
    go_simp
    with_reducible rfl
  simp only [Act.put, List.setIfInBounds_toArray, List.set_cons_zero, List.set_cons_succ]
  refine seq_take 8 (v := ?_) rfl (by kernel_rfl) (fun _ _ _ h => h) (Or.inl ⟨by rfl, fun w' hb => ?_⟩) ?_
  rotate_left
  · have kf := KF w' hb
    go_simp
    with_reducible rfl
  simp only [Act.put, List.setIfInBounds_toArray, List.set_cons_zero, List.set_cons_succ]
  refine seq_take 9 (v := ?_) rfl (by kernel_rfl) (fun _ _ _ h => h) (Or.inl ⟨by rfl, fun w' hb => ?_⟩) ?_
  rotate_left
  · have kf := KF w' hb
    go_simp
    with_reducible rfl
  simp only [Act.put, List.setIfInBounds_toArray, List.set_cons_zero, List.set_cons_succ]
  refine seq_take 10 (v := ?_) rfl (by kernel_rfl) (fun _ _ _ h => h) (Or.inl ⟨by rfl, fun w' hb => ?_⟩) ?_
  rotate_left
  · have kf := KF w' hb
    go_simp
    with_reducible rfl
  simp only [Act.put, List.setIfInBounds_toArray, List.set_cons_zero, List.set_cons_succ]
  refine seq_take 11 (v := ?_) rfl (by kernel_rfl) (fun _ _ _ h => h) (Or.inl ⟨by rfl, fun w' hb => ?_⟩) ?_
  rotate_left
  · have kf := KF w' hb
    go_simp
    with_reducible rfl
  simp only [Act.put, List.setIfInBounds_toArray, List.set_cons_zero, List.set_cons_succ]
  refine seq_take 12 (v := ?_) rfl (by kernel_rfl) (fun _ _ _ h => h) (Or.inl ⟨by rfl, fun w' hb => ?_⟩) ?_
  rotate_left
  · have kf := KF w' hb
    go_simp
    with_reducible rfl
  simp only [Act.put, List.setIfInBounds_toArray, List.set_cons_zero, List.set_cons_succ]
  refine seq_take 13 (v := ?_) rfl (by kernel_rfl) (fun _ _ _ h => h) (Or.inl ⟨by rfl, fun w' hb => ?_⟩) ?_
  rotate_left
  · have kf := KF w' hb
    go_simp
    with_reducible rfl
  simp only [Act.put, List.setIfInBounds_toArray, List.set_cons_zero, List.set_cons_succ]
  refine seq_take 14 (v := ?_) rfl (by kernel_rfl) (fun _ _ _ h => h) (Or.inl ⟨by rfl, fun w' hb => ?_⟩) ?_
  rotate_left
  · have kf := KF w' hb
    go_simp
    with_reducible rfl
  simp only [Act.put, List.setIfInBounds_toArray, List.set_cons_zero, List.set_cons_succ]
  refine seq_take 15 (v := ?_) rfl (by kernel_rfl) (fun _ _ _ h => h) (Or.inl ⟨by rfl, fun w' hb => ?_⟩) ?_
  rotate_left
  · have kf := KF w' hb
    go_simp
    with_reducible rfl
  simp only [Act.put, List.setIfInBounds_toArray, List.set_cons_zero, List.set_cons_succ]
  refine seq_take 16 (v := undef) rfl (by kernel_rfl) (fun _ _ _ h => h) (Or.inr ⟨by rfl, rfl⟩) ?_
  simp only [Act.put, List.setIfInBounds_toArray, List.set_cons_zero, List.set_cons_succ]
  refine seq_take 17 (v := undef) rfl (by kernel_rfl) (fun _ _ _ h => h) (Or.inr ⟨by rfl, rfl⟩) ?_
  simp only [Act.put, List.setIfInBounds_toArray, List.set_cons_zero, List.set_cons_succ]
  refine seq_take 18 (v := undef) rfl (by kernel_rfl) (fun _ _ _ h => h) (Or.inr ⟨by rfl, rfl⟩) ?_
  simp only [Act.put, List.setIfInBounds_toArray, List.set_cons_zero, List.set_cons_succ]
  refine seq_take 19 (v := ?_) rfl (by kernel_rfl) (fun _ _ _ h => h) (Or.inl ⟨by rfl, fun w' hb => ?_⟩) ?_
  rotate_left
  · have kf := KF w' hb
    go_simp
    with_reducible rfl
  simp only [Act.put, List.setIfInBounds_toArray, List.set_cons_zero, List.set_cons_succ]
  refine seq_take 20 (v := ?_) rfl (by kernel_rfl) (fun _ _ _ h => h) (Or.inl ⟨by rfl, fun w' hb => ?_⟩) ?_
  rotate_left
  · have kf := KF w' hb
    go_simp
    with_reducible rfl
  simp only [Act.put, List.setIfInBounds_toArray, List.set_cons_zero, List.set_cons_succ]
  refine seq_take 21 (v := undef) rfl (by kernel_rfl) (fun _ _ _ h => h) (Or.inr ⟨by rfl, rfl⟩) ?_
  simp only [Act.put, List.setIfInBounds_toArray, List.set_cons_zero, List.set_cons_succ]
  refine seq_take 22 (v := undef) rfl (by kernel_rfl) (fun _ _ _ h => h) (Or.inr ⟨by rfl, rfl⟩) ?_
  simp only [Act.put, List.setIfInBounds_toArray, List.set_cons_zero, List.set_cons_succ]
  refine seq_take 23 (v := undef) rfl (by kernel_rfl) (fun _ _ _ h => h) (Or.inr ⟨by rfl, rfl⟩) ?_
  simp only [Act.put, List.setIfInBounds_toArray, List.set_cons_zero, List.set_cons_succ]
  refine seq_take 24 (v := ?_) rfl (by kernel_rfl) (fun _ _ _ h => h) (Or.inl ⟨by rfl, fun w' hb => ?_⟩) ?_
  rotate_left
  · have kf := KF w' hb
    go_simp
    with_reducible rfl
  simp only [Act.put, List.setIfInBounds_toArray, List.set_cons_zero, List.set_cons_succ]
  refine seq_end (by kernel_rfl) ?_
  go_wp2_with fail
  go_ret
  exact ⟨by rw [hM]; rfl, belT hB0 hb2⟩
set_option maxRecDepth 100000 in
set_option maxHeartbeats 8000000 in
theorem MayB2 (k : Int) (x : Nat) (p o : Int) (ab sb : Option Addr) (cb cs : Nat) (l : List UInt8) (u : List Nat) (n r t : Nat) (w : World) (ha : RB w ⟨k, x, p, o, l, u, n, r, t⟩ ab sb cb cs) (he : ⟨k, x, p, o, l, u, n, r, t⟩ = bareR ⟨k, x, p, o, l, u, n, r, t⟩) (hp0 : 0 ≤ p) (hp1 : p < 128) (hx1 : ¬ x ≤ 4000) :
    Calls Try.prog 16 #[rv k x p o ab l.length cb sb u.length cs n r t] w fun e w' => e = .returned (.bool (mayB ⟨k, x, p, o, l, u, n, r, t⟩)) ∧ Below w.heap.size w w' := by
  have HEq := Lib.hid he
  have hM : mayB ⟨k, x, p, o, l, u, n, r, t⟩ = false := by unfold mayB; rw [decide_eq_true he]; simp only []; simp [hp0, hp1, hx1]
  clear he
  have hd0 : decide (p < 0) = false := by simp; omega
  have hd1 : decide (128 ≤ p) = false := by simp; omega
  have hd2 : decide (4000 < (x : Int)) = true := by simp; omega
  go_enter Try.func16, Try.ntmps16
  go_wp2_with fail
  obtain ⟨W, hW⟩ : ∃ W, W = w.alloc (.cells #[.int .i64 k, .int .u64 x, .int .i64 p, .int .i64 o, .slice ab l.length cb, .slice sb u.length cs, .int .u64 n, .int .u64 r, .int .u64 t] 27) := ⟨_, rfl⟩
  have hB0 : Below w.heap.size w W := by rw [hW]; exact below_alloc _ _
  have hG : W.heap[w.heap.size]? = some (.cells #[.int .i64 k, .int .u64 x, .int .i64 p, .int .i64 o, .slice ab l.length cb, .slice sb u.length cs, .int .u64 n, .int .u64 r, .int .u64 t] 27 (0, 0)) := by rw [hW]; exact heap_alloc_new _ _
  have hsz : w.heap.size < W.heap.size := by rw [hW]; simp
  rw [← hW]
  have KF0 : ∀ w', Below W.heap.size W w' → (loadVar 27 ⟨w.heap.size, 0, none⟩).run Try.prog w' = .ok (rv k x p o ab l.length cb sb u.length cs n r t) w' ∧ w'.cell? ⟨w.heap.size, 0, none⟩ = some (.int .i64 k) ∧ w'.cell? ⟨w.heap.size, 1, none⟩ = some (.int .u64 x) ∧ w'.cell? ⟨w.heap.size, 2, none⟩ = some (.int .i64 p) ∧ w'.cell? ⟨w.heap.size, 3, none⟩ = some (.int .i64 o) ∧ w'.cell? ⟨w.heap.size, 4, none⟩ = some (.slice ab l.length cb) ∧ w'.cell? ⟨w.heap.size, 5, none⟩ = some (.slice sb u.length cs) ∧ w'.cell? ⟨w.heap.size, 6, none⟩ = some (.int .u64 n) ∧ w'.cell? ⟨w.heap.size, 7, none⟩ = some (.int .u64 r) ∧ w'.cell? ⟨w.heap.size, 8, none⟩ = some (.int .u64 t) := fun w' h => loads9 k x p o ab sb cb cs l u n r t _ w' ((h.block _ hsz).trans hG)
  clear hW hG
  have KF : ∀ w', Below W.drew.heap.size W.drew w' → (loadVar 27 ⟨w.heap.size, 0, none⟩).run Try.prog w' = .ok (rv k x p o ab l.length cb sb u.length cs n r t) w' ∧ w'.cell? ⟨w.heap.size, 0, none⟩ = some (.int .i64 k) ∧ w'.cell? ⟨w.heap.size, 1, none⟩ = some (.int .u64 x) ∧ w'.cell? ⟨w.heap.size, 2, none⟩ = some (.int .i64 p) ∧ w'.cell? ⟨w.heap.size, 3, none⟩ = some (.int .i64 o) ∧ w'.cell? ⟨w.heap.size, 4, none⟩ = some (.slice ab l.length cb) ∧ w'.cell? ⟨w.heap.size, 5, none⟩ = some (.slice sb u.length cs) ∧ w'.cell? ⟨w.heap.size, 6, none⟩ = some (.int .u64 n) ∧ w'.cell? ⟨w.heap.size, 7, none⟩ = some (.int .u64 r) ∧ w'.cell? ⟨w.heap.size, 8, none⟩ = some (.int .u64 t) := fun w' h => KF0 w' (belT (Below.refl _ _).drew h)
  refine seq_start 25 [false, false, false, false, false, false, false, false, false, false, false, false, false, false, false, false, false, false, false, false, false, false, false, false, false] (by kernel_rfl) rfl rfl ?_
  refine seq_take 0 (v := ?_) rfl (by kernel_rfl) (fun _ _ _ h => h) (Or.inl ⟨by rfl, fun w' hb => ?_⟩) ?_
  rotate_left
  · have kf := KF w' hb
    go_simp
    with_reducible rfl
  simp only [Act.put, List.setIfInBounds_toArray, List.set_cons_zero, List.set_cons_succ]
  refine seq_take 1 (v := ?_) rfl (by kernel_rfl) (fun _ _ _ h => h) (Or.inl ⟨by rfl, fun w' hb => ?_⟩) ?_
  rotate_left
  · have kf := KF w' hb
    go_simp
    with_reducible rfl
  simp only [Act.put, List.setIfInBounds_toArray, List.set_cons_zero, List.set_cons_succ]
  refine seq_do 2 rfl (by kernel_rfl) (fun K hK => ?_)
  go_simp
  refine (bareAny k x p o ab sb cb cs l u n r t _ (ha.below (belT hB0 (Below.refl _ _).drew))).mono ?_
  rintro e w1 ⟨⟨k2, x2, p2, o2, ab2, sb2, cb2, cs2, l2, u2, n2, r2, t2, hR, rfl, hR2⟩, hb1⟩
  refine hK.out _ _ hb1 ?_
  clear hK K
  simp only [List.set_cons_zero, List.set_cons_succ]
  have hb1 := belT (Below.refl _ _).drew hb1
  replace KF : ∀ w', Below w1.heap.size w1 w' → (loadVar 27 ⟨w.heap.size, 0, none⟩).run Try.prog w' = .ok (rv k x p o ab l.length cb sb u.length cs n r t) w' ∧ w'.cell? ⟨w.heap.size, 0, none⟩ = some (.int .i64 k) ∧ w'.cell? ⟨w.heap.size, 1, none⟩ = some (.int .u64 x) ∧ w'.cell? ⟨w.heap.size, 2, none⟩ = some (.int .i64 p) ∧ w'.cell? ⟨w.heap.size, 3, none⟩ = some (.int .i64 o) ∧ w'.cell? ⟨w.heap.size, 4, none⟩ = some (.slice ab l.length cb) ∧ w'.cell? ⟨w.heap.size, 5, none⟩ = some (.slice sb u.length cs) ∧ w'.cell? ⟨w.heap.size, 6, none⟩ = some (.int .u64 n) ∧ w'.cell? ⟨w.heap.size, 7, none⟩ = some (.int .u64 r) ∧ w'.cell? ⟨w.heap.size, 8, none⟩ = some (.int .u64 t) := fun w' h => KF0 w' (belT hb1 h)
  refine seq_do 3 rfl (by kernel_rfl) (fun K hK => ?_)
  go_simp
  refine (SameF k x p o ab sb cb cs l u n r t k2 x2 p2 o2 ab2 sb2 cb2 cs2 l2 u2 n2 r2 t2 _ (ha.below (belT hB0 hb1)) hR2).mono ?_
  rw [← hR, decide_eq_true HEq.out]
  rintro e w2 ⟨rfl, hb2⟩
  refine hK.out _ _ hb2 ?_
  clear hK K
  simp only [List.set_cons_zero, List.set_cons_succ]
  have hb2 := belT hb1 hb2
  replace KF : ∀ w', Below w2.heap.size w2 w' → (loadVar 27 ⟨w.heap.size, 0, none⟩).run Try.prog w' = .ok (rv k x p o ab l.length cb sb u.length cs n r t) w' ∧ w'.cell? ⟨w.heap.size, 0, none⟩ = some (.int .i64 k) ∧ w'.cell? ⟨w.heap.size, 1, none⟩ = some (.int .u64 x) ∧ w'.cell? ⟨w.heap.size, 2, none⟩ = some (.int .i64 p) ∧ w'.cell? ⟨w.heap.size, 3, none⟩ = some (.int .i64 o) ∧ w'.cell? ⟨w.heap.size, 4, none⟩ = some (.slice ab l.length cb) ∧ w'.cell? ⟨w.heap.size, 5, none⟩ = some (.slice sb u.length cs) ∧ w'.cell? ⟨w.heap.size, 6, none⟩ = some (.int .u64 n) ∧ w'.cell? ⟨w.heap.size, 7, none⟩ = some (.int .u64 r) ∧ w'.cell? ⟨w.heap.size, 8, none⟩ = some (.int .u64 t) := fun w' h => KF0 w' (belT hb2 h)
  refine seq_take 4 (v := ?_) rfl (by kernel_rfl) (fun _ _ _ h => h) (Or.inl ⟨by rfl, fun w' hb => ?_⟩) ?_
  rotate_left
  · have kf := KF w' hb
    go_simp
    with_reducible rfl
  simp only [Act.put, List.setIfInBounds_toArray, List.set_cons_zero, List.set_cons_succ]
  refine seq_take 5 (v := ?_) rfl (by kernel_rfl) (fun _ _ _ h => h) (Or.inl ⟨by rfl, fun w' hb => ?_⟩) ?_
  rotate_left
  · have kf := KF w' hb
    go_simp
    with_reducible rfl
  simp only [Act.put, List.setIfInBounds_toArray, List.set_cons_zero, List.set_cons_succ]
  refine seq_take 6 (v := ?_) rfl (by kernel_rfl) (fun _ _ _ h => h) (Or.inl ⟨by rfl, fun w' hb => ?_⟩) ?_
  rotate_left
  · have kf := KF w' hb
    go_simp
    with_reducible rfl
  simp only [Act.put, List.setIfInBounds_toArray, List.set_cons_zero, List.set_cons_succ]
  refine seq_take 7 (v := ?_) rfl (by kernel_rfl) (fun _ _ _ h => h) (Or.inl ⟨by rfl, fun w' hb => ?_⟩) ?_
  rotate_left
  · have kf := KF w' hb
    go_simp
    with_reducible rfl
  simp only [Act.put, List.setIfInBounds_toArray, List.set_cons_zero, List.set_cons_succ]
  refine seq_take 8 (v := ?_) rfl (by kernel_rfl) (fun _ _ _ h => h) (Or.inl ⟨by rfl, fun w' hb => ?_⟩) ?_
  rotate_left
  · have kf := KF w' hb
    go_simp
    with_reducible rfl
  simp only [Act.put, List.setIfInBounds_toArray, List.set_cons_zero, List.set_cons_succ]
  refine seq_take 9 (v := ?_) rfl (by kernel_rfl) (fun _ _ _ h => h) (Or.inl ⟨by rfl, fun w' hb => ?_⟩) ?_
  rotate_left
  · have kf := KF w' hb
    go_simp
    with_reducible rfl
  simp only [Act.put, List.setIfInBounds_toArray, List.set_cons_zero, List.set_cons_succ]
  refine seq_take 10 (v := ?_) rfl (by kernel_rfl) (fun _ _ _ h => h) (Or.inl ⟨by rfl, fun w' hb => ?_⟩) ?_
  rotate_left
  · have kf := KF w' hb
    go_simp
    with_reducible rfl
  simp only [Act.put, List.setIfInBounds_toArray, List.set_cons_zero, List.set_cons_succ]
  refine seq_take 11 (v := ?_) rfl (by kernel_rfl) (fun _ _ _ h => h) (Or.inl ⟨by rfl, fun w' hb => ?_⟩) ?_
  rotate_left
  · have kf := KF w' hb
    go_simp
    with_reducible rfl
  simp only [Act.put, List.setIfInBounds_toArray, List.set_cons_zero, List.set_cons_succ]
  refine seq_take 12 (v := ?_) rfl (by kernel_rfl) (fun _ _ _ h => h) (Or.inl ⟨by rfl, fun w' hb => ?_⟩) ?_
  rotate_left
  · have kf := KF w' hb
    go_simp
    with_reducible rfl
  simp only [Act.put, List.setIfInBounds_toArray, List.set_cons_zero, List.set_cons_succ]
  refine seq_take 13 (v := ?_) rfl (by kernel_rfl) (fun _ _ _ h => h) (Or.inl ⟨by rfl, fun w' hb => ?_⟩) ?_
  rotate_left
  · have kf := KF w' hb
    go_simp
    with_reducible rfl
  simp only [Act.put, List.setIfInBounds_toArray, List.set_cons_zero, List.set_cons_succ]
  refine seq_take 14 (v := ?_) rfl (by kernel_rfl) (fun _ _ _ h => h) (Or.inl ⟨by rfl, fun w' hb => ?_⟩) ?_
  rotate_left
  · have kf := KF w' hb
    go_simp
    with_reducible rfl
  simp only [Act.put, List.setIfInBounds_toArray, List.set_cons_zero, List.set_cons_succ]
  refine seq_take 15 (v := ?_) rfl (by kernel_rfl) (fun _ _ _ h => h) (Or.inl ⟨by rfl, fun w' hb => ?_⟩) ?_
  rotate_left
  · have kf := KF w' hb
    go_simp
    with_reducible rfl
  simp only [Act.put, List.setIfInBounds_toArray, List.set_cons_zero, List.set_cons_succ]
  refine seq_take 16 (v := ?_) rfl (by kernel_rfl) (fun _ _ _ h => h) (Or.inl ⟨by rfl, fun w' hb => ?_⟩) ?_
  rotate_left
  · have kf := KF w' hb
    go_simp
    with_reducible rfl
  simp only [Act.put, List.setIfInBounds_toArray, List.set_cons_zero, List.set_cons_succ]
  refine seq_take 17 (v := ?_) rfl (by kernel_rfl) (fun _ _ _ h => h) (Or.inl ⟨by rfl, fun w' hb => ?_⟩) ?_
  rotate_left
  · have kf := KF w' hb
    go_simp
    with_reducible rfl
  simp only [Act.put, List.setIfInBounds_toArray, List.set_cons_zero, List.set_cons_succ]
  refine seq_take 18 (v := ?_) rfl (by kernel_rfl) (fun _ _ _ h => h) (Or.inl ⟨by rfl, fun w' hb => ?_⟩) ?_
  rotate_left
  · have kf := KF w' hb
    go_simp
    with_reducible rfl
  simp only [Act.put, List.setIfInBounds_toArray, List.set_cons_zero, List.set_cons_succ]
  refine seq_take 19 (v := ?_) rfl (by kernel_rfl) (fun _ _ _ h => h) (Or.inl ⟨by rfl, fun w' hb => ?_⟩) ?_
  rotate_left
  · have kf := KF w' hb
    go_simp
    with_reducible rfl
  simp only [Act.put, List.setIfInBounds_toArray, List.set_cons_zero, List.set_cons_succ]
  refine seq_take 20 (v := ?_) rfl (by kernel_rfl) (fun _ _ _ h => h) (Or.inl ⟨by rfl, fun w' hb => ?_⟩) ?_
  rotate_left
  · have kf := KF w' hb
    go_simp
    with_reducible rfl
  simp only [Act.put, List.setIfInBounds_toArray, List.set_cons_zero, List.set_cons_succ]
  refine seq_take 21 (v := undef) rfl (by kernel_rfl) (fun _ _ _ h => h) (Or.inr ⟨by rfl, rfl⟩) ?_
  simp only [Act.put, List.setIfInBounds_toArray, List.set_cons_zero, List.set_cons_succ]
  refine seq_take 22 (v := undef) rfl (by kernel_rfl) (fun _ _ _ h => h) (Or.inr ⟨by rfl, rfl⟩) ?_
  simp only [Act.put, List.setIfInBounds_toArray, List.set_cons_zero, List.set_cons_succ]
  refine seq_take 23 (v := undef) rfl (by kernel_rfl) (fun _ _ _ h => h) (Or.inr ⟨by rfl, rfl⟩) ?_
  simp only [Act.put, List.setIfInBounds_toArray, List.set_cons_zero, List.set_cons_succ]
  refine seq_take 24 (v := ?_) rfl (by kernel_rfl) (fun _ _ _ h => h) (Or.inl ⟨by rfl, fun w' hb => ?_⟩) ?_
  rotate_left
  · have kf := KF w' hb
    go_simp
    with_reducible rfl
  simp only [Act.put, List.setIfInBounds_toArray, List.set_cons_zero, List.set_cons_succ]
  refine seq_end (by kernel_rfl) ?_
  go_wp2_with fail
  go_ret
  exact ⟨by rw [hM]; rfl, belT hB0 hb2⟩
set_option maxRecDepth 100000 in
set_option maxHeartbeats 8000000 in
theorem MayB3 (k : Int) (x : Nat) (p o : Int) (ab sb : Option Addr) (cb cs : Nat) (l : List UInt8) (u : List Nat) (n r t : Nat) (w : World) (ha : RB w ⟨k, x, p, o, l, u, n, r, t⟩ ab sb cb cs) (he : ⟨k, x, p, o, l, u, n, r, t⟩ = bareR ⟨k, x, p, o, l, u, n, r, t⟩) (hp0 : 0 ≤ p) (hp1 : p < 128) (hx1 : x ≤ 4000) (hr1 : ¬ r ≤ 4611686018427387904) :
    Calls Try.prog 16 #[rv k x p o ab l.length cb sb u.length cs n r t] w fun e w' => e = .returned (.bool (mayB ⟨k, x, p, o, l, u, n, r, t⟩)) ∧ Below w.heap.size w w' := by
  have HEq := Lib.hid he
  have hM : mayB ⟨k, x, p, o, l, u, n, r, t⟩ = false := by unfold mayB; rw [decide_eq_true he]; simp only []; simp [hp0, hp1, hx1, hr1]
  clear he
  have hd0 : decide (p < 0) = false := by simp; omega
  have hd1 : decide (128 ≤ p) = false := by simp; omega
  have hd2 : decide (4000 < (x : Int)) = false := by simp; omega
  have hd3 : decide (4611686018427387904 < (r : Int)) = true := by simp; omega
  go_enter Try.func16, Try.ntmps16
  go_wp2_with fail
  obtain ⟨W, hW⟩ : ∃ W, W = w.alloc (.cells #[.int .i64 k, .int .u64 x, .int .i64 p, .int .i64 o, .slice ab l.length cb, .slice sb u.length cs, .int .u64 n, .int .u64 r, .int .u64 t] 27) := ⟨_, rfl⟩
  have hB0 : Below w.heap.size w W := by rw [hW]; exact below_alloc _ _
  have hG : W.heap[w.heap.size]? = some (.cells #[.int .i64 k, .int .u64 x, .int .i64 p, .int .i64 o, .slice ab l.length cb, .slice sb u.length cs, .int .u64 n, .int .u64 r, .int .u64 t] 27 (0, 0)) := by rw [hW]; exact heap_alloc_new _ _
  have hsz : w.heap.size < W.heap.size := by rw [hW]; simp
  rw [← hW]
  have KF0 : ∀ w', Below W.heap.size W w' → (loadVar 27 ⟨w.heap.size, 0, none⟩).run Try.prog w' = .ok (rv k x p o ab l.length cb sb u.length cs n r t) w' ∧ w'.cell? ⟨w.heap.size, 0, none⟩ = some (.int .i64 k) ∧ w'.cell? ⟨w.heap.size, 1, none⟩ = some (.int .u64 x) ∧ w'.cell? ⟨w.heap.size, 2, none⟩ = some (.int .i64 p) ∧ w'.cell? ⟨w.heap.size, 3, none⟩ = some (.int .i64 o) ∧ w'.cell? ⟨w.heap.size, 4, none⟩ = some (.slice ab l.length cb) ∧ w'.cell? ⟨w.heap.size, 5, none⟩ = some (.slice sb u.length cs) ∧ w'.cell? ⟨w.heap.size, 6, none⟩ = some (.int .u64 n) ∧ w'.cell? ⟨w.heap.size, 7, none⟩ = some (.int .u64 r) ∧ w'.cell? ⟨w.heap.size, 8, none⟩ = some (.int .u64 t) := fun w' h => loads9 k x p o ab sb cb cs l u n r t _ w' ((h.block _ hsz).trans hG)
  clear hW hG
  have KF : ∀ w', Below W.drew.heap.size W.drew w' → (loadVar 27 ⟨w.heap.size, 0, none⟩).run Try.prog w' = .ok (rv k x p o ab l.length cb sb u.length cs n r t) w' ∧ w'.cell? ⟨w.heap.size, 0, none⟩ = some (.int .i64 k) ∧ w'.cell? ⟨w.heap.size, 1, none⟩ = some (.int .u64 x) ∧ w'.cell? ⟨w.heap.size, 2, none⟩ = some (.int .i64 p) ∧ w'.cell? ⟨w.heap.size, 3, none⟩ = some (.int .i64 o) ∧ w'.cell? ⟨w.heap.size, 4, none⟩ = some (.slice ab l.length cb) ∧ w'.cell? ⟨w.heap.size, 5, none⟩ = some (.slice sb u.length cs) ∧ w'.cell? ⟨w.heap.size, 6, none⟩ = some (.int .u64 n) ∧ w'.cell? ⟨w.heap.size, 7, none⟩ = some (.int .u64 r) ∧ w'.cell? ⟨w.heap.size, 8, none⟩ = some (.int .u64 t) := fun w' h => KF0 w' (belT (Below.refl _ _).drew h)
  refine seq_start 25 [false, false, false, false, false, false, false, false, false, false, false, false, false, false, false, false, false, false, false, false, false, false, false, false, false] (by kernel_rfl) rfl rfl ?_
  refine seq_take 0 (v := ?_) rfl (by kernel_rfl) (fun _ _ _ h => h) (Or.inl ⟨by rfl, fun w' hb => ?_⟩) ?_
  rotate_left
  · have kf := KF w' hb
    go_simp
    with_reducible rfl
  simp only [Act.put, List.setIfInBounds_toArray, List.set_cons_zero, List.set_cons_succ]
  refine seq_take 1 (v := ?_) rfl (by kernel_rfl) (fun _ _ _ h => h) (Or.inl ⟨by rfl, fun w' hb => ?_⟩) ?_
  rotate_left
  · have kf := KF w' hb
    go_simp
    with_reducible rfl
  simp only [Act.put, List.setIfInBounds_toArray, List.set_cons_zero, List.set_cons_succ]
  refine seq_do 2 rfl (by kernel_rfl) (fun K hK => ?_)
  go_simp
  refine (bareAny k x p o ab sb cb cs l u n r t _ (ha.below (belT hB0 (Below.refl _ _).drew))).mono ?_
  rintro e w1 ⟨⟨k2, x2, p2, o2, ab2, sb2, cb2, cs2, l2, u2, n2, r2, t2, hR, rfl, hR2⟩, hb1⟩
  refine hK.out _ _ hb1 ?_
  clear hK K
  simp only [List.set_cons_zero, List.set_cons_succ]
  have hb1 := belT (Below.refl _ _).drew hb1
  replace KF : ∀ w', Below w1.heap.size w1 w' → (loadVar 27 ⟨w.heap.size, 0, none⟩).run Try.prog w' = .ok (rv k x p o ab l.length cb sb u.length cs n r t) w' ∧ w'.cell? ⟨w.heap.size, 0, none⟩ = some (.int .i64 k) ∧ w'.cell? ⟨w.heap.size, 1, none⟩ = some (.int .u64 x) ∧ w'.cell? ⟨w.heap.size, 2, none⟩ = some (.int .i64 p) ∧ w'.cell? ⟨w.heap.size, 3, none⟩ = some (.int .i64 o) ∧ w'.cell? ⟨w.heap.size, 4, none⟩ = some (.slice ab l.length cb) ∧ w'.cell? ⟨w.heap.size, 5, none⟩ = some (.slice sb u.length cs) ∧ w'.cell? ⟨w.heap.size, 6, none⟩ = some (.int .u64 n) ∧ w'.cell? ⟨w.heap.size, 7, none⟩ = some (.int .u64 r) ∧ w'.cell? ⟨w.heap.size, 8, none⟩ = some (.int .u64 t) := fun w' h => KF0 w' (belT hb1 h)
  refine seq_do 3 rfl (by kernel_rfl) (fun K hK => ?_)
  go_simp
  refine (SameF k x p o ab sb cb cs l u n r t k2 x2 p2 o2 ab2 sb2 cb2 cs2 l2 u2 n2 r2 t2 _ (ha.below (belT hB0 hb1)) hR2).mono ?_
  rw [← hR, decide_eq_true HEq.out]
  rintro e w2 ⟨rfl, hb2⟩
  refine hK.out _ _ hb2 ?_
  clear hK K
  simp only [List.set_cons_zero, List.set_cons_succ]
  have hb2 := belT hb1 hb2
  replace KF : ∀ w', Below w2.heap.size w2 w' → (loadVar 27 ⟨w.heap.size, 0, none⟩).run Try.prog w' = .ok (rv k x p o ab l.length cb sb u.length cs n r t) w' ∧ w'.cell? ⟨w.heap.size, 0, none⟩ = some (.int .i64 k) ∧ w'.cell? ⟨w.heap.size, 1, none⟩ = some (.int .u64 x) ∧ w'.cell? ⟨w.heap.size, 2, none⟩ = some (.int .i64 p) ∧ w'.cell? ⟨w.heap.size, 3, none⟩ = some (.int .i64 o) ∧ w'.cell? ⟨w.heap.size, 4, none⟩ = some (.slice ab l.length cb) ∧ w'.cell? ⟨w.heap.size, 5, none⟩ = some (.slice sb u.length cs) ∧ w'.cell? ⟨w.heap.size, 6, none⟩ = some (.int .u64 n) ∧ w'.cell? ⟨w.heap.size, 7, none⟩ = some (.int .u64 r) ∧ w'.cell? ⟨w.heap.size, 8, none⟩ = some (.int .u64 t) := fun w' h => KF0 w' (belT hb2 h)
  refine seq_take 4 (v := ?_) rfl (by kernel_rfl) (fun _ _ _ h => h) (Or.inl ⟨by rfl, fun w' hb => ?_⟩) ?_
  rotate_left
  · have kf := KF w' hb
    go_simp
    with_reducible rfl
  simp only [Act.put, List.setIfInBounds_toArray, List.set_cons_zero, List.set_cons_succ]
  refine seq_take 5 (v := ?_) rfl (by kernel_rfl) (fun _ _ _ h => h) (Or.inl ⟨by rfl, fun w' hb => ?_⟩) ?_
  rotate_left
  · have kf := KF w' hb
    go_simp
    with_reducible rfl
  simp only [Act.put, List.setIfInBounds_toArray, List.set_cons_zero, List.set_cons_succ]
  refine seq_take 6 (v := ?_) rfl (by kernel_rfl) (fun _ _ _ h => h) (Or.inl ⟨by rfl, fun w' hb => ?_⟩) ?_
  rotate_left
  · have kf := KF w' hb
    go_simp
    with_reducible rfl
  simp only [Act.put, List.setIfInBounds_toArray, List.set_cons_zero, List.set_cons_succ]
  refine seq_take 7 (v := ?_) rfl (by kernel_rfl) (fun _ _ _ h => h) (Or.inl ⟨by rfl, fun w' hb => ?_⟩) ?_
  rotate_left
  · have kf := KF w' hb
    go_simp
    with_reducible rfl
  simp only [Act.put, List.setIfInBounds_toArray, List.set_cons_zero, List.set_cons_succ]
  refine seq_take 8 (v := ?_) rfl (by kernel_rfl) (fun _ _ _ h => h) (Or.inl ⟨by rfl, fun w' hb => ?_⟩) ?_
  rotate_left
  · have kf := KF w' hb
    go_simp
    with_reducible rfl
  simp only [Act.put, List.setIfInBounds_toArray, List.set_cons_zero, List.set_cons_succ]
  refine seq_take 9 (v := ?_) rfl (by kernel_rfl) (fun _ _ _ h => h) (Or.inl ⟨by rfl, fun w' hb => ?_⟩) ?_
  rotate_left
  · have kf := KF w' hb
    go_simp
    with_reducible rfl
  simp only [Act.put, List.setIfInBounds_toArray, List.set_cons_zero, List.set_cons_succ]
  refine seq_take 10 (v := ?_) rfl (by kernel_rfl) (fun _ _ _ h => h) (Or.inl ⟨by rfl, fun w' hb => ?_⟩) ?_
  rotate_left
  · have kf := KF w' hb
    go_simp
    with_reducible rfl
  simp only [Act.put, List.setIfInBounds_toArray, List.set_cons_zero, List.set_cons_succ]
  refine seq_take 11 (v := ?_) rfl (by kernel_rfl) (fun _ _ _ h => h) (Or.inl ⟨by rfl, fun w' hb => ?_⟩) ?_
  rotate_left
  · have kf := KF w' hb
    go_simp
    with_reducible rfl
  simp only [Act.put, List.setIfInBounds_toArray, List.set_cons_zero, List.set_cons_succ]
  refine seq_take 12 (v := ?_) rfl (by kernel_rfl) (fun _ _ _ h => h) (Or.inl ⟨by rfl, fun w' hb => ?_⟩) ?_
  rotate_left
  · have kf := KF w' hb
    go_simp
    with_reducible rfl
  simp only [Act.put, List.setIfInBounds_toArray, List.set_cons_zero, List.set_cons_succ]
  refine seq_take 13 (v := ?_) rfl (by kernel_rfl) (fun _ _ _ h => h) (Or.inl ⟨by rfl, fun w' hb => ?_⟩) ?_
  rotate_left
  · have kf := KF w' hb
    go_simp
    with_reducible rfl
  simp only [Act.put, List.setIfInBounds_toArray, List.set_cons_zero, List.set_cons_succ]
  refine seq_take 14 (v := ?_) rfl (by kernel_rfl) (fun _ _ _ h => h) (Or.inl ⟨by rfl, fun w' hb => ?_⟩) ?_
  rotate_left
  · have kf := KF w' hb
    go_simp
    with_reducible rfl
  simp only [Act.put, List.setIfInBounds_toArray, List.set_cons_zero, List.set_cons_succ]
  refine seq_take 15 (v := ?_) rfl (by kernel_rfl) (fun _ _ _ h => h) (Or.inl ⟨by rfl, fun w' hb => ?_⟩) ?_
  rotate_left
  · have kf := KF w' hb
    go_simp
    with_reducible rfl
  simp only [Act.put, List.setIfInBounds_toArray, List.set_cons_zero, List.set_cons_succ]
  refine seq_take 16 (v := ?_) rfl (by kernel_rfl) (fun _ _ _ h => h) (Or.inl ⟨by rfl, fun w' hb => ?_⟩) ?_
  rotate_left
  · have kf := KF w' hb
    go_simp
    with_reducible rfl
  simp only [Act.put, List.setIfInBounds_toArray, List.set_cons_zero, List.set_cons_succ]
  refine seq_take 17 (v := ?_) rfl (by kernel_rfl) (fun _ _ _ h => h) (Or.inl ⟨by rfl, fun w' hb => ?_⟩) ?_
  rotate_left
  · have kf := KF w' hb
    go_simp
    with_reducible rfl
  simp only [Act.put, List.setIfInBounds_toArray, List.set_cons_zero, List.set_cons_succ]
  refine seq_take 18 (v := ?_) rfl (by kernel_rfl) (fun _ _ _ h => h) (Or.inl ⟨by rfl, fun w' hb => ?_⟩) ?_
  rotate_left
  · have kf := KF w' hb
    go_simp
    with_reducible rfl
  simp only [Act.put, List.setIfInBounds_toArray, List.set_cons_zero, List.set_cons_succ]
  refine seq_take 19 (v := ?_) rfl (by kernel_rfl) (fun _ _ _ h => h) (Or.inl ⟨by rfl, fun w' hb => ?_⟩) ?_
  rotate_left
  · have kf := KF w' hb
    go_simp
    with_reducible rfl
  simp only [Act.put, List.setIfInBounds_toArray, List.set_cons_zero, List.set_cons_succ]
  refine seq_take 20 (v := ?_) rfl (by kernel_rfl) (fun _ _ _ h => h) (Or.inl ⟨by rfl, fun w' hb => ?_⟩) ?_
  rotate_left
  · have kf := KF w' hb
    go_simp
    with_reducible rfl
  simp only [Act.put, List.setIfInBounds_toArray, List.set_cons_zero, List.set_cons_succ]
  refine seq_take 21 (v := ?_) rfl (by kernel_rfl) (fun _ _ _ h => h) (Or.inl ⟨by rfl, fun w' hb => ?_⟩) ?_
  rotate_left
  · have kf := KF w' hb
    go_simp
    with_reducible rfl
  simp only [Act.put, List.setIfInBounds_toArray, List.set_cons_zero, List.set_cons_succ]
  refine seq_take 22 (v := ?_) rfl (by kernel_rfl) (fun _ _ _ h => h) (Or.inl ⟨by rfl, fun w' hb => ?_⟩) ?_
  rotate_left
  · have kf := KF w' hb
    go_simp
    with_reducible rfl
  simp only [Act.put, List.setIfInBounds_toArray, List.set_cons_zero, List.set_cons_succ]
  refine seq_take 23 (v := ?_) rfl (by kernel_rfl) (fun _ _ _ h => h) (Or.inl ⟨by rfl, fun w' hb => ?_⟩) ?_
  rotate_left
  · have kf := KF w' hb
    go_simp
    with_reducible rfl
  simp only [Act.put, List.setIfInBounds_toArray, List.set_cons_zero, List.set_cons_succ]
  refine seq_take 24 (v := ?_) rfl (by kernel_rfl) (fun _ _ _ h => h) (Or.inl ⟨by rfl, fun w' hb => ?_⟩) ?_
  rotate_left
  · have kf := KF w' hb
    go_simp
    with_reducible rfl
  simp only [Act.put, List.setIfInBounds_toArray, List.set_cons_zero, List.set_cons_succ]
  refine seq_end (by kernel_rfl) ?_
  go_wp2_with fail
  go_ret
  exact ⟨by rw [hM]; rfl, belT hB0 hb2⟩
set_option maxRecDepth 100000 in
set_option maxHeartbeats 8000000 in
theorem May1a (x : Nat) (p o : Int) (ab sb : Option Addr) (cb cs : Nat) (l : List UInt8) (u : List Nat) (n r t : Nat) (w : World) (ha : RB w ⟨1, x, p, o, l, u, n, r, t⟩ ab sb cb cs) (he : ⟨1, x, p, o, l, u, n, r, t⟩ = bareR ⟨1, x, p, o, l, u, n, r, t⟩) (hp0 : 0 ≤ p) (hp1 : p < 128) (hx1 : x ≤ 4000) (hr1 : r ≤ 4611686018427387904) (q1 : ¬ 12 ≤ o) :
    Calls Try.prog 16 #[rv 1 x p o ab l.length cb sb u.length cs n r t] w fun e w' => e = .returned (.bool (mayB ⟨1, x, p, o, l, u, n, r, t⟩)) ∧ Below w.heap.size w w' := by
  have HEq := Lib.hid he
  have hK : kindB ⟨1, x, p, o, l, u, n, r, t⟩ = false := by simp [kindB]; omega
  have hM : mayB ⟨1, x, p, o, l, u, n, r, t⟩ = false := by unfold mayB; rw [decide_eq_true he, hK]; simp [hp0, hp1, hx1, hr1]
  clear he hK
  have hd0 : decide (p < 0) = false := by simp; omega
  have hd1 : decide (128 ≤ p) = false := by simp; omega
  have hd2 : decide (4000 < (x : Int)) = false := by simp; omega
  have hd3 : decide (4611686018427387904 < (r : Int)) = false := by simp; omega
  go_enter Try.func16, Try.ntmps16
  go_wp2_with fail
  obtain ⟨W, hW⟩ : ∃ W, W = w.alloc (.cells #[.int .i64 1, .int .u64 x, .int .i64 p, .int .i64 o, .slice ab l.length cb, .slice sb u.length cs, .int .u64 n, .int .u64 r, .int .u64 t] 27) := ⟨_, rfl⟩
  have hB0 : Below w.heap.size w W := by rw [hW]; exact below_alloc _ _
  have hG : W.heap[w.heap.size]? = some (.cells #[.int .i64 1, .int .u64 x, .int .i64 p, .int .i64 o, .slice ab l.length cb, .slice sb u.length cs, .int .u64 n, .int .u64 r, .int .u64 t] 27 (0, 0)) := by rw [hW]; exact heap_alloc_new _ _
  have hsz : w.heap.size < W.heap.size := by rw [hW]; simp
  rw [← hW]
  have KF0 : ∀ w', Below W.heap.size W w' → (loadVar 27 ⟨w.heap.size, 0, none⟩).run Try.prog w' = .ok (rv 1 x p o ab l.length cb sb u.length cs n r t) w' ∧ w'.cell? ⟨w.heap.size, 0, none⟩ = some (.int .i64 1) ∧ w'.cell? ⟨w.heap.size, 1, none⟩ = some (.int .u64 x) ∧ w'.cell? ⟨w.heap.size, 2, none⟩ = some (.int .i64 p) ∧ w'.cell? ⟨w.heap.size, 3, none⟩ = some (.int .i64 o) ∧ w'.cell? ⟨w.heap.size, 4, none⟩ = some (.slice ab l.length cb) ∧ w'.cell? ⟨w.heap.size, 5, none⟩ = some (.slice sb u.length cs) ∧ w'.cell? ⟨w.heap.size, 6, none⟩ = some (.int .u64 n) ∧ w'.cell? ⟨w.heap.size, 7, none⟩ = some (.int .u64 r) ∧ w'.cell? ⟨w.heap.size, 8, none⟩ = some (.int .u64 t) := fun w' h => loads9 1 x p o ab sb cb cs l u n r t _ w' ((h.block _ hsz).trans hG)
  clear hW hG
  have KF : ∀ w', Below W.drew.heap.size W.drew w' → (loadVar 27 ⟨w.heap.size, 0, none⟩).run Try.prog w' = .ok (rv 1 x p o ab l.length cb sb u.length cs n r t) w' ∧ w'.cell? ⟨w.heap.size, 0, none⟩ = some (.int .i64 1) ∧ w'.cell? ⟨w.heap.size, 1, none⟩ = some (.int .u64 x) ∧ w'.cell? ⟨w.heap.size, 2, none⟩ = some (.int .i64 p) ∧ w'.cell? ⟨w.heap.size, 3, none⟩ = some (.int .i64 o) ∧ w'.cell? ⟨w.heap.size, 4, none⟩ = some (.slice ab l.length cb) ∧ w'.cell? ⟨w.heap.size, 5, none⟩ = some (.slice sb u.length cs) ∧ w'.cell? ⟨w.heap.size, 6, none⟩ = some (.int .u64 n) ∧ w'.cell? ⟨w.heap.size, 7, none⟩ = some (.int .u64 r) ∧ w'.cell? ⟨w.heap.size, 8, none⟩ = some (.int .u64 t) := fun w' h => KF0 w' (belT (Below.refl _ _).drew h)
  refine seq_start 25 [false, false, false, false, false, false, false, false, false, false, false, false, false, false, false, false, false, false, false, false, false, false, false, false, false] (by kernel_rfl) rfl rfl ?_
  refine seq_take 0 (v := ?_) rfl (by kernel_rfl) (fun _ _ _ h => h) (Or.inl ⟨by rfl, fun w' hb => ?_⟩) ?_
  rotate_left
  · have kf := KF w' hb
    go_simp
    with_reducible rfl
  simp only [Act.put, List.setIfInBounds_toArray, List.set_cons_zero, List.set_cons_succ]
  refine seq_take 1 (v := ?_) rfl (by kernel_rfl) (fun _ _ _ h => h) (Or.inl ⟨by rfl, fun w' hb => ?_⟩) ?_
  rotate_left
  · have kf := KF w' hb
    go_simp
    with_reducible rfl
  simp only [Act.put, List.setIfInBounds_toArray, List.set_cons_zero, List.set_cons_succ]
  refine seq_do 2 rfl (by kernel_rfl) (fun K hK => ?_)
  go_simp
  refine (bareAny 1 x p o ab sb cb cs l u n r t _ (ha.below (belT hB0 (Below.refl _ _).drew))).mono ?_
  rintro e w1 ⟨⟨k2, x2, p2, o2, ab2, sb2, cb2, cs2, l2, u2, n2, r2, t2, hR, rfl, hR2⟩, hb1⟩
  refine hK.out _ _ hb1 ?_
  clear hK K
  simp only [List.set_cons_zero, List.set_cons_succ]
  have hb1 := belT (Below.refl _ _).drew hb1
  replace KF : ∀ w', Below w1.heap.size w1 w' → (loadVar 27 ⟨w.heap.size, 0, none⟩).run Try.prog w' = .ok (rv 1 x p o ab l.length cb sb u.length cs n r t) w' ∧ w'.cell? ⟨w.heap.size, 0, none⟩ = some (.int .i64 1) ∧ w'.cell? ⟨w.heap.size, 1, none⟩ = some (.int .u64 x) ∧ w'.cell? ⟨w.heap.size, 2, none⟩ = some (.int .i64 p) ∧ w'.cell? ⟨w.heap.size, 3, none⟩ = some (.int .i64 o) ∧ w'.cell? ⟨w.heap.size, 4, none⟩ = some (.slice ab l.length cb) ∧ w'.cell? ⟨w.heap.size, 5, none⟩ = some (.slice sb u.length cs) ∧ w'.cell? ⟨w.heap.size, 6, none⟩ = some (.int .u64 n) ∧ w'.cell? ⟨w.heap.size, 7, none⟩ = some (.int .u64 r) ∧ w'.cell? ⟨w.heap.size, 8, none⟩ = some (.int .u64 t) := fun w' h => KF0 w' (belT hb1 h)
  refine seq_do 3 rfl (by kernel_rfl) (fun K hK => ?_)
  go_simp
  refine (SameF 1 x p o ab sb cb cs l u n r t k2 x2 p2 o2 ab2 sb2 cb2 cs2 l2 u2 n2 r2 t2 _ (ha.below (belT hB0 hb1)) hR2).mono ?_
  rw [← hR, decide_eq_true HEq.out]
  rintro e w2 ⟨rfl, hb2⟩
  refine hK.out _ _ hb2 ?_
  clear hK K
  simp only [List.set_cons_zero, List.set_cons_succ]
  have hb2 := belT hb1 hb2
  replace KF : ∀ w', Below w2.heap.size w2 w' → (loadVar 27 ⟨w.heap.size, 0, none⟩).run Try.prog w' = .ok (rv 1 x p o ab l.length cb sb u.length cs n r t) w' ∧ w'.cell? ⟨w.heap.size, 0, none⟩ = some (.int .i64 1) ∧ w'.cell? ⟨w.heap.size, 1, none⟩ = some (.int .u64 x) ∧ w'.cell? ⟨w.heap.size, 2, none⟩ = some (.int .i64 p) ∧ w'.cell? ⟨w.heap.size, 3, none⟩ = some (.int .i64 o) ∧ w'.cell? ⟨w.heap.size, 4, none⟩ = some (.slice ab l.length cb) ∧ w'.cell? ⟨w.heap.size, 5, none⟩ = some (.slice sb u.length cs) ∧ w'.cell? ⟨w.heap.size, 6, none⟩ = some (.int .u64 n) ∧ w'.cell? ⟨w.heap.size, 7, none⟩ = some (.int .u64 r) ∧ w'.cell? ⟨w.heap.size, 8, none⟩ = some (.int .u64 t) := fun w' h => KF0 w' (belT hb2 h)
  refine seq_take 4 (v := ?_) rfl (by kernel_rfl) (fun _ _ _ h => h) (Or.inl ⟨by rfl, fun w' hb => ?_⟩) ?_
  rotate_left
  · have kf := KF w' hb
    go_simp
    with_reducible rfl
  simp only [Act.put, List.setIfInBounds_toArray, List.set_cons_zero, List.set_cons_succ]
  refine seq_take 5 (v := ?_) rfl (by kernel_rfl) (fun _ _ _ h => h) (Or.inl ⟨by rfl, fun w' hb => ?_⟩) ?_
  rotate_left
  · have kf := KF w' hb
    go_simp
    with_reducible rfl
  simp only [Act.put, List.setIfInBounds_toArray, List.set_cons_zero, List.set_cons_succ]
  refine seq_take 6 (v := ?_) rfl (by kernel_rfl) (fun _ _ _ h => h) (Or.inl ⟨by rfl, fun w' hb => ?_⟩) ?_
  rotate_left
  · have kf := KF w' hb
    go_simp
    with_reducible rfl
  simp only [Act.put, List.setIfInBounds_toArray, List.set_cons_zero, List.set_cons_succ]
  refine seq_take 7 (v := ?_) rfl (by kernel_rfl) (fun _ _ _ h => h) (Or.inl ⟨by rfl, fun w' hb => ?_⟩) ?_
  rotate_left
  · have kf := KF w' hb
    go_simp
    with_reducible rfl
  simp only [Act.put, List.setIfInBounds_toArray, List.set_cons_zero, List.set_cons_succ]
  refine seq_take 8 (v := ?_) rfl (by kernel_rfl) (fun _ _ _ h => h) (Or.inl ⟨by rfl, fun w' hb => ?_⟩) ?_
  rotate_left
  · have kf := KF w' hb
    go_simp
    with_reducible rfl
  simp only [Act.put, List.setIfInBounds_toArray, List.set_cons_zero, List.set_cons_succ]
  refine seq_take 9 (v := ?_) rfl (by kernel_rfl) (fun _ _ _ h => h) (Or.inl ⟨by rfl, fun w' hb => ?_⟩) ?_
  rotate_left
  · have kf := KF w' hb
    go_simp
    with_reducible rfl
  simp only [Act.put, List.setIfInBounds_toArray, List.set_cons_zero, List.set_cons_succ]
  refine seq_take 10 (v := ?_) rfl (by kernel_rfl) (fun _ _ _ h => h) (Or.inl ⟨by rfl, fun w' hb => ?_⟩) ?_
  rotate_left
  · have kf := KF w' hb
    go_simp
    with_reducible rfl
  simp only [Act.put, List.setIfInBounds_toArray, List.set_cons_zero, List.set_cons_succ]
  refine seq_take 11 (v := ?_) rfl (by kernel_rfl) (fun _ _ _ h => h) (Or.inl ⟨by rfl, fun w' hb => ?_⟩) ?_
  rotate_left
  · have kf := KF w' hb
    go_simp
    with_reducible rfl
  simp only [Act.put, List.setIfInBounds_toArray, List.set_cons_zero, List.set_cons_succ]
  refine seq_take 12 (v := ?_) rfl (by kernel_rfl) (fun _ _ _ h => h) (Or.inl ⟨by rfl, fun w' hb => ?_⟩) ?_
  rotate_left
  · have kf := KF w' hb
    go_simp
    with_reducible rfl
  simp only [Act.put, List.setIfInBounds_toArray, List.set_cons_zero, List.set_cons_succ]
  refine seq_take 13 (v := ?_) rfl (by kernel_rfl) (fun _ _ _ h => h) (Or.inl ⟨by rfl, fun w' hb => ?_⟩) ?_
  rotate_left
  · have kf := KF w' hb
    go_simp
    with_reducible rfl
  simp only [Act.put, List.setIfInBounds_toArray, List.set_cons_zero, List.set_cons_succ]
  refine seq_take 14 (v := ?_) rfl (by kernel_rfl) (fun _ _ _ h => h) (Or.inl ⟨by rfl, fun w' hb => ?_⟩) ?_
  rotate_left
  · have kf := KF w' hb
    go_simp
    with_reducible rfl
  simp only [Act.put, List.setIfInBounds_toArray, List.set_cons_zero, List.set_cons_succ]
  refine seq_take 15 (v := ?_) rfl (by kernel_rfl) (fun _ _ _ h => h) (Or.inl ⟨by rfl, fun w' hb => ?_⟩) ?_
  rotate_left
  · have kf := KF w' hb
    go_simp
    with_reducible rfl
  simp only [Act.put, List.setIfInBounds_toArray, List.set_cons_zero, List.set_cons_succ]
  refine seq_take 16 (v := ?_) rfl (by kernel_rfl) (fun _ _ _ h => h) (Or.inl ⟨by rfl, fun w' hb => ?_⟩) ?_
  rotate_left
  · have kf := KF w' hb
    go_simp
    with_reducible rfl
  simp only [Act.put, List.setIfInBounds_toArray, List.set_cons_zero, List.set_cons_succ]
  refine seq_take 17 (v := ?_) rfl (by kernel_rfl) (fun _ _ _ h => h) (Or.inl ⟨by rfl, fun w' hb => ?_⟩) ?_
  rotate_left
  · have kf := KF w' hb
    go_simp
    with_reducible rfl
  simp only [Act.put, List.setIfInBounds_toArray, List.set_cons_zero, List.set_cons_succ]
  refine seq_take 18 (v := ?_) rfl (by kernel_rfl) (fun _ _ _ h => h) (Or.inl ⟨by rfl, fun w' hb => ?_⟩) ?_
  rotate_left
  · have kf := KF w' hb
    go_simp
    with_reducible rfl
  simp only [Act.put, List.setIfInBounds_toArray, List.set_cons_zero, List.set_cons_succ]
  refine seq_take 19 (v := ?_) rfl (by kernel_rfl) (fun _ _ _ h => h) (Or.inl ⟨by rfl, fun w' hb => ?_⟩) ?_
  rotate_left
  · have kf := KF w' hb
    go_simp
    with_reducible rfl
  simp only [Act.put, List.setIfInBounds_toArray, List.set_cons_zero, List.set_cons_succ]
  refine seq_take 20 (v := ?_) rfl (by kernel_rfl) (fun _ _ _ h => h) (Or.inl ⟨by rfl, fun w' hb => ?_⟩) ?_
  rotate_left
  · have kf := KF w' hb
    go_simp
    with_reducible rfl
  simp only [Act.put, List.setIfInBounds_toArray, List.set_cons_zero, List.set_cons_succ]
  refine seq_take 21 (v := ?_) rfl (by kernel_rfl) (fun _ _ _ h => h) (Or.inl ⟨by rfl, fun w' hb => ?_⟩) ?_
  rotate_left
  · have kf := KF w' hb
    go_simp
    with_reducible rfl
  simp only [Act.put, List.setIfInBounds_toArray, List.set_cons_zero, List.set_cons_succ]
  refine seq_take 22 (v := ?_) rfl (by kernel_rfl) (fun _ _ _ h => h) (Or.inl ⟨by rfl, fun w' hb => ?_⟩) ?_
  rotate_left
  · have kf := KF w' hb
    go_simp
    with_reducible rfl
  simp only [Act.put, List.setIfInBounds_toArray, List.set_cons_zero, List.set_cons_succ]
  refine seq_take 23 (v := ?_) rfl (by kernel_rfl) (fun _ _ _ h => h) (Or.inl ⟨by rfl, fun w' hb => ?_⟩) ?_
  rotate_left
  · have kf := KF w' hb
    go_simp
    with_reducible rfl
  simp only [Act.put, List.setIfInBounds_toArray, List.set_cons_zero, List.set_cons_succ]
  refine seq_take 24 (v := ?_) rfl (by kernel_rfl) (fun _ _ _ h => h) (Or.inl ⟨by rfl, fun w' hb => ?_⟩) ?_
  rotate_left
  · have kf := KF w' hb
    go_simp
    with_reducible rfl
  simp only [Act.put, List.setIfInBounds_toArray, List.set_cons_zero, List.set_cons_succ]
  refine seq_end (by kernel_rfl) ?_
  obtain ⟨-, z0, z1, z2, z3, z4, z5, z6, z7, z8⟩ := KF w2 (Below.refl _ _)
  clear KF KF0
  have d1 : decide ((12 : Int) ≤ o) = false := by simp; omega
  go_wp2_with fail
  go_ret
  exact ⟨by rw [hM]; first | rfl | (simp; done) | (simp; omega), belT hB0 hb2⟩
set_option maxRecDepth 100000 in
set_option maxHeartbeats 8000000 in
theorem May1b (x : Nat) (p o : Int) (ab sb : Option Addr) (cb cs : Nat) (l : List UInt8) (u : List Nat) (n r t : Nat) (w : World) (ha : RB w ⟨1, x, p, o, l, u, n, r, t⟩ ab sb cb cs) (he : ⟨1, x, p, o, l, u, n, r, t⟩ = bareR ⟨1, x, p, o, l, u, n, r, t⟩) (hp0 : 0 ≤ p) (hp1 : p < 128) (hx1 : x ≤ 4000) (hr1 : r ≤ 4611686018427387904) (q1 : 12 ≤ o) (q2 : ¬ 1 ≤ l.length) :
    Calls Try.prog 16 #[rv 1 x p o ab l.length cb sb u.length cs n r t] w fun e w' => e = .returned (.bool (mayB ⟨1, x, p, o, l, u, n, r, t⟩)) ∧ Below w.heap.size w w' := by
  have HEq := Lib.hid he
  have hK : kindB ⟨1, x, p, o, l, u, n, r, t⟩ = false := by simp [kindB]; omega
  have hM : mayB ⟨1, x, p, o, l, u, n, r, t⟩ = false := by unfold mayB; rw [decide_eq_true he, hK]; simp [hp0, hp1, hx1, hr1]
  clear he hK
  have hd0 : decide (p < 0) = false := by simp; omega
  have hd1 : decide (128 ≤ p) = false := by simp; omega
  have hd2 : decide (4000 < (x : Int)) = false := by simp; omega
  have hd3 : decide (4611686018427387904 < (r : Int)) = false := by simp; omega
  go_enter Try.func16, Try.ntmps16
  go_wp2_with fail
  obtain ⟨W, hW⟩ : ∃ W, W = w.alloc (.cells #[.int .i64 1, .int .u64 x, .int .i64 p, .int .i64 o, .slice ab l.length cb, .slice sb u.length cs, .int .u64 n, .int .u64 r, .int .u64 t] 27) := ⟨_, rfl⟩
  have hB0 : Below w.heap.size w W := by rw [hW]; exact below_alloc _ _
  have hG : W.heap[w.heap.size]? = some (.cells #[.int .i64 1, .int .u64 x, .int .i64 p, .int .i64 o, .slice ab l.length cb, .slice sb u.length cs, .int .u64 n, .int .u64 r, .int .u64 t] 27 (0, 0)) := by rw [hW]; exact heap_alloc_new _ _
  have hsz : w.heap.size < W.heap.size := by rw [hW]; simp
  rw [← hW]
  have KF0 : ∀ w', Below W.heap.size W w' → (loadVar 27 ⟨w.heap.size, 0, none⟩).run Try.prog w' = .ok (rv 1 x p o ab l.length cb sb u.length cs n r t) w' ∧ w'.cell? ⟨w.heap.size, 0, none⟩ = some (.int .i64 1) ∧ w'.cell? ⟨w.heap.size, 1, none⟩ = some (.int .u64 x) ∧ w'.cell? ⟨w.heap.size, 2, none⟩ = some (.int .i64 p) ∧ w'.cell? ⟨w.heap.size, 3, none⟩ = some (.int .i64 o) ∧ w'.cell? ⟨w.heap.size, 4, none⟩ = some (.slice ab l.length cb) ∧ w'.cell? ⟨w.heap.size, 5, none⟩ = some (.slice sb u.length cs) ∧ w'.cell? ⟨w.heap.size, 6, none⟩ = some (.int .u64 n) ∧ w'.cell? ⟨w.heap.size, 7, none⟩ = some (.int .u64 r) ∧ w'.cell? ⟨w.heap.size, 8, none⟩ = some (.int .u64 t) := fun w' h => loads9 1 x p o ab sb cb cs l u n r t _ w' ((h.block _ hsz).trans hG)
  clear hW hG
  have KF : ∀ w', Below W.drew.heap.size W.drew w' → (loadVar 27 ⟨w.heap.size, 0, none⟩).run Try.prog w' = .ok (rv 1 x p o ab l.length cb sb u.length cs n r t) w' ∧ w'.cell? ⟨w.heap.size, 0, none⟩ = some (.int .i64 1) ∧ w'.cell? ⟨w.heap.size, 1, none⟩ = some (.int .u64 x) ∧ w'.cell? ⟨w.heap.size, 2, none⟩ = some (.int .i64 p) ∧ w'.cell? ⟨w.heap.size, 3, none⟩ = some (.int .i64 o) ∧ w'.cell? ⟨w.heap.size, 4, none⟩ = some (.slice ab l.length cb) ∧ w'.cell? ⟨w.heap.size, 5, none⟩ = some (.slice sb u.length cs) ∧ w'.cell? ⟨w.heap.size, 6, none⟩ = some (.int .u64 n) ∧ w'.cell? ⟨w.heap.size, 7, none⟩ = some (.int .u64 r) ∧ w'.cell? ⟨w.heap.size, 8, none⟩ = some (.int .u64 t) := fun w' h => KF0 w' (belT (Below.refl _ _).drew h)
  refine seq_start 25 [false, false, false, false, false, false, false, false, false, false, false, false, false, false, false, false, false, false, false, false, false, false, false, false, false] (by kernel_rfl) rfl rfl ?_
  refine seq_take 0 (v := ?_) rfl (by kernel_rfl) (fun _ _ _ h => h) (Or.inl ⟨by rfl, fun w' hb => ?_⟩) ?_
  rotate_left
  · have kf := KF w' hb
    go_simp
    with_reducible rfl
  simp only [Act.put, List.setIfInBounds_toArray, List.set_cons_zero, List.set_cons_succ]
  refine seq_take 1 (v := ?_) rfl (by kernel_rfl) (fun _ _ _ h => h) (Or.inl ⟨by rfl, fun w' hb => ?_⟩) ?_
  rotate_left
  · have kf := KF w' hb
    go_simp
    with_reducible rfl
  simp only [Act.put, List.setIfInBounds_toArray, List.set_cons_zero, List.set_cons_succ]
  refine seq_do 2 rfl (by kernel_rfl) (fun K hK => ?_)
  go_simp
  refine (bareAny 1 x p o ab sb cb cs l u n r t _ (ha.below (belT hB0 (Below.refl _ _).drew))).mono ?_
  rintro e w1 ⟨⟨k2, x2, p2, o2, ab2, sb2, cb2, cs2, l2, u2, n2, r2, t2, hR, rfl, hR2⟩, hb1⟩
  refine hK.out _ _ hb1 ?_
  clear hK K
  simp only [List.set_cons_zero, List.set_cons_succ]
  have hb1 := belT (Below.refl _ _).drew hb1
  replace KF : ∀ w', Below w1.heap.size w1 w' → (loadVar 27 ⟨w.heap.size, 0, none⟩).run Try.prog w' = .ok (rv 1 x p o ab l.length cb sb u.length cs n r t) w' ∧ w'.cell? ⟨w.heap.size, 0, none⟩ = some (.int .i64 1) ∧ w'.cell? ⟨w.heap.size, 1, none⟩ = some (.int .u64 x) ∧ w'.cell? ⟨w.heap.size, 2, none⟩ = some (.int .i64 p) ∧ w'.cell? ⟨w.heap.size, 3, none⟩ = some (.int .i64 o) ∧ w'.cell? ⟨w.heap.size, 4, none⟩ = some (.slice ab l.length cb) ∧ w'.cell? ⟨w.heap.size, 5, none⟩ = some (.slice sb u.length cs) ∧ w'.cell? ⟨w.heap.size, 6, none⟩ = some (.int .u64 n) ∧ w'.cell? ⟨w.heap.size, 7, none⟩ = some (.int .u64 r) ∧ w'.cell? ⟨w.heap.size, 8, none⟩ = some (.int .u64 t) := fun w' h => KF0 w' (belT hb1 h)
  refine seq_do 3 rfl (by kernel_rfl) (fun K hK => ?_)
  go_simp
  refine (SameF 1 x p o ab sb cb cs l u n r t k2 x2 p2 o2 ab2 sb2 cb2 cs2 l2 u2 n2 r2 t2 _ (ha.below (belT hB0 hb1)) hR2).mono ?_
  rw [← hR, decide_eq_true HEq.out]
  rintro e w2 ⟨rfl, hb2⟩
  refine hK.out _ _ hb2 ?_
  clear hK K
  simp only [List.set_cons_zero, List.set_cons_succ]
  have hb2 := belT hb1 hb2
  replace KF : ∀ w', Below w2.heap.size w2 w' → (loadVar 27 ⟨w.heap.size, 0, none⟩).run Try.prog w' = .ok (rv 1 x p o ab l.length cb sb u.length cs n r t) w' ∧ w'.cell? ⟨w.heap.size, 0, none⟩ = some (.int .i64 1) ∧ w'.cell? ⟨w.heap.size, 1, none⟩ = some (.int .u64 x) ∧ w'.cell? ⟨w.heap.size, 2, none⟩ = some (.int .i64 p) ∧ w'.cell? ⟨w.heap.size, 3, none⟩ = some (.int .i64 o) ∧ w'.cell? ⟨w.heap.size, 4, none⟩ = some (.slice ab l.length cb) ∧ w'.cell? ⟨w.heap.size, 5, none⟩ = some (.slice sb u.length cs) ∧ w'.cell? ⟨w.heap.size, 6, none⟩ = some (.int .u64 n) ∧ w'.cell? ⟨w.heap.size, 7, none⟩ = some (.int .u64 r) ∧ w'.cell? ⟨w.heap.size, 8, none⟩ = some (.int .u64 t) := fun w' h => KF0 w' (belT hb2 h)
  refine seq_take 4 (v := ?_) rfl (by kernel_rfl) (fun _ _ _ h => h) (Or.inl ⟨by rfl, fun w' hb => ?_⟩) ?_
  rotate_left
  · have kf := KF w' hb
    go_simp
    with_reducible rfl
  simp only [Act.put, List.setIfInBounds_toArray, List.set_cons_zero, List.set_cons_succ]
  refine seq_take 5 (v := ?_) rfl (by kernel_rfl) (fun _ _ _ h => h) (Or.inl ⟨by rfl, fun w' hb => ?_⟩) ?_
  rotate_left
  · have kf := KF w' hb
    go_simp
    with_reducible rfl
  simp only [Act.put, List.setIfInBounds_toArray, List.set_cons_zero, List.set_cons_succ]
  refine seq_take 6 (v := ?_) rfl (by kernel_rfl) (fun _ _ _ h => h) (Or.inl ⟨by rfl, fun w' hb => ?_⟩) ?_
  rotate_left
  · have kf := KF w' hb
    go_simp
    with_reducible rfl
  simp only [Act.put, List.setIfInBounds_toArray, List.set_cons_zero, List.set_cons_succ]
  refine seq_take 7 (v := ?_) rfl (by kernel_rfl) (fun _ _ _ h => h) (Or.inl ⟨by rfl, fun w' hb => ?_⟩) ?_
  rotate_left
  · have kf := KF w' hb
    go_simp
    with_reducible rfl
  simp only [Act.put, List.setIfInBounds_toArray, List.set_cons_zero, List.set_cons_succ]
  refine seq_take 8 (v := ?_) rfl (by kernel_rfl) (fun _ _ _ h => h) (Or.inl ⟨by rfl, fun w' hb => ?_⟩) ?_
  rotate_left
  · have kf := KF w' hb
    go_simp
    with_reducible rfl
  simp only [Act.put, List.setIfInBounds_toArray, List.set_cons_zero, List.set_cons_succ]
  refine seq_take 9 (v := ?_) rfl (by kernel_rfl) (fun _ _ _ h => h) (Or.inl ⟨by rfl, fun w' hb => ?_⟩) ?_
  rotate_left
  · have kf := KF w' hb
    go_simp
    with_reducible rfl
  simp only [Act.put, List.setIfInBounds_toArray, List.set_cons_zero, List.set_cons_succ]
  refine seq_take 10 (v := ?_) rfl (by kernel_rfl) (fun _ _ _ h => h) (Or.inl ⟨by rfl, fun w' hb => ?_⟩) ?_
  rotate_left
  · have kf := KF w' hb
    go_simp
    with_reducible rfl
  simp only [Act.put, List.setIfInBounds_toArray, List.set_cons_zero, List.set_cons_succ]
  refine seq_take 11 (v := ?_) rfl (by kernel_rfl) (fun _ _ _ h => h) (Or.inl ⟨by rfl, fun w' hb => ?_⟩) ?_
  rotate_left
  · have kf := KF w' hb
    go_simp
    with_reducible rfl
  simp only [Act.put, List.setIfInBounds_toArray, List.set_cons_zero, List.set_cons_succ]
  refine seq_take 12 (v := ?_) rfl (by kernel_rfl) (fun _ _ _ h => h) (Or.inl ⟨by rfl, fun w' hb => ?_⟩) ?_
  rotate_left
  · have kf := KF w' hb
    go_simp
    with_reducible rfl
  simp only [Act.put, List.setIfInBounds_toArray, List.set_cons_zero, List.set_cons_succ]
  refine seq_take 13 (v := ?_) rfl (by kernel_rfl) (fun _ _ _ h => h) (Or.inl ⟨by rfl, fun w' hb => ?_⟩) ?_
  rotate_left
  · have kf := KF w' hb
    go_simp
    with_reducible rfl
  simp only [Act.put, List.setIfInBounds_toArray, List.set_cons_zero, List.set_cons_succ]
  refine seq_take 14 (v := ?_) rfl (by kernel_rfl) (fun _ _ _ h => h) (Or.inl ⟨by rfl, fun w' hb => ?_⟩) ?_
  rotate_left
  · have kf := KF w' hb
    go_simp
    with_reducible rfl
  simp only [Act.put, List.setIfInBounds_toArray, List.set_cons_zero, List.set_cons_succ]
  refine seq_take 15 (v := ?_) rfl (by kernel_rfl) (fun _ _ _ h => h) (Or.inl ⟨by rfl, fun w' hb => ?_⟩) ?_
  rotate_left
  · have kf := KF w' hb
    go_simp
    with_reducible rfl
  simp only [Act.put, List.setIfInBounds_toArray, List.set_cons_zero, List.set_cons_succ]
  refine seq_take 16 (v := ?_) rfl (by kernel_rfl) (fun _ _ _ h => h) (Or.inl ⟨by rfl, fun w' hb => ?_⟩) ?_
  rotate_left
  · have kf := KF w' hb
    go_simp
    with_reducible rfl
  simp only [Act.put, List.setIfInBounds_toArray, List.set_cons_zero, List.set_cons_succ]
  refine seq_take 17 (v := ?_) rfl (by kernel_rfl) (fun _ _ _ h => h) (Or.inl ⟨by rfl, fun w' hb => ?_⟩) ?_
  rotate_left
  · have kf := KF w' hb
    go_simp
    with_reducible rfl
  simp only [Act.put, List.setIfInBounds_toArray, List.set_cons_zero, List.set_cons_succ]
  refine seq_take 18 (v := ?_) rfl (by kernel_rfl) (fun _ _ _ h => h) (Or.inl ⟨by rfl, fun w' hb => ?_⟩) ?_
  rotate_left
  · have kf := KF w' hb
    go_simp
    with_reducible rfl
  simp only [Act.put, List.setIfInBounds_toArray, List.set_cons_zero, List.set_cons_succ]
  refine seq_take 19 (v := ?_) rfl (by kernel_rfl) (fun _ _ _ h => h) (Or.inl ⟨by rfl, fun w' hb => ?_⟩) ?_
  rotate_left
  · have kf := KF w' hb
    go_simp
    with_reducible rfl
  simp only [Act.put, List.setIfInBounds_toArray, List.set_cons_zero, List.set_cons_succ]
  refine seq_take 20 (v := ?_) rfl (by kernel_rfl) (fun _ _ _ h => h) (Or.inl ⟨by rfl, fun w' hb => ?_⟩) ?_
  rotate_left
  · have kf := KF w' hb
    go_simp
    with_reducible rfl
  simp only [Act.put, List.setIfInBounds_toArray, List.set_cons_zero, List.set_cons_succ]
  refine seq_take 21 (v := ?_) rfl (by kernel_rfl) (fun _ _ _ h => h) (Or.inl ⟨by rfl, fun w' hb => ?_⟩) ?_
  rotate_left
  · have kf := KF w' hb
    go_simp
    with_reducible rfl
  simp only [Act.put, List.setIfInBounds_toArray, List.set_cons_zero, List.set_cons_succ]
  refine seq_take 22 (v := ?_) rfl (by kernel_rfl) (fun _ _ _ h => h) (Or.inl ⟨by rfl, fun w' hb => ?_⟩) ?_
  rotate_left
  · have kf := KF w' hb
    go_simp
    with_reducible rfl
  simp only [Act.put, List.setIfInBounds_toArray, List.set_cons_zero, List.set_cons_succ]
  refine seq_take 23 (v := ?_) rfl (by kernel_rfl) (fun _ _ _ h => h) (Or.inl ⟨by rfl, fun w' hb => ?_⟩) ?_
  rotate_left
  · have kf := KF w' hb
    go_simp
    with_reducible rfl
  simp only [Act.put, List.setIfInBounds_toArray, List.set_cons_zero, List.set_cons_succ]
  refine seq_take 24 (v := ?_) rfl (by kernel_rfl) (fun _ _ _ h => h) (Or.inl ⟨by rfl, fun w' hb => ?_⟩) ?_
  rotate_left
  · have kf := KF w' hb
    go_simp
    with_reducible rfl
  simp only [Act.put, List.setIfInBounds_toArray, List.set_cons_zero, List.set_cons_succ]
  refine seq_end (by kernel_rfl) ?_
  obtain ⟨-, z0, z1, z2, z3, z4, z5, z6, z7, z8⟩ := KF w2 (Below.refl _ _)
  clear KF KF0
  have d1 : decide ((12 : Int) ≤ o) = true := by simp; omega
  have d2 : decide ((1 : Int) ≤ (l.length : Int)) = false := by simp; omega
  go_wp2_with fail
  go_ret
  exact ⟨by rw [hM]; first | rfl | (simp; done) | (simp; omega), belT hB0 hb2⟩
set_option maxRecDepth 100000 in
set_option maxHeartbeats 8000000 in
theorem May1c (x : Nat) (p o : Int) (ab sb : Option Addr) (cb cs : Nat) (l : List UInt8) (u : List Nat) (n r t : Nat) (w : World) (ha : RB w ⟨1, x, p, o, l, u, n, r, t⟩ ab sb cb cs) (he : ⟨1, x, p, o, l, u, n, r, t⟩ = bareR ⟨1, x, p, o, l, u, n, r, t⟩) (hp0 : 0 ≤ p) (hp1 : p < 128) (hx1 : x ≤ 4000) (hr1 : r ≤ 4611686018427387904) (q1 : 12 ≤ o) (_ : 1 ≤ l.length) (q3 : ¬ l.length ≤ 1024) :
    Calls Try.prog 16 #[rv 1 x p o ab l.length cb sb u.length cs n r t] w fun e w' => e = .returned (.bool (mayB ⟨1, x, p, o, l, u, n, r, t⟩)) ∧ Below w.heap.size w w' := by
  have HEq := Lib.hid he
  have hK : kindB ⟨1, x, p, o, l, u, n, r, t⟩ = false := by simp [kindB]; omega
  have hM : mayB ⟨1, x, p, o, l, u, n, r, t⟩ = false := by unfold mayB; rw [decide_eq_true he, hK]; simp [hp0, hp1, hx1, hr1]
  clear he hK
  have hd0 : decide (p < 0) = false := by simp; omega
  have hd1 : decide (128 ≤ p) = false := by simp; omega
  have hd2 : decide (4000 < (x : Int)) = false := by simp; omega
  have hd3 : decide (4611686018427387904 < (r : Int)) = false := by simp; omega
  go_enter Try.func16, Try.ntmps16
  go_wp2_with fail
  obtain ⟨W, hW⟩ : ∃ W, W = w.alloc (.cells #[.int .i64 1, .int .u64 x, .int .i64 p, .int .i64 o, .slice ab l.length cb, .slice sb u.length cs, .int .u64 n, .int .u64 r, .int .u64 t] 27) := ⟨_, rfl⟩
  have hB0 : Below w.heap.size w W := by rw [hW]; exact below_alloc _ _
  have hG : W.heap[w.heap.size]? = some (.cells #[.int .i64 1, .int .u64 x, .int .i64 p, .int .i64 o, .slice ab l.length cb, .slice sb u.length cs, .int .u64 n, .int .u64 r, .int .u64 t] 27 (0, 0)) := by rw [hW]; exact heap_alloc_new _ _
  have hsz : w.heap.size < W.heap.size := by rw [hW]; simp
  rw [← hW]
  have KF0 : ∀ w', Below W.heap.size W w' → (loadVar 27 ⟨w.heap.size, 0, none⟩).run Try.prog w' = .ok (rv 1 x p o ab l.length cb sb u.length cs n r t) w' ∧ w'.cell? ⟨w.heap.size, 0, none⟩ = some (.int .i64 1) ∧ w'.cell? ⟨w.heap.size, 1, none⟩ = some (.int .u64 x) ∧ w'.cell? ⟨w.heap.size, 2, none⟩ = some (.int .i64 p) ∧ w'.cell? ⟨w.heap.size, 3, none⟩ = some (.int .i64 o) ∧ w'.cell? ⟨w.heap.size, 4, none⟩ = some (.slice ab l.length cb) ∧ w'.cell? ⟨w.heap.size, 5, none⟩ = some (.slice sb u.length cs) ∧ w'.cell? ⟨w.heap.size, 6, none⟩ = some (.int .u64 n) ∧ w'.cell? ⟨w.heap.size, 7, none⟩ = some (.int .u64 r) ∧ w'.cell? ⟨w.heap.size, 8, none⟩ = some (.int .u64 t) := fun w' h => loads9 1 x p o ab sb cb cs l u n r t _ w' ((h.block _ hsz).trans hG)
  clear hW hG
  have KF : ∀ w', Below W.drew.heap.size W.drew w' → (loadVar 27 ⟨w.heap.size, 0, none⟩).run Try.prog w' = .ok (rv 1 x p o ab l.length cb sb u.length cs n r t) w' ∧ w'.cell? ⟨w.heap.size, 0, none⟩ = some (.int .i64 1) ∧ w'.cell? ⟨w.heap.size, 1, none⟩ = some (.int .u64 x) ∧ w'.cell? ⟨w.heap.size, 2, none⟩ = some (.int .i64 p) ∧ w'.cell? ⟨w.heap.size, 3, none⟩ = some (.int .i64 o) ∧ w'.cell? ⟨w.heap.size, 4, none⟩ = some (.slice ab l.length cb) ∧ w'.cell? ⟨w.heap.size, 5, none⟩ = some (.slice sb u.length cs) ∧ w'.cell? ⟨w.heap.size, 6, none⟩ = some (.int .u64 n) ∧ w'.cell? ⟨w.heap.size, 7, none⟩ = some (.int .u64 r) ∧ w'.cell? ⟨w.heap.size, 8, none⟩ = some (.int .u64 t) := fun w' h => KF0 w' (belT (Below.refl _ _).drew h)
  refine seq_start 25 [false, false, false, false, false, false, false, false, false, false, false, false, false, false, false, false, false, false, false, false, false, false, false, false, false] (by kernel_rfl) rfl rfl ?_
  refine seq_take 0 (v := ?_) rfl (by kernel_rfl) (fun _ _ _ h => h) (Or.inl ⟨by rfl, fun w' hb => ?_⟩) ?_
  rotate_left
  · have kf := KF w' hb
    go_simp
    with_reducible rfl
  simp only [Act.put, List.setIfInBounds_toArray, List.set_cons_zero, List.set_cons_succ]
  refine seq_take 1 (v := ?_) rfl (by kernel_rfl) (fun _ _ _ h => h) (Or.inl ⟨by rfl, fun w' hb => ?_⟩) ?_
  rotate_left
  · have kf := KF w' hb
    go_simp
    with_reducible rfl
  simp only [Act.put, List.setIfInBounds_toArray, List.set_cons_zero, List.set_cons_succ]
  refine seq_do 2 rfl (by kernel_rfl) (fun K hK => ?_)
  go_simp
  refine (bareAny 1 x p o ab sb cb cs l u n r t _ (ha.below (belT hB0 (Below.refl _ _).drew))).mono ?_
  rintro e w1 ⟨⟨k2, x2, p2, o2, ab2, sb2, cb2, cs2, l2, u2, n2, r2, t2, hR, rfl, hR2⟩, hb1⟩
  refine hK.out _ _ hb1 ?_
  clear hK K
  simp only [List.set_cons_zero, List.set_cons_succ]
  have hb1 := belT (Below.refl _ _).drew hb1
  replace KF : ∀ w', Below w1.heap.size w1 w' → (loadVar 27 ⟨w.heap.size, 0, none⟩).run Try.prog w' = .ok (rv 1 x p o ab l.length cb sb u.length cs n r t) w' ∧ w'.cell? ⟨w.heap.size, 0, none⟩ = some (.int .i64 1) ∧ w'.cell? ⟨w.heap.size, 1, none⟩ = some (.int .u64 x) ∧ w'.cell? ⟨w.heap.size, 2, none⟩ = some (.int .i64 p) ∧ w'.cell? ⟨w.heap.size, 3, none⟩ = some (.int .i64 o) ∧ w'.cell? ⟨w.heap.size, 4, none⟩ = some (.slice ab l.length cb) ∧ w'.cell? ⟨w.heap.size, 5, none⟩ = some (.slice sb u.length cs) ∧ w'.cell? ⟨w.heap.size, 6, none⟩ = some (.int .u64 n) ∧ w'.cell? ⟨w.heap.size, 7, none⟩ = some (.int .u64 r) ∧ w'.cell? ⟨w.heap.size, 8, none⟩ = some (.int .u64 t) := fun w' h => KF0 w' (belT hb1 h)
  refine seq_do 3 rfl (by kernel_rfl) (fun K hK => ?_)
  go_simp
  refine (SameF 1 x p o ab sb cb cs l u n r t k2 x2 p2 o2 ab2 sb2 cb2 cs2 l2 u2 n2 r2 t2 _ (ha.below (belT hB0 hb1)) hR2).mono ?_
  rw [← hR, decide_eq_true HEq.out]
  rintro e w2 ⟨rfl, hb2⟩
  refine hK.out _ _ hb2 ?_
  clear hK K
  simp only [List.set_cons_zero, List.set_cons_succ]
  have hb2 := belT hb1 hb2
  replace KF : ∀ w', Below w2.heap.size w2 w' → (loadVar 27 ⟨w.heap.size, 0, none⟩).run Try.prog w' = .ok (rv 1 x p o ab l.length cb sb u.length cs n r t) w' ∧ w'.cell? ⟨w.heap.size, 0, none⟩ = some (.int .i64 1) ∧ w'.cell? ⟨w.heap.size, 1, none⟩ = some (.int .u64 x) ∧ w'.cell? ⟨w.heap.size, 2, none⟩ = some (.int .i64 p) ∧ w'.cell? ⟨w.heap.size, 3, none⟩ = some (.int .i64 o) ∧ w'.cell? ⟨w.heap.size, 4, none⟩ = some (.slice ab l.length cb) ∧ w'.cell? ⟨w.heap.size, 5, none⟩ = some (.slice sb u.length cs) ∧ w'.cell? ⟨w.heap.size, 6, none⟩ = some (.int .u64 n) ∧ w'.cell? ⟨w.heap.size, 7, none⟩ = some (.int .u64 r) ∧ w'.cell? ⟨w.heap.size, 8, none⟩ = some (.int .u64 t) := fun w' h => KF0 w' (belT hb2 h)
  refine seq_take 4 (v := ?_) rfl (by kernel_rfl) (fun _ _ _ h => h) (Or.inl ⟨by rfl, fun w' hb => ?_⟩) ?_
  rotate_left
  · have kf := KF w' hb
    go_simp
    with_reducible rfl
  simp only [Act.put, List.setIfInBounds_toArray, List.set_cons_zero, List.set_cons_succ]
  refine seq_take 5 (v := ?_) rfl (by kernel_rfl) (fun _ _ _ h => h) (Or.inl ⟨by rfl, fun w' hb => ?_⟩) ?_
  rotate_left
  · have kf := KF w' hb
    go_simp
    with_reducible rfl
  simp only [Act.put, List.setIfInBounds_toArray, List.set_cons_zero, List.set_cons_succ]
  refine seq_take 6 (v := ?_) rfl (by kernel_rfl) (fun _ _ _ h => h) (Or.inl ⟨by rfl, fun w' hb => ?_⟩) ?_
  rotate_left
  · have kf := KF w' hb
    go_simp
    with_reducible rfl
  simp only [Act.put, List.setIfInBounds_toArray, List.set_cons_zero, List.set_cons_succ]
  refine seq_take 7 (v := ?_) rfl (by kernel_rfl) (fun _ _ _ h => h) (Or.inl ⟨by rfl, fun w' hb => ?_⟩) ?_
  rotate_left
  · have kf := KF w' hb
    go_simp
    with_reducible rfl
  simp only [Act.put, List.setIfInBounds_toArray, List.set_cons_zero, List.set_cons_succ]
  refine seq_take 8 (v := ?_) rfl (by kernel_rfl) (fun _ _ _ h => h) (Or.inl ⟨by rfl, fun w' hb => ?_⟩) ?_
  rotate_left
  · have kf := KF w' hb
    go_simp
    with_reducible rfl
  simp only [Act.put, List.setIfInBounds_toArray, List.set_cons_zero, List.set_cons_succ]
  refine seq_take 9 (v := ?_) rfl (by kernel_rfl) (fun _ _ _ h => h) (Or.inl ⟨by rfl, fun w' hb => ?_⟩) ?_
  rotate_left
  · have kf := KF w' hb
    go_simp
    with_reducible rfl
  simp only [Act.put, List.setIfInBounds_toArray, List.set_cons_zero, List.set_cons_succ]
  refine seq_take 10 (v := ?_) rfl (by kernel_rfl) (fun _ _ _ h => h) (Or.inl ⟨by rfl, fun w' hb => ?_⟩) ?_
  rotate_left
  · have kf := KF w' hb
    go_simp
    with_reducible rfl
  simp only [Act.put, List.setIfInBounds_toArray, List.set_cons_zero, List.set_cons_succ]
  refine seq_take 11 (v := ?_) rfl (by kernel_rfl) (fun _ _ _ h => h) (Or.inl ⟨by rfl, fun w' hb => ?_⟩) ?_
  rotate_left
  · have kf := KF w' hb
    go_simp
    with_reducible rfl
  simp only [Act.put, List.setIfInBounds_toArray, List.set_cons_zero, List.set_cons_succ]
  refine seq_take 12 (v := ?_) rfl (by kernel_rfl) (fun _ _ _ h => h) (Or.inl ⟨by rfl, fun w' hb => ?_⟩) ?_
  rotate_left
  · have kf := KF w' hb
    go_simp
    with_reducible rfl
  simp only [Act.put, List.setIfInBounds_toArray, List.set_cons_zero, List.set_cons_succ]
  refine seq_take 13 (v := ?_) rfl (by kernel_rfl) (fun _ _ _ h => h) (Or.inl ⟨by rfl, fun w' hb => ?_⟩) ?_
  rotate_left
  · have kf := KF w' hb
    go_simp
    with_reducible rfl
  simp only [Act.put, List.setIfInBounds_toArray, List.set_cons_zero, List.set_cons_succ]
  refine seq_take 14 (v := ?_) rfl (by kernel_rfl) (fun _ _ _ h => h) (Or.inl ⟨by rfl, fun w' hb => ?_⟩) ?_
  rotate_left
  · have kf := KF w' hb
    go_simp
    with_reducible rfl
  simp only [Act.put, List.setIfInBounds_toArray, List.set_cons_zero, List.set_cons_succ]
  refine seq_take 15 (v := ?_) rfl (by kernel_rfl) (fun _ _ _ h => h) (Or.inl ⟨by rfl, fun w' hb => ?_⟩) ?_
  rotate_left
  · have kf := KF w' hb
    go_simp
    with_reducible rfl
  simp only [Act.put, List.setIfInBounds_toArray, List.set_cons_zero, List.set_cons_succ]
  refine seq_take 16 (v := ?_) rfl (by kernel_rfl) (fun _ _ _ h => h) (Or.inl ⟨by rfl, fun w' hb => ?_⟩) ?_
  rotate_left
  · have kf := KF w' hb
    go_simp
    with_reducible rfl
  simp only [Act.put, List.setIfInBounds_toArray, List.set_cons_zero, List.set_cons_succ]
  refine seq_take 17 (v := ?_) rfl (by kernel_rfl) (fun _ _ _ h => h) (Or.inl ⟨by rfl, fun w' hb => ?_⟩) ?_
  rotate_left
  · have kf := KF w' hb
    go_simp
    with_reducible rfl
  simp only [Act.put, List.setIfInBounds_toArray, List.set_cons_zero, List.set_cons_succ]
  refine seq_take 18 (v := ?_) rfl (by kernel_rfl) (fun _ _ _ h => h) (Or.inl ⟨by rfl, fun w' hb => ?_⟩) ?_
  rotate_left
  · have kf := KF w' hb
    go_simp
    with_reducible rfl
  simp only [Act.put, List.setIfInBounds_toArray, List.set_cons_zero, List.set_cons_succ]
  refine seq_take 19 (v := ?_) rfl (by kernel_rfl) (fun _ _ _ h => h) (Or.inl ⟨by rfl, fun w' hb => ?_⟩) ?_
  rotate_left
  · have kf := KF w' hb
    go_simp
    with_reducible rfl
  simp only [Act.put, List.setIfInBounds_toArray, List.set_cons_zero, List.set_cons_succ]
  refine seq_take 20 (v := ?_) rfl (by kernel_rfl) (fun _ _ _ h => h) (Or.inl ⟨by rfl, fun w' hb => ?_⟩) ?_
  rotate_left
  · have kf := KF w' hb
    go_simp
    with_reducible rfl
  simp only [Act.put, List.setIfInBounds_toArray, List.set_cons_zero, List.set_cons_succ]
  refine seq_take 21 (v := ?_) rfl (by kernel_rfl) (fun _ _ _ h => h) (Or.inl ⟨by rfl, fun w' hb => ?_⟩) ?_
  rotate_left
  · have kf := KF w' hb
    go_simp
    with_reducible rfl
  simp only [Act.put, List.setIfInBounds_toArray, List.set_cons_zero, List.set_cons_succ]
  refine seq_take 22 (v := ?_) rfl (by kernel_rfl) (fun _ _ _ h => h) (Or.inl ⟨by rfl, fun w' hb => ?_⟩) ?_
  rotate_left
  · have kf := KF w' hb
    go_simp
    with_reducible rfl
  simp only [Act.put, List.setIfInBounds_toArray, List.set_cons_zero, List.set_cons_succ]
  refine seq_take 23 (v := ?_) rfl (by kernel_rfl) (fun _ _ _ h => h) (Or.inl ⟨by rfl, fun w' hb => ?_⟩) ?_
  rotate_left
  · have kf := KF w' hb
    go_simp
    with_reducible rfl
  simp only [Act.put, List.setIfInBounds_toArray, List.set_cons_zero, List.set_cons_succ]
  refine seq_take 24 (v := ?_) rfl (by kernel_rfl) (fun _ _ _ h => h) (Or.inl ⟨by rfl, fun w' hb => ?_⟩) ?_
  rotate_left
  · have kf := KF w' hb
    go_simp
    with_reducible rfl
  simp only [Act.put, List.setIfInBounds_toArray, List.set_cons_zero, List.set_cons_succ]
  refine seq_end (by kernel_rfl) ?_
  obtain ⟨-, z0, z1, z2, z3, z4, z5, z6, z7, z8⟩ := KF w2 (Below.refl _ _)
  clear KF KF0
  have d1 : decide ((12 : Int) ≤ o) = true := by simp; omega
  have d2 : decide ((1 : Int) ≤ (l.length : Int)) = true := by simp; omega
  have d3 : decide ((l.length : Int) ≤ 1024) = false := by simp; omega
  go_wp2_with fail
  go_ret
  exact ⟨by rw [hM]; first | rfl | (simp; done) | (simp; omega), belT hB0 hb2⟩
set_option maxRecDepth 100000 in
set_option maxHeartbeats 8000000 in
theorem May1d (x : Nat) (p o : Int) (ab sb : Option Addr) (cb cs : Nat) (l : List UInt8) (u : List Nat) (n r t : Nat) (w : World) (ha : RB w ⟨1, x, p, o, l, u, n, r, t⟩ ab sb cb cs) (he : ⟨1, x, p, o, l, u, n, r, t⟩ = bareR ⟨1, x, p, o, l, u, n, r, t⟩) (hp0 : 0 ≤ p) (hp1 : p < 128) (hx1 : x ≤ 4000) (hr1 : r ≤ 4611686018427387904) (q1 : 12 ≤ o) (q2 : 1 ≤ l.length) (q3 : l.length ≤ 1024) (q4 : ¬ o ≤ 1024 - (l.length : Int)) :
    Calls Try.prog 16 #[rv 1 x p o ab l.length cb sb u.length cs n r t] w fun e w' => e = .returned (.bool (mayB ⟨1, x, p, o, l, u, n, r, t⟩)) ∧ Below w.heap.size w w' := by
  have HEq := Lib.hid he
  have hK : kindB ⟨1, x, p, o, l, u, n, r, t⟩ = false := by simp [kindB]; omega
  have hM : mayB ⟨1, x, p, o, l, u, n, r, t⟩ = false := by unfold mayB; rw [decide_eq_true he, hK]; simp [hp0, hp1, hx1, hr1]
  clear he hK
  have hd0 : decide (p < 0) = false := by simp; omega
  have hd1 : decide (128 ≤ p) = false := by simp; omega
  have hd2 : decide (4000 < (x : Int)) = false := by simp; omega
  have hd3 : decide (4611686018427387904 < (r : Int)) = false := by simp; omega
  go_enter Try.func16, Try.ntmps16
  go_wp2_with fail
  obtain ⟨W, hW⟩ : ∃ W, W = w.alloc (.cells #[.int .i64 1, .int .u64 x, .int .i64 p, .int .i64 o, .slice ab l.length cb, .slice sb u.length cs, .int .u64 n, .int .u64 r, .int .u64 t] 27) := ⟨_, rfl⟩
  have hB0 : Below w.heap.size w W := by rw [hW]; exact below_alloc _ _
  have hG : W.heap[w.heap.size]? = some (.cells #[.int .i64 1, .int .u64 x, .int .i64 p, .int .i64 o, .slice ab l.length cb, .slice sb u.length cs, .int .u64 n, .int .u64 r, .int .u64 t] 27 (0, 0)) := by rw [hW]; exact heap_alloc_new _ _
  have hsz : w.heap.size < W.heap.size := by rw [hW]; simp
  rw [← hW]
  have KF0 : ∀ w', Below W.heap.size W w' → (loadVar 27 ⟨w.heap.size, 0, none⟩).run Try.prog w' = .ok (rv 1 x p o ab l.length cb sb u.length cs n r t) w' ∧ w'.cell? ⟨w.heap.size, 0, none⟩ = some (.int .i64 1) ∧ w'.cell? ⟨w.heap.size, 1, none⟩ = some (.int .u64 x) ∧ w'.cell? ⟨w.heap.size, 2, none⟩ = some (.int .i64 p) ∧ w'.cell? ⟨w.heap.size, 3, none⟩ = some (.int .i64 o) ∧ w'.cell? ⟨w.heap.size, 4, none⟩ = some (.slice ab l.length cb) ∧ w'.cell? ⟨w.heap.size, 5, none⟩ = some (.slice sb u.length cs) ∧ w'.cell? ⟨w.heap.size, 6, none⟩ = some (.int .u64 n) ∧ w'.cell? ⟨w.heap.size, 7, none⟩ = some (.int .u64 r) ∧ w'.cell? ⟨w.heap.size, 8, none⟩ = some (.int .u64 t) := fun w' h => loads9 1 x p o ab sb cb cs l u n r t _ w' ((h.block _ hsz).trans hG)
  clear hW hG
  have KF : ∀ w', Below W.drew.heap.size W.drew w' → (loadVar 27 ⟨w.heap.size, 0, none⟩).run Try.prog w' = .ok (rv 1 x p o ab l.length cb sb u.length cs n r t) w' ∧ w'.cell? ⟨w.heap.size, 0, none⟩ = some (.int .i64 1) ∧ w'.cell? ⟨w.heap.size, 1, none⟩ = some (.int .u64 x) ∧ w'.cell? ⟨w.heap.size, 2, none⟩ = some (.int .i64 p) ∧ w'.cell? ⟨w.heap.size, 3, none⟩ = some (.int .i64 o) ∧ w'.cell? ⟨w.heap.size, 4, none⟩ = some (.slice ab l.length cb) ∧ w'.cell? ⟨w.heap.size, 5, none⟩ = some (.slice sb u.length cs) ∧ w'.cell? ⟨w.heap.size, 6, none⟩ = some (.int .u64 n) ∧ w'.cell? ⟨w.heap.size, 7, none⟩ = some (.int .u64 r) ∧ w'.cell? ⟨w.heap.size, 8, none⟩ = some (.int .u64 t) := fun w' h => KF0 w' (belT (Below.refl _ _).drew h)
  refine seq_start 25 [false, false, false, false, false, false, false, false, false, false, false, false, false, false, false, false, false, false, false, false, false, false, false, false, false] (by kernel_rfl) rfl rfl ?_
  refine seq_take 0 (v := ?_) rfl (by kernel_rfl) (fun _ _ _ h => h) (Or.inl ⟨by rfl, fun w' hb => ?_⟩) ?_
  rotate_left
  · have kf := KF w' hb
    go_simp
    with_reducible rfl
  simp only [Act.put, List.setIfInBounds_toArray, List.set_cons_zero, List.set_cons_succ]
  refine seq_take 1 (v := ?_) rfl (by kernel_rfl) (fun _ _ _ h => h) (Or.inl ⟨by rfl, fun w' hb => ?_⟩) ?_
  rotate_left
  · have kf := KF w' hb
    go_simp
    with_reducible rfl
  simp only [Act.put, List.setIfInBounds_toArray, List.set_cons_zero, List.set_cons_succ]
  refine seq_do 2 rfl (by kernel_rfl) (fun K hK => ?_)
  go_simp
  refine (bareAny 1 x p o ab sb cb cs l u n r t _ (ha.below (belT hB0 (Below.refl _ _).drew))).mono ?_
  rintro e w1 ⟨⟨k2, x2, p2, o2, ab2, sb2, cb2, cs2, l2, u2, n2, r2, t2, hR, rfl, hR2⟩, hb1⟩
  refine hK.out _ _ hb1 ?_
  clear hK K
  simp only [List.set_cons_zero, List.set_cons_succ]
  have hb1 := belT (Below.refl _ _).drew hb1
  replace KF : ∀ w', Below w1.heap.size w1 w' → (loadVar 27 ⟨w.heap.size, 0, none⟩).run Try.prog w' = .ok (rv 1 x p o ab l.length cb sb u.length cs n r t) w' ∧ w'.cell? ⟨w.heap.size, 0, none⟩ = some (.int .i64 1) ∧ w'.cell? ⟨w.heap.size, 1, none⟩ = some (.int .u64 x) ∧ w'.cell? ⟨w.heap.size, 2, none⟩ = some (.int .i64 p) ∧ w'.cell? ⟨w.heap.size, 3, none⟩ = some (.int .i64 o) ∧ w'.cell? ⟨w.heap.size, 4, none⟩ = some (.slice ab l.length cb) ∧ w'.cell? ⟨w.heap.size, 5, none⟩ = some (.slice sb u.length cs) ∧ w'.cell? ⟨w.heap.size, 6, none⟩ = some (.int .u64 n) ∧ w'.cell? ⟨w.heap.size, 7, none⟩ = some (.int .u64 r) ∧ w'.cell? ⟨w.heap.size, 8, none⟩ = some (.int .u64 t) := fun w' h => KF0 w' (belT hb1 h)
  refine seq_do 3 rfl (by kernel_rfl) (fun K hK => ?_)
  go_simp
  refine (SameF 1 x p o ab sb cb cs l u n r t k2 x2 p2 o2 ab2 sb2 cb2 cs2 l2 u2 n2 r2 t2 _ (ha.below (belT hB0 hb1)) hR2).mono ?_
  rw [← hR, decide_eq_true HEq.out]
  rintro e w2 ⟨rfl, hb2⟩
  refine hK.out _ _ hb2 ?_
  clear hK K
  simp only [List.set_cons_zero, List.set_cons_succ]
  have hb2 := belT hb1 hb2
  replace KF : ∀ w', Below w2.heap.size w2 w' → (loadVar 27 ⟨w.heap.size, 0, none⟩).run Try.prog w' = .ok (rv 1 x p o ab l.length cb sb u.length cs n r t) w' ∧ w'.cell? ⟨w.heap.size, 0, none⟩ = some (.int .i64 1) ∧ w'.cell? ⟨w.heap.size, 1, none⟩ = some (.int .u64 x) ∧ w'.cell? ⟨w.heap.size, 2, none⟩ = some (.int .i64 p) ∧ w'.cell? ⟨w.heap.size, 3, none⟩ = some (.int .i64 o) ∧ w'.cell? ⟨w.heap.size, 4, none⟩ = some (.slice ab l.length cb) ∧ w'.cell? ⟨w.heap.size, 5, none⟩ = some (.slice sb u.length cs) ∧ w'.cell? ⟨w.heap.size, 6, none⟩ = some (.int .u64 n) ∧ w'.cell? ⟨w.heap.size, 7, none⟩ = some (.int .u64 r) ∧ w'.cell? ⟨w.heap.size, 8, none⟩ = some (.int .u64 t) := fun w' h => KF0 w' (belT hb2 h)
  refine seq_take 4 (v := ?_) rfl (by kernel_rfl) (fun _ _ _ h => h) (Or.inl ⟨by rfl, fun w' hb => ?_⟩) ?_
  rotate_left
  · have kf := KF w' hb
    go_simp
    with_reducible rfl
  simp only [Act.put, List.setIfInBounds_toArray, List.set_cons_zero, List.set_cons_succ]
  refine seq_take 5 (v := ?_) rfl (by kernel_rfl) (fun _ _ _ h => h) (Or.inl ⟨by rfl, fun w' hb => ?_⟩) ?_
  rotate_left
  · have kf := KF w' hb
    go_simp
    with_reducible rfl
  simp only [Act.put, List.setIfInBounds_toArray, List.set_cons_zero, List.set_cons_succ]
  refine seq_take 6 (v := ?_) rfl (by kernel_rfl) (fun _ _ _ h => h) (Or.inl ⟨by rfl, fun w' hb => ?_⟩) ?_
  rotate_left
  · have kf := KF w' hb
    go_simp
    with_reducible rfl
  simp only [Act.put, List.setIfInBounds_toArray, List.set_cons_zero, List.set_cons_succ]
  refine seq_take 7 (v := ?_) rfl (by kernel_rfl) (fun _ _ _ h => h) (Or.inl ⟨by rfl, fun w' hb => ?_⟩) ?_
  rotate_left
  · have kf := KF w' hb
    go_simp
    with_reducible rfl
  simp only [Act.put, List.setIfInBounds_toArray, List.set_cons_zero, List.set_cons_succ]
  refine seq_take 8 (v := ?_) rfl (by kernel_rfl) (fun _ _ _ h => h) (Or.inl ⟨by rfl, fun w' hb => ?_⟩) ?_
  rotate_left
  · have kf := KF w' hb
    go_simp
    with_reducible rfl
  simp only [Act.put, List.setIfInBounds_toArray, List.set_cons_zero, List.set_cons_succ]
  refine seq_take 9 (v := ?_) rfl (by kernel_rfl) (fun _ _ _ h => h) (Or.inl ⟨by rfl, fun w' hb => ?_⟩) ?_
  rotate_left
  · have kf := KF w' hb
    go_simp
    with_reducible rfl
  simp only [Act.put, List.setIfInBounds_toArray, List.set_cons_zero, List.set_cons_succ]
  refine seq_take 10 (v := ?_) rfl (by kernel_rfl) (fun _ _ _ h => h) (Or.inl ⟨by rfl, fun w' hb => ?_⟩) ?_
  rotate_left
  · have kf := KF w' hb
    go_simp
    with_reducible rfl
  simp only [Act.put, List.setIfInBounds_toArray, List.set_cons_zero, List.set_cons_succ]
  refine seq_take 11 (v := ?_) rfl (by kernel_rfl) (fun _ _ _ h => h) (Or.inl ⟨by rfl, fun w' hb => ?_⟩) ?_
  rotate_left
  · have kf := KF w' hb
    go_simp
    with_reducible rfl
  simp only [Act.put, List.setIfInBounds_toArray, List.set_cons_zero, List.set_cons_succ]
  refine seq_take 12 (v := ?_) rfl (by kernel_rfl) (fun _ _ _ h => h) (Or.inl ⟨by rfl, fun w' hb => ?_⟩) ?_
  rotate_left
  · have kf := KF w' hb
    go_simp
    with_reducible rfl
  simp only [Act.put, List.setIfInBounds_toArray, List.set_cons_zero, List.set_cons_succ]
  refine seq_take 13 (v := ?_) rfl (by kernel_rfl) (fun _ _ _ h => h) (Or.inl ⟨by rfl, fun w' hb => ?_⟩) ?_
  rotate_left
  · have kf := KF w' hb
    go_simp
    with_reducible rfl
  simp only [Act.put, List.setIfInBounds_toArray, List.set_cons_zero, List.set_cons_succ]
  refine seq_take 14 (v := ?_) rfl (by kernel_rfl) (fun _ _ _ h => h) (Or.inl ⟨by rfl, fun w' hb => ?_⟩) ?_
  rotate_left
  · have kf := KF w' hb
    go_simp
    with_reducible rfl
  simp only [Act.put, List.setIfInBounds_toArray, List.set_cons_zero, List.set_cons_succ]
  refine seq_take 15 (v := ?_) rfl (by kernel_rfl) (fun _ _ _ h => h) (Or.inl ⟨by rfl, fun w' hb => ?_⟩) ?_
  rotate_left
  · have kf := KF w' hb
    go_simp
    with_reducible rfl
  simp only [Act.put, List.setIfInBounds_toArray, List.set_cons_zero, List.set_cons_succ]
  refine seq_take 16 (v := ?_) rfl (by kernel_rfl) (fun _ _ _ h => h) (Or.inl ⟨by rfl, fun w' hb => ?_⟩) ?_
  rotate_left
  · have kf := KF w' hb
    go_simp
    with_reducible rfl
  simp only [Act.put, List.setIfInBounds_toArray, List.set_cons_zero, List.set_cons_succ]
  refine seq_take 17 (v := ?_) rfl (by kernel_rfl) (fun _ _ _ h => h) (Or.inl ⟨by rfl, fun w' hb => ?_⟩) ?_
  rotate_left
  · have kf := KF w' hb
    go_simp
    with_reducible rfl
  simp only [Act.put, List.setIfInBounds_toArray, List.set_cons_zero, List.set_cons_succ]
  refine seq_take 18 (v := ?_) rfl (by kernel_rfl) (fun _ _ _ h => h) (Or.inl ⟨by rfl, fun w' hb => ?_⟩) ?_
  rotate_left
  · have kf := KF w' hb
    go_simp
    with_reducible rfl
  simp only [Act.put, List.setIfInBounds_toArray, List.set_cons_zero, List.set_cons_succ]
  refine seq_take 19 (v := ?_) rfl (by kernel_rfl) (fun _ _ _ h => h) (Or.inl ⟨by rfl, fun w' hb => ?_⟩) ?_
  rotate_left
  · have kf := KF w' hb
    go_simp
    with_reducible rfl
  simp only [Act.put, List.setIfInBounds_toArray, List.set_cons_zero, List.set_cons_succ]
  refine seq_take 20 (v := ?_) rfl (by kernel_rfl) (fun _ _ _ h => h) (Or.inl ⟨by rfl, fun w' hb => ?_⟩) ?_
  rotate_left
  · have kf := KF w' hb
    go_simp
    with_reducible rfl
  simp only [Act.put, List.setIfInBounds_toArray, List.set_cons_zero, List.set_cons_succ]
  refine seq_take 21 (v := ?_) rfl (by kernel_rfl) (fun _ _ _ h => h) (Or.inl ⟨by rfl, fun w' hb => ?_⟩) ?_
  rotate_left
  · have kf := KF w' hb
    go_simp
    with_reducible rfl
  simp only [Act.put, List.setIfInBounds_toArray, List.set_cons_zero, List.set_cons_succ]
  refine seq_take 22 (v := ?_) rfl (by kernel_rfl) (fun _ _ _ h => h) (Or.inl ⟨by rfl, fun w' hb => ?_⟩) ?_
  rotate_left
  · have kf := KF w' hb
    go_simp
    with_reducible rfl
  simp only [Act.put, List.setIfInBounds_toArray, List.set_cons_zero, List.set_cons_succ]
  refine seq_take 23 (v := ?_) rfl (by kernel_rfl) (fun _ _ _ h => h) (Or.inl ⟨by rfl, fun w' hb => ?_⟩) ?_
  rotate_left
  · have kf := KF w' hb
    go_simp
    with_reducible rfl
  simp only [Act.put, List.setIfInBounds_toArray, List.set_cons_zero, List.set_cons_succ]
  refine seq_take 24 (v := ?_) rfl (by kernel_rfl) (fun _ _ _ h => h) (Or.inl ⟨by rfl, fun w' hb => ?_⟩) ?_
  rotate_left
  · have kf := KF w' hb
    go_simp
    with_reducible rfl
  simp only [Act.put, List.setIfInBounds_toArray, List.set_cons_zero, List.set_cons_succ]
  refine seq_end (by kernel_rfl) ?_
  obtain ⟨-, z0, z1, z2, z3, z4, z5, z6, z7, z8⟩ := KF w2 (Below.refl _ _)
  clear KF KF0
  have d1 : decide ((12 : Int) ≤ o) = true := by simp; omega
  have d2 : decide ((1 : Int) ≤ (l.length : Int)) = true := by simp; omega
  have d3 : decide ((l.length : Int) ≤ 1024) = true := by simp; omega
  have d4 : decide (o ≤ 1024 - (l.length : Int)) = false := by simp; omega
  go_wp2_with fail
  go_ret
  exact ⟨by rw [hM]; first | rfl | (simp; done) | (simp; omega), belT hB0 hb2⟩
set_option maxRecDepth 100000 in
set_option maxHeartbeats 8000000 in
theorem May1e (x : Nat) (p o : Int) (ab sb : Option Addr) (cb cs : Nat) (l : List UInt8) (u : List Nat) (n r t : Nat) (w : World) (ha : RB w ⟨1, x, p, o, l, u, n, r, t⟩ ab sb cb cs) (he : ⟨1, x, p, o, l, u, n, r, t⟩ = bareR ⟨1, x, p, o, l, u, n, r, t⟩) (hp0 : 0 ≤ p) (hp1 : p < 128) (hx1 : x ≤ 4000) (hr1 : r ≤ 4611686018427387904) (q1 : 12 ≤ o) (q2 : 1 ≤ l.length) (q3 : l.length ≤ 1024) (q4 : o ≤ 1024 - (l.length : Int)) :
    Calls Try.prog 16 #[rv 1 x p o ab l.length cb sb u.length cs n r t] w fun e w' => e = .returned (.bool (mayB ⟨1, x, p, o, l, u, n, r, t⟩)) ∧ Below w.heap.size w w' := by
  have HEq := Lib.hid he
  have hK : kindB ⟨1, x, p, o, l, u, n, r, t⟩ = true := by simp [kindB]; omega
  have hM : mayB ⟨1, x, p, o, l, u, n, r, t⟩ = true := by unfold mayB; rw [decide_eq_true he, hK]; simp [hp0, hp1, hx1, hr1]
  clear he hK
  have hd0 : decide (p < 0) = false := by simp; omega
  have hd1 : decide (128 ≤ p) = false := by simp; omega
  have hd2 : decide (4000 < (x : Int)) = false := by simp; omega
  have hd3 : decide (4611686018427387904 < (r : Int)) = false := by simp; omega
  go_enter Try.func16, Try.ntmps16
  go_wp2_with fail
  obtain ⟨W, hW⟩ : ∃ W, W = w.alloc (.cells #[.int .i64 1, .int .u64 x, .int .i64 p, .int .i64 o, .slice ab l.length cb, .slice sb u.length cs, .int .u64 n, .int .u64 r, .int .u64 t] 27) := ⟨_, rfl⟩
  have hB0 : Below w.heap.size w W := by rw [hW]; exact below_alloc _ _
  have hG : W.heap[w.heap.size]? = some (.cells #[.int .i64 1, .int .u64 x, .int .i64 p, .int .i64 o, .slice ab l.length cb, .slice sb u.length cs, .int .u64 n, .int .u64 r, .int .u64 t] 27 (0, 0)) := by rw [hW]; exact heap_alloc_new _ _
  have hsz : w.heap.size < W.heap.size := by rw [hW]; simp
  rw [← hW]
  have KF0 : ∀ w', Below W.heap.size W w' → (loadVar 27 ⟨w.heap.size, 0, none⟩).run Try.prog w' = .ok (rv 1 x p o ab l.length cb sb u.length cs n r t) w' ∧ w'.cell? ⟨w.heap.size, 0, none⟩ = some (.int .i64 1) ∧ w'.cell? ⟨w.heap.size, 1, none⟩ = some (.int .u64 x) ∧ w'.cell? ⟨w.heap.size, 2, none⟩ = some (.int .i64 p) ∧ w'.cell? ⟨w.heap.size, 3, none⟩ = some (.int .i64 o) ∧ w'.cell? ⟨w.heap.size, 4, none⟩ = some (.slice ab l.length cb) ∧ w'.cell? ⟨w.heap.size, 5, none⟩ = some (.slice sb u.length cs) ∧ w'.cell? ⟨w.heap.size, 6, none⟩ = some (.int .u64 n) ∧ w'.cell? ⟨w.heap.size, 7, none⟩ = some (.int .u64 r) ∧ w'.cell? ⟨w.heap.size, 8, none⟩ = some (.int .u64 t) := fun w' h => loads9 1 x p o ab sb cb cs l u n r t _ w' ((h.block _ hsz).trans hG)
  clear hW hG
  have KF : ∀ w', Below W.drew.heap.size W.drew w' → (loadVar 27 ⟨w.heap.size, 0, none⟩).run Try.prog w' = .ok (rv 1 x p o ab l.length cb sb u.length cs n r t) w' ∧ w'.cell? ⟨w.heap.size, 0, none⟩ = some (.int .i64 1) ∧ w'.cell? ⟨w.heap.size, 1, none⟩ = some (.int .u64 x) ∧ w'.cell? ⟨w.heap.size, 2, none⟩ = some (.int .i64 p) ∧ w'.cell? ⟨w.heap.size, 3, none⟩ = some (.int .i64 o) ∧ w'.cell? ⟨w.heap.size, 4, none⟩ = some (.slice ab l.length cb) ∧ w'.cell? ⟨w.heap.size, 5, none⟩ = some (.slice sb u.length cs) ∧ w'.cell? ⟨w.heap.size, 6, none⟩ = some (.int .u64 n) ∧ w'.cell? ⟨w.heap.size, 7, none⟩ = some (.int .u64 r) ∧ w'.cell? ⟨w.heap.size, 8, none⟩ = some (.int .u64 t) := fun w' h => KF0 w' (belT (Below.refl _ _).drew h)
  refine seq_start 25 [false, false, false, false, false, false, false, false, false, false, false, false, false, false, false, false, false, false, false, false, false, false, false, false, false] (by kernel_rfl) rfl rfl ?_
  refine seq_take 0 (v := ?_) rfl (by kernel_rfl) (fun _ _ _ h => h) (Or.inl ⟨by rfl, fun w' hb => ?_⟩) ?_
  rotate_left
  · have kf := KF w' hb
    go_simp
    with_reducible rfl
  simp only [Act.put, List.setIfInBounds_toArray, List.set_cons_zero, List.set_cons_succ]
  refine seq_take 1 (v := ?_) rfl (by kernel_rfl) (fun _ _ _ h => h) (Or.inl ⟨by rfl, fun w' hb => ?_⟩) ?_
  rotate_left
  · have kf := KF w' hb
    go_simp
    with_reducible rfl
  simp only [Act.put, List.setIfInBounds_toArray, List.set_cons_zero, List.set_cons_succ]
  refine seq_do 2 rfl (by kernel_rfl) (fun K hK => ?_)
  go_simp
  refine (bareAny 1 x p o ab sb cb cs l u n r t _ (ha.below (belT hB0 (Below.refl _ _).drew))).mono ?_
  rintro e w1 ⟨⟨k2, x2, p2, o2, ab2, sb2, cb2, cs2, l2, u2, n2, r2, t2, hR, rfl, hR2⟩, hb1⟩
  refine hK.out _ _ hb1 ?_
  clear hK K
  simp only [List.set_cons_zero, List.set_cons_succ]
  have hb1 := belT (Below.refl _ _).drew hb1
  replace KF : ∀ w', Below w1.heap.size w1 w' → (loadVar 27 ⟨w.heap.size, 0, none⟩).run Try.prog w' = .ok (rv 1 x p o ab l.length cb sb u.length cs n r t) w' ∧ w'.cell? ⟨w.heap.size, 0, none⟩ = some (.int .i64 1) ∧ w'.cell? ⟨w.heap.size, 1, none⟩ = some (.int .u64 x) ∧ w'.cell? ⟨w.heap.size, 2, none⟩ = some (.int .i64 p) ∧ w'.cell? ⟨w.heap.size, 3, none⟩ = some (.int .i64 o) ∧ w'.cell? ⟨w.heap.size, 4, none⟩ = some (.slice ab l.length cb) ∧ w'.cell? ⟨w.heap.size, 5, none⟩ = some (.slice sb u.length cs) ∧ w'.cell? ⟨w.heap.size, 6, none⟩ = some (.int .u64 n) ∧ w'.cell? ⟨w.heap.size, 7, none⟩ = some (.int .u64 r) ∧ w'.cell? ⟨w.heap.size, 8, none⟩ = some (.int .u64 t) := fun w' h => KF0 w' (belT hb1 h)
  refine seq_do 3 rfl (by kernel_rfl) (fun K hK => ?_)
  go_simp
  refine (SameF 1 x p o ab sb cb cs l u n r t k2 x2 p2 o2 ab2 sb2 cb2 cs2 l2 u2 n2 r2 t2 _ (ha.below (belT hB0 hb1)) hR2).mono ?_
  rw [← hR, decide_eq_true HEq.out]
  rintro e w2 ⟨rfl, hb2⟩
  refine hK.out _ _ hb2 ?_
  clear hK K
  simp only [List.set_cons_zero, List.set_cons_succ]
  have hb2 := belT hb1 hb2
  replace KF : ∀ w', Below w2.heap.size w2 w' → (loadVar 27 ⟨w.heap.size, 0, none⟩).run Try.prog w' = .ok (rv 1 x p o ab l.length cb sb u.length cs n r t) w' ∧ w'.cell? ⟨w.heap.size, 0, none⟩ = some (.int .i64 1) ∧ w'.cell? ⟨w.heap.size, 1, none⟩ = some (.int .u64 x) ∧ w'.cell? ⟨w.heap.size, 2, none⟩ = some (.int .i64 p) ∧ w'.cell? ⟨w.heap.size, 3, none⟩ = some (.int .i64 o) ∧ w'.cell? ⟨w.heap.size, 4, none⟩ = some (.slice ab l.length cb) ∧ w'.cell? ⟨w.heap.size, 5, none⟩ = some (.slice sb u.length cs) ∧ w'.cell? ⟨w.heap.size, 6, none⟩ = some (.int .u64 n) ∧ w'.cell? ⟨w.heap.size, 7, none⟩ = some (.int .u64 r) ∧ w'.cell? ⟨w.heap.size, 8, none⟩ = some (.int .u64 t) := fun w' h => KF0 w' (belT hb2 h)
  refine seq_take 4 (v := ?_) rfl (by kernel_rfl) (fun _ _ _ h => h) (Or.inl ⟨by rfl, fun w' hb => ?_⟩) ?_
  rotate_left
  · have kf := KF w' hb
    go_simp
    with_reducible rfl
  simp only [Act.put, List.setIfInBounds_toArray, List.set_cons_zero, List.set_cons_succ]
  refine seq_take 5 (v := ?_) rfl (by kernel_rfl) (fun _ _ _ h => h) (Or.inl ⟨by rfl, fun w' hb => ?_⟩) ?_
  rotate_left
  · have kf := KF w' hb
    go_simp
    with_reducible rfl
  simp only [Act.put, List.setIfInBounds_toArray, List.set_cons_zero, List.set_cons_succ]
  refine seq_take 6 (v := ?_) rfl (by kernel_rfl) (fun _ _ _ h => h) (Or.inl ⟨by rfl, fun w' hb => ?_⟩) ?_
  rotate_left
  · have kf := KF w' hb
    go_simp
    with_reducible rfl
  simp only [Act.put, List.setIfInBounds_toArray, List.set_cons_zero, List.set_cons_succ]
  refine seq_take 7 (v := ?_) rfl (by kernel_rfl) (fun _ _ _ h => h) (Or.inl ⟨by rfl, fun w' hb => ?_⟩) ?_
  rotate_left
  · have kf := KF w' hb
    go_simp
    with_reducible rfl
  simp only [Act.put, List.setIfInBounds_toArray, List.set_cons_zero, List.set_cons_succ]
  refine seq_take 8 (v := ?_) rfl (by kernel_rfl) (fun _ _ _ h => h) (Or.inl ⟨by rfl, fun w' hb => ?_⟩) ?_
  rotate_left
  · have kf := KF w' hb
    go_simp
    with_reducible rfl
  simp only [Act.put, List.setIfInBounds_toArray, List.set_cons_zero, List.set_cons_succ]
  refine seq_take 9 (v := ?_) rfl (by kernel_rfl) (fun _ _ _ h => h) (Or.inl ⟨by rfl, fun w' hb => ?_⟩) ?_
  rotate_left
  · have kf := KF w' hb
    go_simp
    with_reducible rfl
  simp only [Act.put, List.setIfInBounds_toArray, List.set_cons_zero, List.set_cons_succ]
  refine seq_take 10 (v := ?_) rfl (by kernel_rfl) (fun _ _ _ h => h) (Or.inl ⟨by rfl, fun w' hb => ?_⟩) ?_
  rotate_left
  · have kf := KF w' hb
    go_simp
    with_reducible rfl
  simp only [Act.put, List.setIfInBounds_toArray, List.set_cons_zero, List.set_cons_succ]
  refine seq_take 11 (v := ?_) rfl (by kernel_rfl) (fun _ _ _ h => h) (Or.inl ⟨by rfl, fun w' hb => ?_⟩) ?_
  rotate_left
  · have kf := KF w' hb
    go_simp
    with_reducible rfl
  simp only [Act.put, List.setIfInBounds_toArray, List.set_cons_zero, List.set_cons_succ]
  refine seq_take 12 (v := ?_) rfl (by kernel_rfl) (fun _ _ _ h => h) (Or.inl ⟨by rfl, fun w' hb => ?_⟩) ?_
  rotate_left
  · have kf := KF w' hb
    go_simp
    with_reducible rfl
  simp only [Act.put, List.setIfInBounds_toArray, List.set_cons_zero, List.set_cons_succ]
  refine seq_take 13 (v := ?_) rfl (by kernel_rfl) (fun _ _ _ h => h) (Or.inl ⟨by rfl, fun w' hb => ?_⟩) ?_
  rotate_left
  · have kf := KF w' hb
    go_simp
    with_reducible rfl
  simp only [Act.put, List.setIfInBounds_toArray, List.set_cons_zero, List.set_cons_succ]
  refine seq_take 14 (v := ?_) rfl (by kernel_rfl) (fun _ _ _ h => h) (Or.inl ⟨by rfl, fun w' hb => ?_⟩) ?_
  rotate_left
  · have kf := KF w' hb
    go_simp
    with_reducible rfl
  simp only [Act.put, List.setIfInBounds_toArray, List.set_cons_zero, List.set_cons_succ]
  refine seq_take 15 (v := ?_) rfl (by kernel_rfl) (fun _ _ _ h => h) (Or.inl ⟨by rfl, fun w' hb => ?_⟩) ?_
  rotate_left
  · have kf := KF w' hb
    go_simp
    with_reducible rfl
  simp only [Act.put, List.setIfInBounds_toArray, List.set_cons_zero, List.set_cons_succ]
  refine seq_take 16 (v := ?_) rfl (by kernel_rfl) (fun _ _ _ h => h) (Or.inl ⟨by rfl, fun w' hb => ?_⟩) ?_
  rotate_left
  · have kf := KF w' hb
    go_simp
    with_reducible rfl
  simp only [Act.put, List.setIfInBounds_toArray, List.set_cons_zero, List.set_cons_succ]
  refine seq_take 17 (v := ?_) rfl (by kernel_rfl) (fun _ _ _ h => h) (Or.inl ⟨by rfl, fun w' hb => ?_⟩) ?_
  rotate_left
  · have kf := KF w' hb
    go_simp
    with_reducible rfl
  simp only [Act.put, List.setIfInBounds_toArray, List.set_cons_zero, List.set_cons_succ]
  refine seq_take 18 (v := ?_) rfl (by kernel_rfl) (fun _ _ _ h => h) (Or.inl ⟨by rfl, fun w' hb => ?_⟩) ?_
  rotate_left
  · have kf := KF w' hb
    go_simp
    with_reducible rfl
  simp only [Act.put, List.setIfInBounds_toArray, List.set_cons_zero, List.set_cons_succ]
  refine seq_take 19 (v := ?_) rfl (by kernel_rfl) (fun _ _ _ h => h) (Or.inl ⟨by rfl, fun w' hb => ?_⟩) ?_
  rotate_left
  · have kf := KF w' hb
    go_simp
    with_reducible rfl
  simp only [Act.put, List.setIfInBounds_toArray, List.set_cons_zero, List.set_cons_succ]
  refine seq_take 20 (v := ?_) rfl (by kernel_rfl) (fun _ _ _ h => h) (Or.inl ⟨by rfl, fun w' hb => ?_⟩) ?_
  rotate_left
  · have kf := KF w' hb
    go_simp
    with_reducible rfl
  simp only [Act.put, List.setIfInBounds_toArray, List.set_cons_zero, List.set_cons_succ]
  refine seq_take 21 (v := ?_) rfl (by kernel_rfl) (fun _ _ _ h => h) (Or.inl ⟨by rfl, fun w' hb => ?_⟩) ?_
  rotate_left
  · have kf := KF w' hb
    go_simp
    with_reducible rfl
  simp only [Act.put, List.setIfInBounds_toArray, List.set_cons_zero, List.set_cons_succ]
  refine seq_take 22 (v := ?_) rfl (by kernel_rfl) (fun _ _ _ h => h) (Or.inl ⟨by rfl, fun w' hb => ?_⟩) ?_
  rotate_left
  · have kf := KF w' hb
    go_simp
    with_reducible rfl
  simp only [Act.put, List.setIfInBounds_toArray, List.set_cons_zero, List.set_cons_succ]
  refine seq_take 23 (v := ?_) rfl (by kernel_rfl) (fun _ _ _ h => h) (Or.inl ⟨by rfl, fun w' hb => ?_⟩) ?_
  rotate_left
  · have kf := KF w' hb
    go_simp
    with_reducible rfl
  simp only [Act.put, List.setIfInBounds_toArray, List.set_cons_zero, List.set_cons_succ]
  refine seq_take 24 (v := ?_) rfl (by kernel_rfl) (fun _ _ _ h => h) (Or.inl ⟨by rfl, fun w' hb => ?_⟩) ?_
  rotate_left
  · have kf := KF w' hb
    go_simp
    with_reducible rfl
  simp only [Act.put, List.setIfInBounds_toArray, List.set_cons_zero, List.set_cons_succ]
  refine seq_end (by kernel_rfl) ?_
  obtain ⟨-, z0, z1, z2, z3, z4, z5, z6, z7, z8⟩ := KF w2 (Below.refl _ _)
  clear KF KF0
  have d1 : decide ((12 : Int) ≤ o) = true := by simp; omega
  have d2 : decide ((1 : Int) ≤ (l.length : Int)) = true := by simp; omega
  have d3 : decide ((l.length : Int) ≤ 1024) = true := by simp; omega
  have d4 : decide (o ≤ 1024 - (l.length : Int)) = true := by simp; omega
  go_wp2_with fail
  go_ret
  exact ⟨by rw [hM]; first | rfl | (simp; done) | (simp; omega), belT hB0 hb2⟩
set_option maxRecDepth 100000 in
set_option maxHeartbeats 8000000 in
theorem May2a (x : Nat) (p o : Int) (ab sb : Option Addr) (cb cs : Nat) (l : List UInt8) (u : List Nat) (n r t : Nat) (w : World) (ha : RB w ⟨2, x, p, o, l, u, n, r, t⟩ ab sb cb cs) (he : ⟨2, x, p, o, l, u, n, r, t⟩ = bareR ⟨2, x, p, o, l, u, n, r, t⟩) (hp0 : 0 ≤ p) (hp1 : p < 128) (hx1 : x ≤ 4000) (hr1 : r ≤ 4611686018427387904) (q1 : ¬ l.length = 1024) :
    Calls Try.prog 16 #[rv 2 x p o ab l.length cb sb u.length cs n r t] w fun e w' => e = .returned (.bool (mayB ⟨2, x, p, o, l, u, n, r, t⟩)) ∧ Below w.heap.size w w' := by
  have HEq := Lib.hid he
  have hK : kindB ⟨2, x, p, o, l, u, n, r, t⟩ = false := by simp [kindB]; omega
  have hM : mayB ⟨2, x, p, o, l, u, n, r, t⟩ = false := by unfold mayB; rw [decide_eq_true he, hK]; simp [hp0, hp1, hx1, hr1]
  clear he hK
  have hd0 : decide (p < 0) = false := by simp; omega
  have hd1 : decide (128 ≤ p) = false := by simp; omega
  have hd2 : decide (4000 < (x : Int)) = false := by simp; omega
  have hd3 : decide (4611686018427387904 < (r : Int)) = false := by simp; omega
  go_enter Try.func16, Try.ntmps16
  go_wp2_with fail
  obtain ⟨W, hW⟩ : ∃ W, W = w.alloc (.cells #[.int .i64 2, .int .u64 x, .int .i64 p, .int .i64 o, .slice ab l.length cb, .slice sb u.length cs, .int .u64 n, .int .u64 r, .int .u64 t] 27) := ⟨_, rfl⟩
  have hB0 : Below w.heap.size w W := by rw [hW]; exact below_alloc _ _
  have hG : W.heap[w.heap.size]? = some (.cells #[.int .i64 2, .int .u64 x, .int .i64 p, .int .i64 o, .slice ab l.length cb, .slice sb u.length cs, .int .u64 n, .int .u64 r, .int .u64 t] 27 (0, 0)) := by rw [hW]; exact heap_alloc_new _ _
  have hsz : w.heap.size < W.heap.size := by rw [hW]; simp
  rw [← hW]
  have KF0 : ∀ w', Below W.heap.size W w' → (loadVar 27 ⟨w.heap.size, 0, none⟩).run Try.prog w' = .ok (rv 2 x p o ab l.length cb sb u.length cs n r t) w' ∧ w'.cell? ⟨w.heap.size, 0, none⟩ = some (.int .i64 2) ∧ w'.cell? ⟨w.heap.size, 1, none⟩ = some (.int .u64 x) ∧ w'.cell? ⟨w.heap.size, 2, none⟩ = some (.int .i64 p) ∧ w'.cell? ⟨w.heap.size, 3, none⟩ = some (.int .i64 o) ∧ w'.cell? ⟨w.heap.size, 4, none⟩ = some (.slice ab l.length cb) ∧ w'.cell? ⟨w.heap.size, 5, none⟩ = some (.slice sb u.length cs) ∧ w'.cell? ⟨w.heap.size, 6, none⟩ = some (.int .u64 n) ∧ w'.cell? ⟨w.heap.size, 7, none⟩ = some (.int .u64 r) ∧ w'.cell? ⟨w.heap.size, 8, none⟩ = some (.int .u64 t) := fun w' h => loads9 2 x p o ab sb cb cs l u n r t _ w' ((h.block _ hsz).trans hG)
  clear hW hG
  have KF : ∀ w', Below W.drew.heap.size W.drew w' → (loadVar 27 ⟨w.heap.size, 0, none⟩).run Try.prog w' = .ok (rv 2 x p o ab l.length cb sb u.length cs n r t) w' ∧ w'.cell? ⟨w.heap.size, 0, none⟩ = some (.int .i64 2) ∧ w'.cell? ⟨w.heap.size, 1, none⟩ = some (.int .u64 x) ∧ w'.cell? ⟨w.heap.size, 2, none⟩ = some (.int .i64 p) ∧ w'.cell? ⟨w.heap.size, 3, none⟩ = some (.int .i64 o) ∧ w'.cell? ⟨w.heap.size, 4, none⟩ = some (.slice ab l.length cb) ∧ w'.cell? ⟨w.heap.size, 5, none⟩ = some (.slice sb u.length cs) ∧ w'.cell? ⟨w.heap.size, 6, none⟩ = some (.int .u64 n) ∧ w'.cell? ⟨w.heap.size, 7, none⟩ = some (.int .u64 r) ∧ w'.cell? ⟨w.heap.size, 8, none⟩ = some (.int .u64 t) := fun w' h => KF0 w' (belT (Below.refl _ _).drew h)
  refine seq_start 25 [false, false, false, false, false, false, false, false, false, false, false, false, false, false, false, false, false, false, false, false, false, false, false, false, false] (by kernel_rfl) rfl rfl ?_
  refine seq_take 0 (v := ?_) rfl (by kernel_rfl) (fun _ _ _ h => h) (Or.inl ⟨by rfl, fun w' hb => ?_⟩) ?_
  rotate_left
  · have kf := KF w' hb
    go_simp
    with_reducible rfl
  simp only [Act.put, List.setIfInBounds_toArray, List.set_cons_zero, List.set_cons_succ]
  refine seq_take 1 (v := ?_) rfl (by kernel_rfl) (fun _ _ _ h => h) (Or.inl ⟨by rfl, fun w' hb => ?_⟩) ?_
  rotate_left
  · have kf := KF w' hb
    go_simp
    with_reducible rfl
  simp only [Act.put, List.setIfInBounds_toArray, List.set_cons_zero, List.set_cons_succ]
  refine seq_do 2 rfl (by kernel_rfl) (fun K hK => ?_)
  go_simp
  refine (bareAny 2 x p o ab sb cb cs l u n r t _ (ha.below (belT hB0 (Below.refl _ _).drew))).mono ?_
  rintro e w1 ⟨⟨k2, x2, p2, o2, ab2, sb2, cb2, cs2, l2, u2, n2, r2, t2, hR, rfl, hR2⟩, hb1⟩
  refine hK.out _ _ hb1 ?_
  clear hK K
  simp only [List.set_cons_zero, List.set_cons_succ]
  have hb1 := belT (Below.refl _ _).drew hb1
  replace KF : ∀ w', Below w1.heap.size w1 w' → (loadVar 27 ⟨w.heap.size, 0, none⟩).run Try.prog w' = .ok (rv 2 x p o ab l.length cb sb u.length cs n r t) w' ∧ w'.cell? ⟨w.heap.size, 0, none⟩ = some (.int .i64 2) ∧ w'.cell? ⟨w.heap.size, 1, none⟩ = some (.int .u64 x) ∧ w'.cell? ⟨w.heap.size, 2, none⟩ = some (.int .i64 p) ∧ w'.cell? ⟨w.heap.size, 3, none⟩ = some (.int .i64 o) ∧ w'.cell? ⟨w.heap.size, 4, none⟩ = some (.slice ab l.length cb) ∧ w'.cell? ⟨w.heap.size, 5, none⟩ = some (.slice sb u.length cs) ∧ w'.cell? ⟨w.heap.size, 6, none⟩ = some (.int .u64 n) ∧ w'.cell? ⟨w.heap.size, 7, none⟩ = some (.int .u64 r) ∧ w'.cell? ⟨w.heap.size, 8, none⟩ = some (.int .u64 t) := fun w' h => KF0 w' (belT hb1 h)
  refine seq_do 3 rfl (by kernel_rfl) (fun K hK => ?_)
  go_simp
  refine (SameF 2 x p o ab sb cb cs l u n r t k2 x2 p2 o2 ab2 sb2 cb2 cs2 l2 u2 n2 r2 t2 _ (ha.below (belT hB0 hb1)) hR2).mono ?_
  rw [← hR, decide_eq_true HEq.out]
  rintro e w2 ⟨rfl, hb2⟩
  refine hK.out _ _ hb2 ?_
  clear hK K
  simp only [List.set_cons_zero, List.set_cons_succ]
  have hb2 := belT hb1 hb2
  replace KF : ∀ w', Below w2.heap.size w2 w' → (loadVar 27 ⟨w.heap.size, 0, none⟩).run Try.prog w' = .ok (rv 2 x p o ab l.length cb sb u.length cs n r t) w' ∧ w'.cell? ⟨w.heap.size, 0, none⟩ = some (.int .i64 2) ∧ w'.cell? ⟨w.heap.size, 1, none⟩ = some (.int .u64 x) ∧ w'.cell? ⟨w.heap.size, 2, none⟩ = some (.int .i64 p) ∧ w'.cell? ⟨w.heap.size, 3, none⟩ = some (.int .i64 o) ∧ w'.cell? ⟨w.heap.size, 4, none⟩ = some (.slice ab l.length cb) ∧ w'.cell? ⟨w.heap.size, 5, none⟩ = some (.slice sb u.length cs) ∧ w'.cell? ⟨w.heap.size, 6, none⟩ = some (.int .u64 n) ∧ w'.cell? ⟨w.heap.size, 7, none⟩ = some (.int .u64 r) ∧ w'.cell? ⟨w.heap.size, 8, none⟩ = some (.int .u64 t) := fun w' h => KF0 w' (belT hb2 h)
  refine seq_take 4 (v := ?_) rfl (by kernel_rfl) (fun _ _ _ h => h) (Or.inl ⟨by rfl, fun w' hb => ?_⟩) ?_
  rotate_left
  · have kf := KF w' hb
    go_simp
    with_reducible rfl
  simp only [Act.put, List.setIfInBounds_toArray, List.set_cons_zero, List.set_cons_succ]
  refine seq_take 5 (v := ?_) rfl (by kernel_rfl) (fun _ _ _ h => h) (Or.inl ⟨by rfl, fun w' hb => ?_⟩) ?_
  rotate_left
  · have kf := KF w' hb
    go_simp
    with_reducible rfl
  simp only [Act.put, List.setIfInBounds_toArray, List.set_cons_zero, List.set_cons_succ]
  refine seq_take 6 (v := ?_) rfl (by kernel_rfl) (fun _ _ _ h => h) (Or.inl ⟨by rfl, fun w' hb => ?_⟩) ?_
  rotate_left
  · have kf := KF w' hb
    go_simp
    with_reducible rfl
  simp only [Act.put, List.setIfInBounds_toArray, List.set_cons_zero, List.set_cons_succ]
  refine seq_take 7 (v := ?_) rfl (by kernel_rfl) (fun _ _ _ h => h) (Or.inl ⟨by rfl, fun w' hb => ?_⟩) ?_
  rotate_left
  · have kf := KF w' hb
    go_simp
    with_reducible rfl
  simp only [Act.put, List.setIfInBounds_toArray, List.set_cons_zero, List.set_cons_succ]
  refine seq_take 8 (v := ?_) rfl (by kernel_rfl) (fun _ _ _ h => h) (Or.inl ⟨by rfl, fun w' hb => ?_⟩) ?_
  rotate_left
  · have kf := KF w' hb
    go_simp
    with_reducible rfl
  simp only [Act.put, List.setIfInBounds_toArray, List.set_cons_zero, List.set_cons_succ]
  refine seq_take 9 (v := ?_) rfl (by kernel_rfl) (fun _ _ _ h => h) (Or.inl ⟨by rfl, fun w' hb => ?_⟩) ?_
  rotate_left
  · have kf := KF w' hb
    go_simp
    with_reducible rfl
  simp only [Act.put, List.setIfInBounds_toArray, List.set_cons_zero, List.set_cons_succ]
  refine seq_take 10 (v := ?_) rfl (by kernel_rfl) (fun _ _ _ h => h) (Or.inl ⟨by rfl, fun w' hb => ?_⟩) ?_
  rotate_left
  · have kf := KF w' hb
    go_simp
    with_reducible rfl
  simp only [Act.put, List.setIfInBounds_toArray, List.set_cons_zero, List.set_cons_succ]
  refine seq_take 11 (v := ?_) rfl (by kernel_rfl) (fun _ _ _ h => h) (Or.inl ⟨by rfl, fun w' hb => ?_⟩) ?_
  rotate_left
  · have kf := KF w' hb
    go_simp
    with_reducible rfl
  simp only [Act.put, List.setIfInBounds_toArray, List.set_cons_zero, List.set_cons_succ]
  refine seq_take 12 (v := ?_) rfl (by kernel_rfl) (fun _ _ _ h => h) (Or.inl ⟨by rfl, fun w' hb => ?_⟩) ?_
  rotate_left
  · have kf := KF w' hb
    go_simp
    with_reducible rfl
  simp only [Act.put, List.setIfInBounds_toArray, List.set_cons_zero, List.set_cons_succ]
  refine seq_take 13 (v := ?_) rfl (by kernel_rfl) (fun _ _ _ h => h) (Or.inl ⟨by rfl, fun w' hb => ?_⟩) ?_
  rotate_left
  · have kf := KF w' hb
    go_simp
    with_reducible rfl
  simp only [Act.put, List.setIfInBounds_toArray, List.set_cons_zero, List.set_cons_succ]
  refine seq_take 14 (v := ?_) rfl (by kernel_rfl) (fun _ _ _ h => h) (Or.inl ⟨by rfl, fun w' hb => ?_⟩) ?_
  rotate_left
  · have kf := KF w' hb
    go_simp
    with_reducible rfl
  simp only [Act.put, List.setIfInBounds_toArray, List.set_cons_zero, List.set_cons_succ]
  refine seq_take 15 (v := ?_) rfl (by kernel_rfl) (fun _ _ _ h => h) (Or.inl ⟨by rfl, fun w' hb => ?_⟩) ?_
  rotate_left
  · have kf := KF w' hb
    go_simp
    with_reducible rfl
  simp only [Act.put, List.setIfInBounds_toArray, List.set_cons_zero, List.set_cons_succ]
  refine seq_take 16 (v := ?_) rfl (by kernel_rfl) (fun _ _ _ h => h) (Or.inl ⟨by rfl, fun w' hb => ?_⟩) ?_
  rotate_left
  · have kf := KF w' hb
    go_simp
    with_reducible rfl
  simp only [Act.put, List.setIfInBounds_toArray, List.set_cons_zero, List.set_cons_succ]
  refine seq_take 17 (v := ?_) rfl (by kernel_rfl) (fun _ _ _ h => h) (Or.inl ⟨by rfl, fun w' hb => ?_⟩) ?_
  rotate_left
  · have kf := KF w' hb
    go_simp
    with_reducible rfl
  simp only [Act.put, List.setIfInBounds_toArray, List.set_cons_zero, List.set_cons_succ]
  refine seq_take 18 (v := ?_) rfl (by kernel_rfl) (fun _ _ _ h => h) (Or.inl ⟨by rfl, fun w' hb => ?_⟩) ?_
  rotate_left
  · have kf := KF w' hb
    go_simp
    with_reducible rfl
  simp only [Act.put, List.setIfInBounds_toArray, List.set_cons_zero, List.set_cons_succ]
  refine seq_take 19 (v := ?_) rfl (by kernel_rfl) (fun _ _ _ h => h) (Or.inl ⟨by rfl, fun w' hb => ?_⟩) ?_
  rotate_left
  · have kf := KF w' hb
    go_simp
    with_reducible rfl
  simp only [Act.put, List.setIfInBounds_toArray, List.set_cons_zero, List.set_cons_succ]
  refine seq_take 20 (v := ?_) rfl (by kernel_rfl) (fun _ _ _ h => h) (Or.inl ⟨by rfl, fun w' hb => ?_⟩) ?_
  rotate_left
  · have kf := KF w' hb
    go_simp
    with_reducible rfl
  simp only [Act.put, List.setIfInBounds_toArray, List.set_cons_zero, List.set_cons_succ]
  refine seq_take 21 (v := ?_) rfl (by kernel_rfl) (fun _ _ _ h => h) (Or.inl ⟨by rfl, fun w' hb => ?_⟩) ?_
  rotate_left
  · have kf := KF w' hb
    go_simp
    with_reducible rfl
  simp only [Act.put, List.setIfInBounds_toArray, List.set_cons_zero, List.set_cons_succ]
  refine seq_take 22 (v := ?_) rfl (by kernel_rfl) (fun _ _ _ h => h) (Or.inl ⟨by rfl, fun w' hb => ?_⟩) ?_
  rotate_left
  · have kf := KF w' hb
    go_simp
    with_reducible rfl
  simp only [Act.put, List.setIfInBounds_toArray, List.set_cons_zero, List.set_cons_succ]
  refine seq_take 23 (v := ?_) rfl (by kernel_rfl) (fun _ _ _ h => h) (Or.inl ⟨by rfl, fun w' hb => ?_⟩) ?_
  rotate_left
  · have kf := KF w' hb
    go_simp
    with_reducible rfl
  simp only [Act.put, List.setIfInBounds_toArray, List.set_cons_zero, List.set_cons_succ]
  refine seq_take 24 (v := ?_) rfl (by kernel_rfl) (fun _ _ _ h => h) (Or.inl ⟨by rfl, fun w' hb => ?_⟩) ?_
  rotate_left
  · have kf := KF w' hb
    go_simp
    with_reducible rfl
  simp only [Act.put, List.setIfInBounds_toArray, List.set_cons_zero, List.set_cons_succ]
  refine seq_end (by kernel_rfl) ?_
  obtain ⟨-, z0, z1, z2, z3, z4, z5, z6, z7, z8⟩ := KF w2 (Below.refl _ _)
  clear KF KF0
  have d1 : ((l.length : Int) == 1024) = false := by simp; omega
  go_wp2_with fail
  go_ret
  exact ⟨by rw [hM]; first | rfl | (simp; done) | (simp; omega), belT hB0 hb2⟩
set_option maxRecDepth 100000 in
set_option maxHeartbeats 8000000 in
theorem May2b (x : Nat) (p o : Int) (ab sb : Option Addr) (cb cs : Nat) (l : List UInt8) (u : List Nat) (n r t : Nat) (w : World) (ha : RB w ⟨2, x, p, o, l, u, n, r, t⟩ ab sb cb cs) (he : ⟨2, x, p, o, l, u, n, r, t⟩ = bareR ⟨2, x, p, o, l, u, n, r, t⟩) (hp0 : 0 ≤ p) (hp1 : p < 128) (hx1 : x ≤ 4000) (hr1 : r ≤ 4611686018427387904) (q1 : Hid (l.length = 1024)) :
    Calls Try.prog 16 #[rv 2 x p o ab l.length cb sb u.length cs n r t] w fun e w' => e = .returned (.bool (mayB ⟨2, x, p, o, l, u, n, r, t⟩)) ∧ Below w.heap.size w w' := by
  have HEq := Lib.hid he
  have hK : kindB ⟨2, x, p, o, l, u, n, r, t⟩ = true := by simp [kindB]; exact q1.out
  have hM : mayB ⟨2, x, p, o, l, u, n, r, t⟩ = true := by unfold mayB; rw [decide_eq_true he, hK]; simp [hp0, hp1, hx1, hr1]
  clear he hK
  have hd0 : decide (p < 0) = false := by simp; omega
  have hd1 : decide (128 ≤ p) = false := by simp; omega
  have hd2 : decide (4000 < (x : Int)) = false := by simp; omega
  have hd3 : decide (4611686018427387904 < (r : Int)) = false := by simp; omega
  go_enter Try.func16, Try.ntmps16
  go_wp2_with fail
  obtain ⟨W, hW⟩ : ∃ W, W = w.alloc (.cells #[.int .i64 2, .int .u64 x, .int .i64 p, .int .i64 o, .slice ab l.length cb, .slice sb u.length cs, .int .u64 n, .int .u64 r, .int .u64 t] 27) := ⟨_, rfl⟩
  have hB0 : Below w.heap.size w W := by rw [hW]; exact below_alloc _ _
  have hG : W.heap[w.heap.size]? = some (.cells #[.int .i64 2, .int .u64 x, .int .i64 p, .int .i64 o, .slice ab l.length cb, .slice sb u.length cs, .int .u64 n, .int .u64 r, .int .u64 t] 27 (0, 0)) := by rw [hW]; exact heap_alloc_new _ _
  have hsz : w.heap.size < W.heap.size := by rw [hW]; simp
  rw [← hW]
  have KF0 : ∀ w', Below W.heap.size W w' → (loadVar 27 ⟨w.heap.size, 0, none⟩).run Try.prog w' = .ok (rv 2 x p o ab l.length cb sb u.length cs n r t) w' ∧ w'.cell? ⟨w.heap.size, 0, none⟩ = some (.int .i64 2) ∧ w'.cell? ⟨w.heap.size, 1, none⟩ = some (.int .u64 x) ∧ w'.cell? ⟨w.heap.size, 2, none⟩ = some (.int .i64 p) ∧ w'.cell? ⟨w.heap.size, 3, none⟩ = some (.int .i64 o) ∧ w'.cell? ⟨w.heap.size, 4, none⟩ = some (.slice ab l.length cb) ∧ w'.cell? ⟨w.heap.size, 5, none⟩ = some (.slice sb u.length cs) ∧ w'.cell? ⟨w.heap.size, 6, none⟩ = some (.int .u64 n) ∧ w'.cell? ⟨w.heap.size, 7, none⟩ = some (.int .u64 r) ∧ w'.cell? ⟨w.heap.size, 8, none⟩ = some (.int .u64 t) := fun w' h => loads9 2 x p o ab sb cb cs l u n r t _ w' ((h.block _ hsz).trans hG)
  clear hW hG
  have KF : ∀ w', Below W.drew.heap.size W.drew w' → (loadVar 27 ⟨w.heap.size, 0, none⟩).run Try.prog w' = .ok (rv 2 x p o ab l.length cb sb u.length cs n r t) w' ∧ w'.cell? ⟨w.heap.size, 0, none⟩ = some (.int .i64 2) ∧ w'.cell? ⟨w.heap.size, 1, none⟩ = some (.int .u64 x) ∧ w'.cell? ⟨w.heap.size, 2, none⟩ = some (.int .i64 p) ∧ w'.cell? ⟨w.heap.size, 3, none⟩ = some (.int .i64 o) ∧ w'.cell? ⟨w.heap.size, 4, none⟩ = some (.slice ab l.length cb) ∧ w'.cell? ⟨w.heap.size, 5, none⟩ = some (.slice sb u.length cs) ∧ w'.cell? ⟨w.heap.size, 6, none⟩ = some (.int .u64 n) ∧ w'.cell? ⟨w.heap.size, 7, none⟩ = some (.int .u64 r) ∧ w'.cell? ⟨w.heap.size, 8, none⟩ = some (.int .u64 t) := fun w' h => KF0 w' (belT (Below.refl _ _).drew h)
  refine seq_start 25 [false, false, false, false, false, false, false, false, false, false, false, false, false, false, false, false, false, false, false, false, false, false, false, false, false] (by kernel_rfl) rfl rfl ?_
  refine seq_take 0 (v := ?_) rfl (by kernel_rfl) (fun _ _ _ h => h) (Or.inl ⟨by rfl, fun w' hb => ?_⟩) ?_
  rotate_left
  · have kf := KF w' hb
    go_simp
    with_reducible rfl
  simp only [Act.put, List.setIfInBounds_toArray, List.set_cons_zero, List.set_cons_succ]
  refine seq_take 1 (v := ?_) rfl (by kernel_rfl) (fun _ _ _ h => h) (Or.inl ⟨by rfl, fun w' hb => ?_⟩) ?_
  rotate_left
  · have kf := KF w' hb
    go_simp
    with_reducible rfl
  simp only [Act.put, List.setIfInBounds_toArray, List.set_cons_zero, List.set_cons_succ]
  refine seq_do 2 rfl (by kernel_rfl) (fun K hK => ?_)
  go_simp
  refine (bareAny 2 x p o ab sb cb cs l u n r t _ (ha.below (belT hB0 (Below.refl _ _).drew))).mono ?_
  rintro e w1 ⟨⟨k2, x2, p2, o2, ab2, sb2, cb2, cs2, l2, u2, n2, r2, t2, hR, rfl, hR2⟩, hb1⟩
  refine hK.out _ _ hb1 ?_
  clear hK K
  simp only [List.set_cons_zero, List.set_cons_succ]
  have hb1 := belT (Below.refl _ _).drew hb1
  replace KF : ∀ w', Below w1.heap.size w1 w' → (loadVar 27 ⟨w.heap.size, 0, none⟩).run Try.prog w' = .ok (rv 2 x p o ab l.length cb sb u.length cs n r t) w' ∧ w'.cell? ⟨w.heap.size, 0, none⟩ = some (.int .i64 2) ∧ w'.cell? ⟨w.heap.size, 1, none⟩ = some (.int .u64 x) ∧ w'.cell? ⟨w.heap.size, 2, none⟩ = some (.int .i64 p) ∧ w'.cell? ⟨w.heap.size, 3, none⟩ = some (.int .i64 o) ∧ w'.cell? ⟨w.heap.size, 4, none⟩ = some (.slice ab l.length cb) ∧ w'.cell? ⟨w.heap.size, 5, none⟩ = some (.slice sb u.length cs) ∧ w'.cell? ⟨w.heap.size, 6, none⟩ = some (.int .u64 n) ∧ w'.cell? ⟨w.heap.size, 7, none⟩ = some (.int .u64 r) ∧ w'.cell? ⟨w.heap.size, 8, none⟩ = some (.int .u64 t) := fun w' h => KF0 w' (belT hb1 h)
  refine seq_do 3 rfl (by kernel_rfl) (fun K hK => ?_)
  go_simp
  refine (SameF 2 x p o ab sb cb cs l u n r t k2 x2 p2 o2 ab2 sb2 cb2 cs2 l2 u2 n2 r2 t2 _ (ha.below (belT hB0 hb1)) hR2).mono ?_
  rw [← hR, decide_eq_true HEq.out]
  rintro e w2 ⟨rfl, hb2⟩
  refine hK.out _ _ hb2 ?_
  clear hK K
  simp only [List.set_cons_zero, List.set_cons_succ]
  have hb2 := belT hb1 hb2
  replace KF : ∀ w', Below w2.heap.size w2 w' → (loadVar 27 ⟨w.heap.size, 0, none⟩).run Try.prog w' = .ok (rv 2 x p o ab l.length cb sb u.length cs n r t) w' ∧ w'.cell? ⟨w.heap.size, 0, none⟩ = some (.int .i64 2) ∧ w'.cell? ⟨w.heap.size, 1, none⟩ = some (.int .u64 x) ∧ w'.cell? ⟨w.heap.size, 2, none⟩ = some (.int .i64 p) ∧ w'.cell? ⟨w.heap.size, 3, none⟩ = some (.int .i64 o) ∧ w'.cell? ⟨w.heap.size, 4, none⟩ = some (.slice ab l.length cb) ∧ w'.cell? ⟨w.heap.size, 5, none⟩ = some (.slice sb u.length cs) ∧ w'.cell? ⟨w.heap.size, 6, none⟩ = some (.int .u64 n) ∧ w'.cell? ⟨w.heap.size, 7, none⟩ = some (.int .u64 r) ∧ w'.cell? ⟨w.heap.size, 8, none⟩ = some (.int .u64 t) := fun w' h => KF0 w' (belT hb2 h)
  refine seq_take 4 (v := ?_) rfl (by kernel_rfl) (fun _ _ _ h => h) (Or.inl ⟨by rfl, fun w' hb => ?_⟩) ?_
  rotate_left
  · have kf := KF w' hb
    go_simp
    with_reducible rfl
  simp only [Act.put, List.setIfInBounds_toArray, List.set_cons_zero, List.set_cons_succ]
  refine seq_take 5 (v := ?_) rfl (by kernel_rfl) (fun _ _ _ h => h) (Or.inl ⟨by rfl, fun w' hb => ?_⟩) ?_
  rotate_left
  · have kf := KF w' hb
    go_simp
    with_reducible rfl
  simp only [Act.put, List.setIfInBounds_toArray, List.set_cons_zero, List.set_cons_succ]
  refine seq_take 6 (v := ?_) rfl (by kernel_rfl) (fun _ _ _ h => h) (Or.inl ⟨by rfl, fun w' hb => ?_⟩) ?_
  rotate_left
  · have kf := KF w' hb
    go_simp
    with_reducible rfl
  simp only [Act.put, List.setIfInBounds_toArray, List.set_cons_zero, List.set_cons_succ]
  refine seq_take 7 (v := ?_) rfl (by kernel_rfl) (fun _ _ _ h => h) (Or.inl ⟨by rfl, fun w' hb => ?_⟩) ?_
  rotate_left
  · have kf := KF w' hb
    go_simp
    with_reducible rfl
  simp only [Act.put, List.setIfInBounds_toArray, List.set_cons_zero, List.set_cons_succ]
  refine seq_take 8 (v := ?_) rfl (by kernel_rfl) (fun _ _ _ h => h) (Or.inl ⟨by rfl, fun w' hb => ?_⟩) ?_
  rotate_left
  · have kf := KF w' hb
    go_simp
    with_reducible rfl
  simp only [Act.put, List.setIfInBounds_toArray, List.set_cons_zero, List.set_cons_succ]
  refine seq_take 9 (v := ?_) rfl (by kernel_rfl) (fun _ _ _ h => h) (Or.inl ⟨by rfl, fun w' hb => ?_⟩) ?_
  rotate_left
  · have kf := KF w' hb
    go_simp
    with_reducible rfl
  simp only [Act.put, List.setIfInBounds_toArray, List.set_cons_zero, List.set_cons_succ]
  refine seq_take 10 (v := ?_) rfl (by kernel_rfl) (fun _ _ _ h => h) (Or.inl ⟨by rfl, fun w' hb => ?_⟩) ?_
  rotate_left
  · have kf := KF w' hb
    go_simp
    with_reducible rfl
  simp only [Act.put, List.setIfInBounds_toArray, List.set_cons_zero, List.set_cons_succ]
  refine seq_take 11 (v := ?_) rfl (by kernel_rfl) (fun _ _ _ h => h) (Or.inl ⟨by rfl, fun w' hb => ?_⟩) ?_
  rotate_left
  · have kf := KF w' hb
    go_simp
    with_reducible rfl
  simp only [Act.put, List.setIfInBounds_toArray, List.set_cons_zero, List.set_cons_succ]
  refine seq_take 12 (v := ?_) rfl (by kernel_rfl) (fun _ _ _ h => h) (Or.inl ⟨by rfl, fun w' hb => ?_⟩) ?_
  rotate_left
  · have kf := KF w' hb
    go_simp
    with_reducible rfl
  simp only [Act.put, List.setIfInBounds_toArray, List.set_cons_zero, List.set_cons_succ]
  refine seq_take 13 (v := ?_) rfl (by kernel_rfl) (fun _ _ _ h => h) (Or.inl ⟨by rfl, fun w' hb => ?_⟩) ?_
  rotate_left
  · have kf := KF w' hb
    go_simp
    with_reducible rfl
  simp only [Act.put, List.setIfInBounds_toArray, List.set_cons_zero, List.set_cons_succ]
  refine seq_take 14 (v := ?_) rfl (by kernel_rfl) (fun _ _ _ h => h) (Or.inl ⟨by rfl, fun w' hb => ?_⟩) ?_
  rotate_left
  · have kf := KF w' hb
    go_simp
    with_reducible rfl
  simp only [Act.put, List.setIfInBounds_toArray, List.set_cons_zero, List.set_cons_succ]
  refine seq_take 15 (v := ?_) rfl (by kernel_rfl) (fun _ _ _ h => h) (Or.inl ⟨by rfl, fun w' hb => ?_⟩) ?_
  rotate_left
  · have kf := KF w' hb
    go_simp
    with_reducible rfl
  simp only [Act.put, List.setIfInBounds_toArray, List.set_cons_zero, List.set_cons_succ]
  refine seq_take 16 (v := ?_) rfl (by kernel_rfl) (fun _ _ _ h => h) (Or.inl ⟨by rfl, fun w' hb => ?_⟩) ?_
  rotate_left
  · have kf := KF w' hb
    go_simp
    with_reducible rfl
  simp only [Act.put, List.setIfInBounds_toArray, List.set_cons_zero, List.set_cons_succ]
  refine seq_take 17 (v := ?_) rfl (by kernel_rfl) (fun _ _ _ h => h) (Or.inl ⟨by rfl, fun w' hb => ?_⟩) ?_
  rotate_left
  · have kf := KF w' hb
    go_simp
    with_reducible rfl
  simp only [Act.put, List.setIfInBounds_toArray, List.set_cons_zero, List.set_cons_succ]
  refine seq_take 18 (v := ?_) rfl (by kernel_rfl) (fun _ _ _ h => h) (Or.inl ⟨by rfl, fun w' hb => ?_⟩) ?_
  rotate_left
  · have kf := KF w' hb
    go_simp
    with_reducible rfl
  simp only [Act.put, List.setIfInBounds_toArray, List.set_cons_zero, List.set_cons_succ]
  refine seq_take 19 (v := ?_) rfl (by kernel_rfl) (fun _ _ _ h => h) (Or.inl ⟨by rfl, fun w' hb => ?_⟩) ?_
  rotate_left
  · have kf := KF w' hb
    go_simp
    with_reducible rfl
  simp only [Act.put, List.setIfInBounds_toArray, List.set_cons_zero, List.set_cons_succ]
  refine seq_take 20 (v := ?_) rfl (by kernel_rfl) (fun _ _ _ h => h) (Or.inl ⟨by rfl, fun w' hb => ?_⟩) ?_
  rotate_left
  · have kf := KF w' hb
    go_simp
    with_reducible rfl
  simp only [Act.put, List.setIfInBounds_toArray, List.set_cons_zero, List.set_cons_succ]
  refine seq_take 21 (v := ?_) rfl (by kernel_rfl) (fun _ _ _ h => h) (Or.inl ⟨by rfl, fun w' hb => ?_⟩) ?_
  rotate_left
  · have kf := KF w' hb
    go_simp
    with_reducible rfl
  simp only [Act.put, List.setIfInBounds_toArray, List.set_cons_zero, List.set_cons_succ]
  refine seq_take 22 (v := ?_) rfl (by kernel_rfl) (fun _ _ _ h => h) (Or.inl ⟨by rfl, fun w' hb => ?_⟩) ?_
  rotate_left
  · have kf := KF w' hb
    go_simp
    with_reducible rfl
  simp only [Act.put, List.setIfInBounds_toArray, List.set_cons_zero, List.set_cons_succ]
  refine seq_take 23 (v := ?_) rfl (by kernel_rfl) (fun _ _ _ h => h) (Or.inl ⟨by rfl, fun w' hb => ?_⟩) ?_
  rotate_left
  · have kf := KF w' hb
    go_simp
    with_reducible rfl
  simp only [Act.put, List.setIfInBounds_toArray, List.set_cons_zero, List.set_cons_succ]
  refine seq_take 24 (v := ?_) rfl (by kernel_rfl) (fun _ _ _ h => h) (Or.inl ⟨by rfl, fun w' hb => ?_⟩) ?_
  rotate_left
  · have kf := KF w' hb
    go_simp
    with_reducible rfl
  simp only [Act.put, List.setIfInBounds_toArray, List.set_cons_zero, List.set_cons_succ]
  refine seq_end (by kernel_rfl) ?_
  obtain ⟨-, z0, z1, z2, z3, z4, z5, z6, z7, z8⟩ := KF w2 (Below.refl _ _)
  clear KF KF0
  have d1 : ((l.length : Int) == 1024) = true := by have := q1.out; simp; omega
  go_wp2_with fail
  go_ret
  exact ⟨by rw [hM]; first | rfl | (simp; done) | (simp; omega), belT hB0 hb2⟩
set_option maxRecDepth 100000 in
set_option maxHeartbeats 8000000 in
theorem May3a (x : Nat) (p o : Int) (ab sb : Option Addr) (cb cs : Nat) (l : List UInt8) (u : List Nat) (n r t : Nat) (w : World) (ha : RB w ⟨3, x, p, o, l, u, n, r, t⟩ ab sb cb cs) (he : ⟨3, x, p, o, l, u, n, r, t⟩ = bareR ⟨3, x, p, o, l, u, n, r, t⟩) (hp0 : 0 ≤ p) (hp1 : p < 128) (hx1 : x ≤ 4000) (hr1 : r ≤ 4611686018427387904) (q1 : ¬ 1 ≤ x) :
    Calls Try.prog 16 #[rv 3 x p o ab l.length cb sb u.length cs n r t] w fun e w' => e = .returned (.bool (mayB ⟨3, x, p, o, l, u, n, r, t⟩)) ∧ Below w.heap.size w w' := by
  have HEq := Lib.hid he
  have hK : kindB ⟨3, x, p, o, l, u, n, r, t⟩ = false := by simp [kindB]; omega
  have hM : mayB ⟨3, x, p, o, l, u, n, r, t⟩ = false := by unfold mayB; rw [decide_eq_true he, hK]; simp [hp0, hp1, hx1, hr1]
  clear he hK
  have hd0 : decide (p < 0) = false := by simp; omega
  have hd1 : decide (128 ≤ p) = false := by simp; omega
  have hd2 : decide (4000 < (x : Int)) = false := by simp; omega
  have hd3 : decide (4611686018427387904 < (r : Int)) = false := by simp; omega
  go_enter Try.func16, Try.ntmps16
  go_wp2_with fail
  obtain ⟨W, hW⟩ : ∃ W, W = w.alloc (.cells #[.int .i64 3, .int .u64 x, .int .i64 p, .int .i64 o, .slice ab l.length cb, .slice sb u.length cs, .int .u64 n, .int .u64 r, .int .u64 t] 27) := ⟨_, rfl⟩
  have hB0 : Below w.heap.size w W := by rw [hW]; exact below_alloc _ _
  have hG : W.heap[w.heap.size]? = some (.cells #[.int .i64 3, .int .u64 x, .int .i64 p, .int .i64 o, .slice ab l.length cb, .slice sb u.length cs, .int .u64 n, .int .u64 r, .int .u64 t] 27 (0, 0)) := by rw [hW]; exact heap_alloc_new _ _
  have hsz : w.heap.size < W.heap.size := by rw [hW]; simp
  rw [← hW]
  have KF0 : ∀ w', Below W.heap.size W w' → (loadVar 27 ⟨w.heap.size, 0, none⟩).run Try.prog w' = .ok (rv 3 x p o ab l.length cb sb u.length cs n r t) w' ∧ w'.cell? ⟨w.heap.size, 0, none⟩ = some (.int .i64 3) ∧ w'.cell? ⟨w.heap.size, 1, none⟩ = some (.int .u64 x) ∧ w'.cell? ⟨w.heap.size, 2, none⟩ = some (.int .i64 p) ∧ w'.cell? ⟨w.heap.size, 3, none⟩ = some (.int .i64 o) ∧ w'.cell? ⟨w.heap.size, 4, none⟩ = some (.slice ab l.length cb) ∧ w'.cell? ⟨w.heap.size, 5, none⟩ = some (.slice sb u.length cs) ∧ w'.cell? ⟨w.heap.size, 6, none⟩ = some (.int .u64 n) ∧ w'.cell? ⟨w.heap.size, 7, none⟩ = some (.int .u64 r) ∧ w'.cell? ⟨w.heap.size, 8, none⟩ = some (.int .u64 t) := fun w' h => loads9 3 x p o ab sb cb cs l u n r t _ w' ((h.block _ hsz).trans hG)
  clear hW hG
  have KF : ∀ w', Below W.drew.heap.size W.drew w' → (loadVar 27 ⟨w.heap.size, 0, none⟩).run Try.prog w' = .ok (rv 3 x p o ab l.length cb sb u.length cs n r t) w' ∧ w'.cell? ⟨w.heap.size, 0, none⟩ = some (.int .i64 3) ∧ w'.cell? ⟨w.heap.size, 1, none⟩ = some (.int .u64 x) ∧ w'.cell? ⟨w.heap.size, 2, none⟩ = some (.int .i64 p) ∧ w'.cell? ⟨w.heap.size, 3, none⟩ = some (.int .i64 o) ∧ w'.cell? ⟨w.heap.size, 4, none⟩ = some (.slice ab l.length cb) ∧ w'.cell? ⟨w.heap.size, 5, none⟩ = some (.slice sb u.length cs) ∧ w'.cell? ⟨w.heap.size, 6, none⟩ = some (.int .u64 n) ∧ w'.cell? ⟨w.heap.size, 7, none⟩ = some (.int .u64 r) ∧ w'.cell? ⟨w.heap.size, 8, none⟩ = some (.int .u64 t) := fun w' h => KF0 w' (belT (Below.refl _ _).drew h)
  refine seq_start 25 [false, false, false, false, false, false, false, false, false, false, false, false, false, false, false, false, false, false, false, false, false, false, false, false, false] (by kernel_rfl) rfl rfl ?_
  refine seq_take 0 (v := ?_) rfl (by kernel_rfl) (fun _ _ _ h => h) (Or.inl ⟨by rfl, fun w' hb => ?_⟩) ?_
  rotate_left
  · have kf := KF w' hb
    go_simp
    with_reducible rfl
  simp only [Act.put, List.setIfInBounds_toArray, List.set_cons_zero, List.set_cons_succ]
  refine seq_take 1 (v := ?_) rfl (by kernel_rfl) (fun _ _ _ h => h) (Or.inl ⟨by rfl, fun w' hb => ?_⟩) ?_
  rotate_left
  · have kf := KF w' hb
    go_simp
    with_reducible rfl
  simp only [Act.put, List.setIfInBounds_toArray, List.set_cons_zero, List.set_cons_succ]
  refine seq_do 2 rfl (by kernel_rfl) (fun K hK => ?_)
  go_simp
  refine (bareAny 3 x p o ab sb cb cs l u n r t _ (ha.below (belT hB0 (Below.refl _ _).drew))).mono ?_
  rintro e w1 ⟨⟨k2, x2, p2, o2, ab2, sb2, cb2, cs2, l2, u2, n2, r2, t2, hR, rfl, hR2⟩, hb1⟩
  refine hK.out _ _ hb1 ?_
  clear hK K
  simp only [List.set_cons_zero, List.set_cons_succ]
  have hb1 := belT (Below.refl _ _).drew hb1
  replace KF : ∀ w', Below w1.heap.size w1 w' → (loadVar 27 ⟨w.heap.size, 0, none⟩).run Try.prog w' = .ok (rv 3 x p o ab l.length cb sb u.length cs n r t) w' ∧ w'.cell? ⟨w.heap.size, 0, none⟩ = some (.int .i64 3) ∧ w'.cell? ⟨w.heap.size, 1, none⟩ = some (.int .u64 x) ∧ w'.cell? ⟨w.heap.size, 2, none⟩ = some (.int .i64 p) ∧ w'.cell? ⟨w.heap.size, 3, none⟩ = some (.int .i64 o) ∧ w'.cell? ⟨w.heap.size, 4, none⟩ = some (.slice ab l.length cb) ∧ w'.cell? ⟨w.heap.size, 5, none⟩ = some (.slice sb u.length cs) ∧ w'.cell? ⟨w.heap.size, 6, none⟩ = some (.int .u64 n) ∧ w'.cell? ⟨w.heap.size, 7, none⟩ = some (.int .u64 r) ∧ w'.cell? ⟨w.heap.size, 8, none⟩ = some (.int .u64 t) := fun w' h => KF0 w' (belT hb1 h)
  refine seq_do 3 rfl (by kernel_rfl) (fun K hK => ?_)
  go_simp
  refine (SameF 3 x p o ab sb cb cs l u n r t k2 x2 p2 o2 ab2 sb2 cb2 cs2 l2 u2 n2 r2 t2 _ (ha.below (belT hB0 hb1)) hR2).mono ?_
  rw [← hR, decide_eq_true HEq.out]
  rintro e w2 ⟨rfl, hb2⟩
  refine hK.out _ _ hb2 ?_
  clear hK K
  simp only [List.set_cons_zero, List.set_cons_succ]
  have hb2 := belT hb1 hb2
  replace KF : ∀ w', Below w2.heap.size w2 w' → (loadVar 27 ⟨w.heap.size, 0, none⟩).run Try.prog w' = .ok (rv 3 x p o ab l.length cb sb u.length cs n r t) w' ∧ w'.cell? ⟨w.heap.size, 0, none⟩ = some (.int .i64 3) ∧ w'.cell? ⟨w.heap.size, 1, none⟩ = some (.int .u64 x) ∧ w'.cell? ⟨w.heap.size, 2, none⟩ = some (.int .i64 p) ∧ w'.cell? ⟨w.heap.size, 3, none⟩ = some (.int .i64 o) ∧ w'.cell? ⟨w.heap.size, 4, none⟩ = some (.slice ab l.length cb) ∧ w'.cell? ⟨w.heap.size, 5, none⟩ = some (.slice sb u.length cs) ∧ w'.cell? ⟨w.heap.size, 6, none⟩ = some (.int .u64 n) ∧ w'.cell? ⟨w.heap.size, 7, none⟩ = some (.int .u64 r) ∧ w'.cell? ⟨w.heap.size, 8, none⟩ = some (.int .u64 t) := fun w' h => KF0 w' (belT hb2 h)
  refine seq_take 4 (v := ?_) rfl (by kernel_rfl) (fun _ _ _ h => h) (Or.inl ⟨by rfl, fun w' hb => ?_⟩) ?_
  rotate_left
  · have kf := KF w' hb
    go_simp
    with_reducible rfl
  simp only [Act.put, List.setIfInBounds_toArray, List.set_cons_zero, List.set_cons_succ]
  refine seq_take 5 (v := ?_) rfl (by kernel_rfl) (fun _ _ _ h => h) (Or.inl ⟨by rfl, fun w' hb => ?_⟩) ?_
  rotate_left
  · have kf := KF w' hb
    go_simp
    with_reducible rfl
  simp only [Act.put, List.setIfInBounds_toArray, List.set_cons_zero, List.set_cons_succ]
  refine seq_take 6 (v := ?_) rfl (by kernel_rfl) (fun _ _ _ h => h) (Or.inl ⟨by rfl, fun w' hb => ?_⟩) ?_
  rotate_left
  · have kf := KF w' hb
    go_simp
    with_reducible rfl
  simp only [Act.put, List.setIfInBounds_toArray, List.set_cons_zero, List.set_cons_succ]
  refine seq_take 7 (v := ?_) rfl (by kernel_rfl) (fun _ _ _ h => h) (Or.inl ⟨by rfl, fun w' hb => ?_⟩) ?_
  rotate_left
  · have kf := KF w' hb
    go_simp
    with_reducible rfl
  simp only [Act.put, List.setIfInBounds_toArray, List.set_cons_zero, List.set_cons_succ]
  refine seq_take 8 (v := ?_) rfl (by kernel_rfl) (fun _ _ _ h => h) (Or.inl ⟨by rfl, fun w' hb => ?_⟩) ?_
  rotate_left
  · have kf := KF w' hb
    go_simp
    with_reducible rfl
  simp only [Act.put, List.setIfInBounds_toArray, List.set_cons_zero, List.set_cons_succ]
  refine seq_take 9 (v := ?_) rfl (by kernel_rfl) (fun _ _ _ h => h) (Or.inl ⟨by rfl, fun w' hb => ?_⟩) ?_
  rotate_left
  · have kf := KF w' hb
    go_simp
    with_reducible rfl
  simp only [Act.put, List.setIfInBounds_toArray, List.set_cons_zero, List.set_cons_succ]
  refine seq_take 10 (v := ?_) rfl (by kernel_rfl) (fun _ _ _ h => h) (Or.inl ⟨by rfl, fun w' hb => ?_⟩) ?_
  rotate_left
  · have kf := KF w' hb
    go_simp
    with_reducible rfl
  simp only [Act.put, List.setIfInBounds_toArray, List.set_cons_zero, List.set_cons_succ]
  refine seq_take 11 (v := ?_) rfl (by kernel_rfl) (fun _ _ _ h => h) (Or.inl ⟨by rfl, fun w' hb => ?_⟩) ?_
  rotate_left
  · have kf := KF w' hb
    go_simp
    with_reducible rfl
  simp only [Act.put, List.setIfInBounds_toArray, List.set_cons_zero, List.set_cons_succ]
  refine seq_take 12 (v := ?_) rfl (by kernel_rfl) (fun _ _ _ h => h) (Or.inl ⟨by rfl, fun w' hb => ?_⟩) ?_
  rotate_left
  · have kf := KF w' hb
    go_simp
    with_reducible rfl
  simp only [Act.put, List.setIfInBounds_toArray, List.set_cons_zero, List.set_cons_succ]
  refine seq_take 13 (v := ?_) rfl (by kernel_rfl) (fun _ _ _ h => h) (Or.inl ⟨by rfl, fun w' hb => ?_⟩) ?_
  rotate_left
  · have kf := KF w' hb
    go_simp
    with_reducible rfl
  simp only [Act.put, List.setIfInBounds_toArray, List.set_cons_zero, List.set_cons_succ]
  refine seq_take 14 (v := ?_) rfl (by kernel_rfl) (fun _ _ _ h => h) (Or.inl ⟨by rfl, fun w' hb => ?_⟩) ?_
  rotate_left
  · have kf := KF w' hb
    go_simp
    with_reducible rfl
  simp only [Act.put, List.setIfInBounds_toArray, List.set_cons_zero, List.set_cons_succ]
  refine seq_take 15 (v := ?_) rfl (by kernel_rfl) (fun _ _ _ h => h) (Or.inl ⟨by rfl, fun w' hb => ?_⟩) ?_
  rotate_left
  · have kf := KF w' hb
    go_simp
    with_reducible rfl
  simp only [Act.put, List.setIfInBounds_toArray, List.set_cons_zero, List.set_cons_succ]
  refine seq_take 16 (v := ?_) rfl (by kernel_rfl) (fun _ _ _ h => h) (Or.inl ⟨by rfl, fun w' hb => ?_⟩) ?_
  rotate_left
  · have kf := KF w' hb
    go_simp
    with_reducible rfl
  simp only [Act.put, List.setIfInBounds_toArray, List.set_cons_zero, List.set_cons_succ]
  refine seq_take 17 (v := ?_) rfl (by kernel_rfl) (fun _ _ _ h => h) (Or.inl ⟨by rfl, fun w' hb => ?_⟩) ?_
  rotate_left
  · have kf := KF w' hb
    go_simp
    with_reducible rfl
  simp only [Act.put, List.setIfInBounds_toArray, List.set_cons_zero, List.set_cons_succ]
  refine seq_take 18 (v := ?_) rfl (by kernel_rfl) (fun _ _ _ h => h) (Or.inl ⟨by rfl, fun w' hb => ?_⟩) ?_
  rotate_left
  · have kf := KF w' hb
    go_simp
    with_reducible rfl
  simp only [Act.put, List.setIfInBounds_toArray, List.set_cons_zero, List.set_cons_succ]
  refine seq_take 19 (v := ?_) rfl (by kernel_rfl) (fun _ _ _ h => h) (Or.inl ⟨by rfl, fun w' hb => ?_⟩) ?_
  rotate_left
  · have kf := KF w' hb
    go_simp
    with_reducible rfl
  simp only [Act.put, List.setIfInBounds_toArray, List.set_cons_zero, List.set_cons_succ]
  refine seq_take 20 (v := ?_) rfl (by kernel_rfl) (fun _ _ _ h => h) (Or.inl ⟨by rfl, fun w' hb => ?_⟩) ?_
  rotate_left
  · have kf := KF w' hb
    go_simp
    with_reducible rfl
  simp only [Act.put, List.setIfInBounds_toArray, List.set_cons_zero, List.set_cons_succ]
  refine seq_take 21 (v := ?_) rfl (by kernel_rfl) (fun _ _ _ h => h) (Or.inl ⟨by rfl, fun w' hb => ?_⟩) ?_
  rotate_left
  · have kf := KF w' hb
    go_simp
    with_reducible rfl
  simp only [Act.put, List.setIfInBounds_toArray, List.set_cons_zero, List.set_cons_succ]
  refine seq_take 22 (v := ?_) rfl (by kernel_rfl) (fun _ _ _ h => h) (Or.inl ⟨by rfl, fun w' hb => ?_⟩) ?_
  rotate_left
  · have kf := KF w' hb
    go_simp
    with_reducible rfl
  simp only [Act.put, List.setIfInBounds_toArray, List.set_cons_zero, List.set_cons_succ]
  refine seq_take 23 (v := ?_) rfl (by kernel_rfl) (fun _ _ _ h => h) (Or.inl ⟨by rfl, fun w' hb => ?_⟩) ?_
  rotate_left
  · have kf := KF w' hb
    go_simp
    with_reducible rfl
  simp only [Act.put, List.setIfInBounds_toArray, List.set_cons_zero, List.set_cons_succ]
  refine seq_take 24 (v := ?_) rfl (by kernel_rfl) (fun _ _ _ h => h) (Or.inl ⟨by rfl, fun w' hb => ?_⟩) ?_
  rotate_left
  · have kf := KF w' hb
    go_simp
    with_reducible rfl
  simp only [Act.put, List.setIfInBounds_toArray, List.set_cons_zero, List.set_cons_succ]
  refine seq_end (by kernel_rfl) ?_
  obtain ⟨-, z0, z1, z2, z3, z4, z5, z6, z7, z8⟩ := KF w2 (Below.refl _ _)
  clear KF KF0
  have XF : ∀ w, Calls Try.prog 24 #[.int .u64 x] w fun e w' => e = .returned (.bool false) ∧ w = w' := fun w => by have := xidF x w; rwa [decide_eq_false (by omega)] at this
  go_wp2_with (go_at_call 24; refine (XF _).mono ?_; rintro e w' ⟨rfl, rfl⟩)
  go_ret
  exact ⟨by rw [hM]; first | rfl | (simp; done) | (simp; omega), belT hB0 hb2⟩
set_option maxRecDepth 100000 in
set_option maxHeartbeats 8000000 in
theorem May3b (x : Nat) (p o : Int) (ab sb : Option Addr) (cb cs : Nat) (l : List UInt8) (u : List Nat) (n r t : Nat) (w : World) (ha : RB w ⟨3, x, p, o, l, u, n, r, t⟩ ab sb cb cs) (he : ⟨3, x, p, o, l, u, n, r, t⟩ = bareR ⟨3, x, p, o, l, u, n, r, t⟩) (hp0 : 0 ≤ p) (hp1 : p < 128) (hx1 : x ≤ 4000) (hr1 : r ≤ 4611686018427387904) (q1 : 1 ≤ x) :
    Calls Try.prog 16 #[rv 3 x p o ab l.length cb sb u.length cs n r t] w fun e w' => e = .returned (.bool (mayB ⟨3, x, p, o, l, u, n, r, t⟩)) ∧ Below w.heap.size w w' := by
  have HEq := Lib.hid he
  have hK : kindB ⟨3, x, p, o, l, u, n, r, t⟩ = (risingL x 4001 u && decide (u.length ≤ 64)) := by simp [kindB]; omega
  have hM : mayB ⟨3, x, p, o, l, u, n, r, t⟩ = (risingL x 4001 u && decide (u.length ≤ 64)) := by unfold mayB; rw [decide_eq_true he, hK]; simp [hp0, hp1, hx1, hr1]
  clear he hK
  have hd0 : decide (p < 0) = false := by simp; omega
  have hd1 : decide (128 ≤ p) = false := by simp; omega
  have hd2 : decide (4000 < (x : Int)) = false := by simp; omega
  have hd3 : decide (4611686018427387904 < (r : Int)) = false := by simp; omega
  go_enter Try.func16, Try.ntmps16
  go_wp2_with fail
  obtain ⟨W, hW⟩ : ∃ W, W = w.alloc (.cells #[.int .i64 3, .int .u64 x, .int .i64 p, .int .i64 o, .slice ab l.length cb, .slice sb u.length cs, .int .u64 n, .int .u64 r, .int .u64 t] 27) := ⟨_, rfl⟩
  have hB0 : Below w.heap.size w W := by rw [hW]; exact below_alloc _ _
  have hG : W.heap[w.heap.size]? = some (.cells #[.int .i64 3, .int .u64 x, .int .i64 p, .int .i64 o, .slice ab l.length cb, .slice sb u.length cs, .int .u64 n, .int .u64 r, .int .u64 t] 27 (0, 0)) := by rw [hW]; exact heap_alloc_new _ _
  have hsz : w.heap.size < W.heap.size := by rw [hW]; simp
  rw [← hW]
  have KF0 : ∀ w', Below W.heap.size W w' → (loadVar 27 ⟨w.heap.size, 0, none⟩).run Try.prog w' = .ok (rv 3 x p o ab l.length cb sb u.length cs n r t) w' ∧ w'.cell? ⟨w.heap.size, 0, none⟩ = some (.int .i64 3) ∧ w'.cell? ⟨w.heap.size, 1, none⟩ = some (.int .u64 x) ∧ w'.cell? ⟨w.heap.size, 2, none⟩ = some (.int .i64 p) ∧ w'.cell? ⟨w.heap.size, 3, none⟩ = some (.int .i64 o) ∧ w'.cell? ⟨w.heap.size, 4, none⟩ = some (.slice ab l.length cb) ∧ w'.cell? ⟨w.heap.size, 5, none⟩ = some (.slice sb u.length cs) ∧ w'.cell? ⟨w.heap.size, 6, none⟩ = some (.int .u64 n) ∧ w'.cell? ⟨w.heap.size, 7, none⟩ = some (.int .u64 r) ∧ w'.cell? ⟨w.heap.size, 8, none⟩ = some (.int .u64 t) := fun w' h => loads9 3 x p o ab sb cb cs l u n r t _ w' ((h.block _ hsz).trans hG)
  clear hW hG
  have KF : ∀ w', Below W.drew.heap.size W.drew w' → (loadVar 27 ⟨w.heap.size, 0, none⟩).run Try.prog w' = .ok (rv 3 x p o ab l.length cb sb u.length cs n r t) w' ∧ w'.cell? ⟨w.heap.size, 0, none⟩ = some (.int .i64 3) ∧ w'.cell? ⟨w.heap.size, 1, none⟩ = some (.int .u64 x) ∧ w'.cell? ⟨w.heap.size, 2, none⟩ = some (.int .i64 p) ∧ w'.cell? ⟨w.heap.size, 3, none⟩ = some (.int .i64 o) ∧ w'.cell? ⟨w.heap.size, 4, none⟩ = some (.slice ab l.length cb) ∧ w'.cell? ⟨w.heap.size, 5, none⟩ = some (.slice sb u.length cs) ∧ w'.cell? ⟨w.heap.size, 6, none⟩ = some (.int .u64 n) ∧ w'.cell? ⟨w.heap.size, 7, none⟩ = some (.int .u64 r) ∧ w'.cell? ⟨w.heap.size, 8, none⟩ = some (.int .u64 t) := fun w' h => KF0 w' (belT (Below.refl _ _).drew h)
  refine seq_start 25 [false, false, false, false, false, false, false, false, false, false, false, false, false, false, false, false, false, false, false, false, false, false, false, false, false] (by kernel_rfl) rfl rfl ?_
  refine seq_take 0 (v := ?_) rfl (by kernel_rfl) (fun _ _ _ h => h) (Or.inl ⟨by rfl, fun w' hb => ?_⟩) ?_
  rotate_left
  · have kf := KF w' hb
    go_simp
    with_reducible rfl
  simp only [Act.put, List.setIfInBounds_toArray, List.set_cons_zero, List.set_cons_succ]
  refine seq_take 1 (v := ?_) rfl (by kernel_rfl) (fun _ _ _ h => h) (Or.inl ⟨by rfl, fun w' hb => ?_⟩) ?_
  rotate_left
  · have kf := KF w' hb
    go_simp
    with_reducible rfl
  simp only [Act.put, List.setIfInBounds_toArray, List.set_cons_zero, List.set_cons_succ]
  refine seq_do 2 rfl (by kernel_rfl) (fun K hK => ?_)
  go_simp
  refine (bareAny 3 x p o ab sb cb cs l u n r t _ (ha.below (belT hB0 (Below.refl _ _).drew))).mono ?_
  rintro e w1 ⟨⟨k2, x2, p2, o2, ab2, sb2, cb2, cs2, l2, u2, n2, r2, t2, hR, rfl, hR2⟩, hb1⟩
  refine hK.out _ _ hb1 ?_
  clear hK K
  simp only [List.set_cons_zero, List.set_cons_succ]
  have hb1 := belT (Below.refl _ _).drew hb1
  replace KF : ∀ w', Below w1.heap.size w1 w' → (loadVar 27 ⟨w.heap.size, 0, none⟩).run Try.prog w' = .ok (rv 3 x p o ab l.length cb sb u.length cs n r t) w' ∧ w'.cell? ⟨w.heap.size, 0, none⟩ = some (.int .i64 3) ∧ w'.cell? ⟨w.heap.size, 1, none⟩ = some (.int .u64 x) ∧ w'.cell? ⟨w.heap.size, 2, none⟩ = some (.int .i64 p) ∧ w'.cell? ⟨w.heap.size, 3, none⟩ = some (.int .i64 o) ∧ w'.cell? ⟨w.heap.size, 4, none⟩ = some (.slice ab l.length cb) ∧ w'.cell? ⟨w.heap.size, 5, none⟩ = some (.slice sb u.length cs) ∧ w'.cell? ⟨w.heap.size, 6, none⟩ = some (.int .u64 n) ∧ w'.cell? ⟨w.heap.size, 7, none⟩ = some (.int .u64 r) ∧ w'.cell? ⟨w.heap.size, 8, none⟩ = some (.int .u64 t) := fun w' h => KF0 w' (belT hb1 h)
  refine seq_do 3 rfl (by kernel_rfl) (fun K hK => ?_)
  go_simp
  refine (SameF 3 x p o ab sb cb cs l u n r t k2 x2 p2 o2 ab2 sb2 cb2 cs2 l2 u2 n2 r2 t2 _ (ha.below (belT hB0 hb1)) hR2).mono ?_
  rw [← hR, decide_eq_true HEq.out]
  rintro e w2 ⟨rfl, hb2⟩
  refine hK.out _ _ hb2 ?_
  clear hK K
  simp only [List.set_cons_zero, List.set_cons_succ]
  have hb2 := belT hb1 hb2
  replace KF : ∀ w', Below w2.heap.size w2 w' → (loadVar 27 ⟨w.heap.size, 0, none⟩).run Try.prog w' = .ok (rv 3 x p o ab l.length cb sb u.length cs n r t) w' ∧ w'.cell? ⟨w.heap.size, 0, none⟩ = some (.int .i64 3) ∧ w'.cell? ⟨w.heap.size, 1, none⟩ = some (.int .u64 x) ∧ w'.cell? ⟨w.heap.size, 2, none⟩ = some (.int .i64 p) ∧ w'.cell? ⟨w.heap.size, 3, none⟩ = some (.int .i64 o) ∧ w'.cell? ⟨w.heap.size, 4, none⟩ = some (.slice ab l.length cb) ∧ w'.cell? ⟨w.heap.size, 5, none⟩ = some (.slice sb u.length cs) ∧ w'.cell? ⟨w.heap.size, 6, none⟩ = some (.int .u64 n) ∧ w'.cell? ⟨w.heap.size, 7, none⟩ = some (.int .u64 r) ∧ w'.cell? ⟨w.heap.size, 8, none⟩ = some (.int .u64 t) := fun w' h => KF0 w' (belT hb2 h)
  refine seq_take 4 (v := ?_) rfl (by kernel_rfl) (fun _ _ _ h => h) (Or.inl ⟨by rfl, fun w' hb => ?_⟩) ?_
  rotate_left
  · have kf := KF w' hb
    go_simp
    with_reducible rfl
  simp only [Act.put, List.setIfInBounds_toArray, List.set_cons_zero, List.set_cons_succ]
  refine seq_take 5 (v := ?_) rfl (by kernel_rfl) (fun _ _ _ h => h) (Or.inl ⟨by rfl, fun w' hb => ?_⟩) ?_
  rotate_left
  · have kf := KF w' hb
    go_simp
    with_reducible rfl
  simp only [Act.put, List.setIfInBounds_toArray, List.set_cons_zero, List.set_cons_succ]
  refine seq_take 6 (v := ?_) rfl (by kernel_rfl) (fun _ _ _ h => h) (Or.inl ⟨by rfl, fun w' hb => ?_⟩) ?_
  rotate_left
  · have kf := KF w' hb
    go_simp
    with_reducible rfl
  simp only [Act.put, List.setIfInBounds_toArray, List.set_cons_zero, List.set_cons_succ]
  refine seq_take 7 (v := ?_) rfl (by kernel_rfl) (fun _ _ _ h => h) (Or.inl ⟨by rfl, fun w' hb => ?_⟩) ?_
  rotate_left
  · have kf := KF w' hb
    go_simp
    with_reducible rfl
  simp only [Act.put, List.setIfInBounds_toArray, List.set_cons_zero, List.set_cons_succ]
  refine seq_take 8 (v := ?_) rfl (by kernel_rfl) (fun _ _ _ h => h) (Or.inl ⟨by rfl, fun w' hb => ?_⟩) ?_
  rotate_left
  · have kf := KF w' hb
    go_simp
    with_reducible rfl
  simp only [Act.put, List.setIfInBounds_toArray, List.set_cons_zero, List.set_cons_succ]
  refine seq_take 9 (v := ?_) rfl (by kernel_rfl) (fun _ _ _ h => h) (Or.inl ⟨by rfl, fun w' hb => ?_⟩) ?_
  rotate_left
  · have kf := KF w' hb
    go_simp
    with_reducible rfl
  simp only [Act.put, List.setIfInBounds_toArray, List.set_cons_zero, List.set_cons_succ]
  refine seq_take 10 (v := ?_) rfl (by kernel_rfl) (fun _ _ _ h => h) (Or.inl ⟨by rfl, fun w' hb => ?_⟩) ?_
  rotate_left
  · have kf := KF w' hb
    go_simp
    with_reducible rfl
  simp only [Act.put, List.setIfInBounds_toArray, List.set_cons_zero, List.set_cons_succ]
  refine seq_take 11 (v := ?_) rfl (by kernel_rfl) (fun _ _ _ h => h) (Or.inl ⟨by rfl, fun w' hb => ?_⟩) ?_
  rotate_left
  · have kf := KF w' hb
    go_simp
    with_reducible rfl
  simp only [Act.put, List.setIfInBounds_toArray, List.set_cons_zero, List.set_cons_succ]
  refine seq_take 12 (v := ?_) rfl (by kernel_rfl) (fun _ _ _ h => h) (Or.inl ⟨by rfl, fun w' hb => ?_⟩) ?_
  rotate_left
  · have kf := KF w' hb
    go_simp
    with_reducible rfl
  simp only [Act.put, List.setIfInBounds_toArray, List.set_cons_zero, List.set_cons_succ]
  refine seq_take 13 (v := ?_) rfl (by kernel_rfl) (fun _ _ _ h => h) (Or.inl ⟨by rfl, fun w' hb => ?_⟩) ?_
  rotate_left
  · have kf := KF w' hb
    go_simp
    with_reducible rfl
  simp only [Act.put, List.setIfInBounds_toArray, List.set_cons_zero, List.set_cons_succ]
  refine seq_take 14 (v := ?_) rfl (by kernel_rfl) (fun _ _ _ h => h) (Or.inl ⟨by rfl, fun w' hb => ?_⟩) ?_
  rotate_left
  · have kf := KF w' hb
    go_simp
    with_reducible rfl
  simp only [Act.put, List.setIfInBounds_toArray, List.set_cons_zero, List.set_cons_succ]
  refine seq_take 15 (v := ?_) rfl (by kernel_rfl) (fun _ _ _ h => h) (Or.inl ⟨by rfl, fun w' hb => ?_⟩) ?_
  rotate_left
  · have kf := KF w' hb
    go_simp
    with_reducible rfl
  simp only [Act.put, List.setIfInBounds_toArray, List.set_cons_zero, List.set_cons_succ]
  refine seq_take 16 (v := ?_) rfl (by kernel_rfl) (fun _ _ _ h => h) (Or.inl ⟨by rfl, fun w' hb => ?_⟩) ?_
  rotate_left
  · have kf := KF w' hb
    go_simp
    with_reducible rfl
  simp only [Act.put, List.setIfInBounds_toArray, List.set_cons_zero, List.set_cons_succ]
  refine seq_take 17 (v := ?_) rfl (by kernel_rfl) (fun _ _ _ h => h) (Or.inl ⟨by rfl, fun w' hb => ?_⟩) ?_
  rotate_left
  · have kf := KF w' hb
    go_simp
    with_reducible rfl
  simp only [Act.put, List.setIfInBounds_toArray, List.set_cons_zero, List.set_cons_succ]
  refine seq_take 18 (v := ?_) rfl (by kernel_rfl) (fun _ _ _ h => h) (Or.inl ⟨by rfl, fun w' hb => ?_⟩) ?_
  rotate_left
  · have kf := KF w' hb
    go_simp
    with_reducible rfl
  simp only [Act.put, List.setIfInBounds_toArray, List.set_cons_zero, List.set_cons_succ]
  refine seq_take 19 (v := ?_) rfl (by kernel_rfl) (fun _ _ _ h => h) (Or.inl ⟨by rfl, fun w' hb => ?_⟩) ?_
  rotate_left
  · have kf := KF w' hb
    go_simp
    with_reducible rfl
  simp only [Act.put, List.setIfInBounds_toArray, List.set_cons_zero, List.set_cons_succ]
  refine seq_take 20 (v := ?_) rfl (by kernel_rfl) (fun _ _ _ h => h) (Or.inl ⟨by rfl, fun w' hb => ?_⟩) ?_
  rotate_left
  · have kf := KF w' hb
    go_simp
    with_reducible rfl
  simp only [Act.put, List.setIfInBounds_toArray, List.set_cons_zero, List.set_cons_succ]
  refine seq_take 21 (v := ?_) rfl (by kernel_rfl) (fun _ _ _ h => h) (Or.inl ⟨by rfl, fun w' hb => ?_⟩) ?_
  rotate_left
  · have kf := KF w' hb
    go_simp
    with_reducible rfl
  simp only [Act.put, List.setIfInBounds_toArray, List.set_cons_zero, List.set_cons_succ]
  refine seq_take 22 (v := ?_) rfl (by kernel_rfl) (fun _ _ _ h => h) (Or.inl ⟨by rfl, fun w' hb => ?_⟩) ?_
  rotate_left
  · have kf := KF w' hb
    go_simp
    with_reducible rfl
  simp only [Act.put, List.setIfInBounds_toArray, List.set_cons_zero, List.set_cons_succ]
  refine seq_take 23 (v := ?_) rfl (by kernel_rfl) (fun _ _ _ h => h) (Or.inl ⟨by rfl, fun w' hb => ?_⟩) ?_
  rotate_left
  · have kf := KF w' hb
    go_simp
    with_reducible rfl
  simp only [Act.put, List.setIfInBounds_toArray, List.set_cons_zero, List.set_cons_succ]
  refine seq_take 24 (v := ?_) rfl (by kernel_rfl) (fun _ _ _ h => h) (Or.inl ⟨by rfl, fun w' hb => ?_⟩) ?_
  rotate_left
  · have kf := KF w' hb
    go_simp
    with_reducible rfl
  simp only [Act.put, List.setIfInBounds_toArray, List.set_cons_zero, List.set_cons_succ]
  refine seq_end (by kernel_rfl) ?_
  obtain ⟨-, z0, z1, z2, z3, z4, z5, z6, z7, z8⟩ := KF w2 (Below.refl _ _)
  clear KF KF0
  have XF : ∀ w, Calls Try.prog 24 #[.int .u64 x] w fun e w' => e = .returned (.bool true) ∧ w = w' := fun w => by have := xidF x w; rwa [decide_eq_true (by omega)] at this
  go_wp2_with (first | (go_at_call 24; refine (XF _).mono ?_; rintro e w' ⟨rfl, rfl⟩) | (go_at_call 25; refine (risingF sb cs u x 4001 64 _ (ha.s.below (belT hB0 hb2)) ha.ls).mono ?_; rintro e w3 ⟨rfl, hb3⟩))
  go_ret
  exact ⟨by rw [hM]; first | rfl | (simp; done) | (simp; omega), belT (belT hB0 hb2) hb3⟩
set_option maxRecDepth 100000 in
set_option maxHeartbeats 8000000 in
theorem May4a (x : Nat) (p o : Int) (ab sb : Option Addr) (cb cs : Nat) (l : List UInt8) (u : List Nat) (n r t : Nat) (w : World) (ha : RB w ⟨4, x, p, o, l, u, n, r, t⟩ ab sb cb cs) (he : ⟨4, x, p, o, l, u, n, r, t⟩ = bareR ⟨4, x, p, o, l, u, n, r, t⟩) (hp0 : 0 ≤ p) (hp1 : p < 128) (hx1 : x ≤ 4000) (hr1 : r ≤ 4611686018427387904) (q1 : ¬ 1 ≤ x) :
    Calls Try.prog 16 #[rv 4 x p o ab l.length cb sb u.length cs n r t] w fun e w' => e = .returned (.bool (mayB ⟨4, x, p, o, l, u, n, r, t⟩)) ∧ Below w.heap.size w w' := by
  have HEq := Lib.hid he
  have hK : kindB ⟨4, x, p, o, l, u, n, r, t⟩ = false := by simp [kindB]; omega
  have hM : mayB ⟨4, x, p, o, l, u, n, r, t⟩ = false := by unfold mayB; rw [decide_eq_true he, hK]; simp [hp0, hp1, hx1, hr1]
  clear he hK
  have hd0 : decide (p < 0) = false := by simp; omega
  have hd1 : decide (128 ≤ p) = false := by simp; omega
  have hd2 : decide (4000 < (x : Int)) = false := by simp; omega
  have hd3 : decide (4611686018427387904 < (r : Int)) = false := by simp; omega
  go_enter Try.func16, Try.ntmps16
  go_wp2_with fail
  obtain ⟨W, hW⟩ : ∃ W, W = w.alloc (.cells #[.int .i64 4, .int .u64 x, .int .i64 p, .int .i64 o, .slice ab l.length cb, .slice sb u.length cs, .int .u64 n, .int .u64 r, .int .u64 t] 27) := ⟨_, rfl⟩
  have hB0 : Below w.heap.size w W := by rw [hW]; exact below_alloc _ _
  have hG : W.heap[w.heap.size]? = some (.cells #[.int .i64 4, .int .u64 x, .int .i64 p, .int .i64 o, .slice ab l.length cb, .slice sb u.length cs, .int .u64 n, .int .u64 r, .int .u64 t] 27 (0, 0)) := by rw [hW]; exact heap_alloc_new _ _
  have hsz : w.heap.size < W.heap.size := by rw [hW]; simp
  rw [← hW]
  have KF0 : ∀ w', Below W.heap.size W w' → (loadVar 27 ⟨w.heap.size, 0, none⟩).run Try.prog w' = .ok (rv 4 x p o ab l.length cb sb u.length cs n r t) w' ∧ w'.cell? ⟨w.heap.size, 0, none⟩ = some (.int .i64 4) ∧ w'.cell? ⟨w.heap.size, 1, none⟩ = some (.int .u64 x) ∧ w'.cell? ⟨w.heap.size, 2, none⟩ = some (.int .i64 p) ∧ w'.cell? ⟨w.heap.size, 3, none⟩ = some (.int .i64 o) ∧ w'.cell? ⟨w.heap.size, 4, none⟩ = some (.slice ab l.length cb) ∧ w'.cell? ⟨w.heap.size, 5, none⟩ = some (.slice sb u.length cs) ∧ w'.cell? ⟨w.heap.size, 6, none⟩ = some (.int .u64 n) ∧ w'.cell? ⟨w.heap.size, 7, none⟩ = some (.int .u64 r) ∧ w'.cell? ⟨w.heap.size, 8, none⟩ = some (.int .u64 t) := fun w' h => loads9 4 x p o ab sb cb cs l u n r t _ w' ((h.block _ hsz).trans hG)
  clear hW hG
  have KF : ∀ w', Below W.drew.heap.size W.drew w' → (loadVar 27 ⟨w.heap.size, 0, none⟩).run Try.prog w' = .ok (rv 4 x p o ab l.length cb sb u.length cs n r t) w' ∧ w'.cell? ⟨w.heap.size, 0, none⟩ = some (.int .i64 4) ∧ w'.cell? ⟨w.heap.size, 1, none⟩ = some (.int .u64 x) ∧ w'.cell? ⟨w.heap.size, 2, none⟩ = some (.int .i64 p) ∧ w'.cell? ⟨w.heap.size, 3, none⟩ = some (.int .i64 o) ∧ w'.cell? ⟨w.heap.size, 4, none⟩ = some (.slice ab l.length cb) ∧ w'.cell? ⟨w.heap.size, 5, none⟩ = some (.slice sb u.length cs) ∧ w'.cell? ⟨w.heap.size, 6, none⟩ = some (.int .u64 n) ∧ w'.cell? ⟨w.heap.size, 7, none⟩ = some (.int .u64 r) ∧ w'.cell? ⟨w.heap.size, 8, none⟩ = some (.int .u64 t) := fun w' h => KF0 w' (belT (Below.refl _ _).drew h)
  refine seq_start 25 [false, false, false, false, false, false, false, false, false, false, false, false, false, false, false, false, false, false, false, false, false, false, false, false, false] (by kernel_rfl) rfl rfl ?_
  refine seq_take 0 (v := ?_) rfl (by kernel_rfl) (fun _ _ _ h => h) (Or.inl ⟨by rfl, fun w' hb => ?_⟩) ?_
  rotate_left
  · have kf := KF w' hb
    go_simp
    with_reducible rfl
  simp only [Act.put, List.setIfInBounds_toArray, List.set_cons_zero, List.set_cons_succ]
  refine seq_take 1 (v := ?_) rfl (by kernel_rfl) (fun _ _ _ h => h) (Or.inl ⟨by rfl, fun w' hb => ?_⟩) ?_
  rotate_left
  · have kf := KF w' hb
    go_simp
    with_reducible rfl
  simp only [Act.put, List.setIfInBounds_toArray, List.set_cons_zero, List.set_cons_succ]
  refine seq_do 2 rfl (by kernel_rfl) (fun K hK => ?_)
  go_simp
  refine (bareAny 4 x p o ab sb cb cs l u n r t _ (ha.below (belT hB0 (Below.refl _ _).drew))).mono ?_
  rintro e w1 ⟨⟨k2, x2, p2, o2, ab2, sb2, cb2, cs2, l2, u2, n2, r2, t2, hR, rfl, hR2⟩, hb1⟩
  refine hK.out _ _ hb1 ?_
  clear hK K
  simp only [List.set_cons_zero, List.set_cons_succ]
  have hb1 := belT (Below.refl _ _).drew hb1
  replace KF : ∀ w', Below w1.heap.size w1 w' → (loadVar 27 ⟨w.heap.size, 0, none⟩).run Try.prog w' = .ok (rv 4 x p o ab l.length cb sb u.length cs n r t) w' ∧ w'.cell? ⟨w.heap.size, 0, none⟩ = some (.int .i64 4) ∧ w'.cell? ⟨w.heap.size, 1, none⟩ = some (.int .u64 x) ∧ w'.cell? ⟨w.heap.size, 2, none⟩ = some (.int .i64 p) ∧ w'.cell? ⟨w.heap.size, 3, none⟩ = some (.int .i64 o) ∧ w'.cell? ⟨w.heap.size, 4, none⟩ = some (.slice ab l.length cb) ∧ w'.cell? ⟨w.heap.size, 5, none⟩ = some (.slice sb u.length cs) ∧ w'.cell? ⟨w.heap.size, 6, none⟩ = some (.int .u64 n) ∧ w'.cell? ⟨w.heap.size, 7, none⟩ = some (.int .u64 r) ∧ w'.cell? ⟨w.heap.size, 8, none⟩ = some (.int .u64 t) := fun w' h => KF0 w' (belT hb1 h)
  refine seq_do 3 rfl (by kernel_rfl) (fun K hK => ?_)
  go_simp
  refine (SameF 4 x p o ab sb cb cs l u n r t k2 x2 p2 o2 ab2 sb2 cb2 cs2 l2 u2 n2 r2 t2 _ (ha.below (belT hB0 hb1)) hR2).mono ?_
  rw [← hR, decide_eq_true HEq.out]
  rintro e w2 ⟨rfl, hb2⟩
  refine hK.out _ _ hb2 ?_
  clear hK K
  simp only [List.set_cons_zero, List.set_cons_succ]
  have hb2 := belT hb1 hb2
  replace KF : ∀ w', Below w2.heap.size w2 w' → (loadVar 27 ⟨w.heap.size, 0, none⟩).run Try.prog w' = .ok (rv 4 x p o ab l.length cb sb u.length cs n r t) w' ∧ w'.cell? ⟨w.heap.size, 0, none⟩ = some (.int .i64 4) ∧ w'.cell? ⟨w.heap.size, 1, none⟩ = some (.int .u64 x) ∧ w'.cell? ⟨w.heap.size, 2, none⟩ = some (.int .i64 p) ∧ w'.cell? ⟨w.heap.size, 3, none⟩ = some (.int .i64 o) ∧ w'.cell? ⟨w.heap.size, 4, none⟩ = some (.slice ab l.length cb) ∧ w'.cell? ⟨w.heap.size, 5, none⟩ = some (.slice sb u.length cs) ∧ w'.cell? ⟨w.heap.size, 6, none⟩ = some (.int .u64 n) ∧ w'.cell? ⟨w.heap.size, 7, none⟩ = some (.int .u64 r) ∧ w'.cell? ⟨w.heap.size, 8, none⟩ = some (.int .u64 t) := fun w' h => KF0 w' (belT hb2 h)
  refine seq_take 4 (v := ?_) rfl (by kernel_rfl) (fun _ _ _ h => h) (Or.inl ⟨by rfl, fun w' hb => ?_⟩) ?_
  rotate_left
  · have kf := KF w' hb
    go_simp
    with_reducible rfl
  simp only [Act.put, List.setIfInBounds_toArray, List.set_cons_zero, List.set_cons_succ]
  refine seq_take 5 (v := ?_) rfl (by kernel_rfl) (fun _ _ _ h => h) (Or.inl ⟨by rfl, fun w' hb => ?_⟩) ?_
  rotate_left
  · have kf := KF w' hb
    go_simp
    with_reducible rfl
  simp only [Act.put, List.setIfInBounds_toArray, List.set_cons_zero, List.set_cons_succ]
  refine seq_take 6 (v := ?_) rfl (by kernel_rfl) (fun _ _ _ h => h) (Or.inl ⟨by rfl, fun w' hb => ?_⟩) ?_
  rotate_left
  · have kf := KF w' hb
    go_simp
    with_reducible rfl
  simp only [Act.put, List.setIfInBounds_toArray, List.set_cons_zero, List.set_cons_succ]
  refine seq_take 7 (v := ?_) rfl (by kernel_rfl) (fun _ _ _ h => h) (Or.inl ⟨by rfl, fun w' hb => ?_⟩) ?_
  rotate_left
  · have kf := KF w' hb
    go_simp
    with_reducible rfl
  simp only [Act.put, List.setIfInBounds_toArray, List.set_cons_zero, List.set_cons_succ]
  refine seq_take 8 (v := ?_) rfl (by kernel_rfl) (fun _ _ _ h => h) (Or.inl ⟨by rfl, fun w' hb => ?_⟩) ?_
  rotate_left
  · have kf := KF w' hb
    go_simp
    with_reducible rfl
  simp only [Act.put, List.setIfInBounds_toArray, List.set_cons_zero, List.set_cons_succ]
  refine seq_take 9 (v := ?_) rfl (by kernel_rfl) (fun _ _ _ h => h) (Or.inl ⟨by rfl, fun w' hb => ?_⟩) ?_
  rotate_left
  · have kf := KF w' hb
    go_simp
    with_reducible rfl
  simp only [Act.put, List.setIfInBounds_toArray, List.set_cons_zero, List.set_cons_succ]
  refine seq_take 10 (v := ?_) rfl (by kernel_rfl) (fun _ _ _ h => h) (Or.inl ⟨by rfl, fun w' hb => ?_⟩) ?_
  rotate_left
  · have kf := KF w' hb
    go_simp
    with_reducible rfl
  simp only [Act.put, List.setIfInBounds_toArray, List.set_cons_zero, List.set_cons_succ]
  refine seq_take 11 (v := ?_) rfl (by kernel_rfl) (fun _ _ _ h => h) (Or.inl ⟨by rfl, fun w' hb => ?_⟩) ?_
  rotate_left
  · have kf := KF w' hb
    go_simp
    with_reducible rfl
  simp only [Act.put, List.setIfInBounds_toArray, List.set_cons_zero, List.set_cons_succ]
  refine seq_take 12 (v := ?_) rfl (by kernel_rfl) (fun _ _ _ h => h) (Or.inl ⟨by rfl, fun w' hb => ?_⟩) ?_
  rotate_left
  · have kf := KF w' hb
    go_simp
    with_reducible rfl
  simp only [Act.put, List.setIfInBounds_toArray, List.set_cons_zero, List.set_cons_succ]
  refine seq_take 13 (v := ?_) rfl (by kernel_rfl) (fun _ _ _ h => h) (Or.inl ⟨by rfl, fun w' hb => ?_⟩) ?_
  rotate_left
  · have kf := KF w' hb
    go_simp
    with_reducible rfl
  simp only [Act.put, List.setIfInBounds_toArray, List.set_cons_zero, List.set_cons_succ]
  refine seq_take 14 (v := ?_) rfl (by kernel_rfl) (fun _ _ _ h => h) (Or.inl ⟨by rfl, fun w' hb => ?_⟩) ?_
  rotate_left
  · have kf := KF w' hb
    go_simp
    with_reducible rfl
  simp only [Act.put, List.setIfInBounds_toArray, List.set_cons_zero, List.set_cons_succ]
  refine seq_take 15 (v := ?_) rfl (by kernel_rfl) (fun _ _ _ h => h) (Or.inl ⟨by rfl, fun w' hb => ?_⟩) ?_
  rotate_left
  · have kf := KF w' hb
    go_simp
    with_reducible rfl
  simp only [Act.put, List.setIfInBounds_toArray, List.set_cons_zero, List.set_cons_succ]
  refine seq_take 16 (v := ?_) rfl (by kernel_rfl) (fun _ _ _ h => h) (Or.inl ⟨by rfl, fun w' hb => ?_⟩) ?_
  rotate_left
  · have kf := KF w' hb
    go_simp
    with_reducible rfl
  simp only [Act.put, List.setIfInBounds_toArray, List.set_cons_zero, List.set_cons_succ]
  refine seq_take 17 (v := ?_) rfl (by kernel_rfl) (fun _ _ _ h => h) (Or.inl ⟨by rfl, fun w' hb => ?_⟩) ?_
  rotate_left
  · have kf := KF w' hb
    go_simp
    with_reducible rfl
  simp only [Act.put, List.setIfInBounds_toArray, List.set_cons_zero, List.set_cons_succ]
  refine seq_take 18 (v := ?_) rfl (by kernel_rfl) (fun _ _ _ h => h) (Or.inl ⟨by rfl, fun w' hb => ?_⟩) ?_
  rotate_left
  · have kf := KF w' hb
    go_simp
    with_reducible rfl
  simp only [Act.put, List.setIfInBounds_toArray, List.set_cons_zero, List.set_cons_succ]
  refine seq_take 19 (v := ?_) rfl (by kernel_rfl) (fun _ _ _ h => h) (Or.inl ⟨by rfl, fun w' hb => ?_⟩) ?_
  rotate_left
  · have kf := KF w' hb
    go_simp
    with_reducible rfl
  simp only [Act.put, List.setIfInBounds_toArray, List.set_cons_zero, List.set_cons_succ]
  refine seq_take 20 (v := ?_) rfl (by kernel_rfl) (fun _ _ _ h => h) (Or.inl ⟨by rfl, fun w' hb => ?_⟩) ?_
  rotate_left
  · have kf := KF w' hb
    go_simp
    with_reducible rfl
  simp only [Act.put, List.setIfInBounds_toArray, List.set_cons_zero, List.set_cons_succ]
  refine seq_take 21 (v := ?_) rfl (by kernel_rfl) (fun _ _ _ h => h) (Or.inl ⟨by rfl, fun w' hb => ?_⟩) ?_
  rotate_left
  · have kf := KF w' hb
    go_simp
    with_reducible rfl
  simp only [Act.put, List.setIfInBounds_toArray, List.set_cons_zero, List.set_cons_succ]
  refine seq_take 22 (v := ?_) rfl (by kernel_rfl) (fun _ _ _ h => h) (Or.inl ⟨by rfl, fun w' hb => ?_⟩) ?_
  rotate_left
  · have kf := KF w' hb
    go_simp
    with_reducible rfl
  simp only [Act.put, List.setIfInBounds_toArray, List.set_cons_zero, List.set_cons_succ]
  refine seq_take 23 (v := ?_) rfl (by kernel_rfl) (fun _ _ _ h => h) (Or.inl ⟨by rfl, fun w' hb => ?_⟩) ?_
  rotate_left
  · have kf := KF w' hb
    go_simp
    with_reducible rfl
  simp only [Act.put, List.setIfInBounds_toArray, List.set_cons_zero, List.set_cons_succ]
  refine seq_take 24 (v := ?_) rfl (by kernel_rfl) (fun _ _ _ h => h) (Or.inl ⟨by rfl, fun w' hb => ?_⟩) ?_
  rotate_left
  · have kf := KF w' hb
    go_simp
    with_reducible rfl
  simp only [Act.put, List.setIfInBounds_toArray, List.set_cons_zero, List.set_cons_succ]
  refine seq_end (by kernel_rfl) ?_
  obtain ⟨-, z0, z1, z2, z3, z4, z5, z6, z7, z8⟩ := KF w2 (Below.refl _ _)
  clear KF KF0
  have XF : ∀ w, Calls Try.prog 24 #[.int .u64 x] w fun e w' => e = .returned (.bool false) ∧ w = w' := fun w => by have := xidF x w; rwa [decide_eq_false (by omega)] at this
  go_wp2_with (go_at_call 24; refine (XF _).mono ?_; rintro e w' ⟨rfl, rfl⟩)
  go_ret
  exact ⟨by rw [hM]; first | rfl | (simp; done) | (simp; omega), belT hB0 hb2⟩
set_option maxRecDepth 100000 in
set_option maxHeartbeats 8000000 in
theorem May4b (x : Nat) (p o : Int) (ab sb : Option Addr) (cb cs : Nat) (l : List UInt8) (u : List Nat) (n r t : Nat) (w : World) (ha : RB w ⟨4, x, p, o, l, u, n, r, t⟩ ab sb cb cs) (he : ⟨4, x, p, o, l, u, n, r, t⟩ = bareR ⟨4, x, p, o, l, u, n, r, t⟩) (hp0 : 0 ≤ p) (hp1 : p < 128) (hx1 : x ≤ 4000) (hr1 : r ≤ 4611686018427387904) (q1 : 1 ≤ x) :
    Calls Try.prog 16 #[rv 4 x p o ab l.length cb sb u.length cs n r t] w fun e w' => e = .returned (.bool (mayB ⟨4, x, p, o, l, u, n, r, t⟩)) ∧ Below w.heap.size w w' := by
  have HEq := Lib.hid he
  have hK : kindB ⟨4, x, p, o, l, u, n, r, t⟩ = (risingL x 4001 u && decide (u.length ≤ 64)) := by simp [kindB]; omega
  have hM : mayB ⟨4, x, p, o, l, u, n, r, t⟩ = (risingL x 4001 u && decide (u.length ≤ 64)) := by unfold mayB; rw [decide_eq_true he, hK]; simp [hp0, hp1, hx1, hr1]
  clear he hK
  have hd0 : decide (p < 0) = false := by simp; omega
  have hd1 : decide (128 ≤ p) = false := by simp; omega
  have hd2 : decide (4000 < (x : Int)) = false := by simp; omega
  have hd3 : decide (4611686018427387904 < (r : Int)) = false := by simp; omega
  go_enter Try.func16, Try.ntmps16
  go_wp2_with fail
  obtain ⟨W, hW⟩ : ∃ W, W = w.alloc (.cells #[.int .i64 4, .int .u64 x, .int .i64 p, .int .i64 o, .slice ab l.length cb, .slice sb u.length cs, .int .u64 n, .int .u64 r, .int .u64 t] 27) := ⟨_, rfl⟩
  have hB0 : Below w.heap.size w W := by rw [hW]; exact below_alloc _ _
  have hG : W.heap[w.heap.size]? = some (.cells #[.int .i64 4, .int .u64 x, .int .i64 p, .int .i64 o, .slice ab l.length cb, .slice sb u.length cs, .int .u64 n, .int .u64 r, .int .u64 t] 27 (0, 0)) := by rw [hW]; exact heap_alloc_new _ _
  have hsz : w.heap.size < W.heap.size := by rw [hW]; simp
  rw [← hW]
  have KF0 : ∀ w', Below W.heap.size W w' → (loadVar 27 ⟨w.heap.size, 0, none⟩).run Try.prog w' = .ok (rv 4 x p o ab l.length cb sb u.length cs n r t) w' ∧ w'.cell? ⟨w.heap.size, 0, none⟩ = some (.int .i64 4) ∧ w'.cell? ⟨w.heap.size, 1, none⟩ = some (.int .u64 x) ∧ w'.cell? ⟨w.heap.size, 2, none⟩ = some (.int .i64 p) ∧ w'.cell? ⟨w.heap.size, 3, none⟩ = some (.int .i64 o) ∧ w'.cell? ⟨w.heap.size, 4, none⟩ = some (.slice ab l.length cb) ∧ w'.cell? ⟨w.heap.size, 5, none⟩ = some (.slice sb u.length cs) ∧ w'.cell? ⟨w.heap.size, 6, none⟩ = some (.int .u64 n) ∧ w'.cell? ⟨w.heap.size, 7, none⟩ = some (.int .u64 r) ∧ w'.cell? ⟨w.heap.size, 8, none⟩ = some (.int .u64 t) := fun w' h => loads9 4 x p o ab sb cb cs l u n r t _ w' ((h.block _ hsz).trans hG)
  clear hW hG
  have KF : ∀ w', Below W.drew.heap.size W.drew w' → (loadVar 27 ⟨w.heap.size, 0, none⟩).run Try.prog w' = .ok (rv 4 x p o ab l.length cb sb u.length cs n r t) w' ∧ w'.cell? ⟨w.heap.size, 0, none⟩ = some (.int .i64 4) ∧ w'.cell? ⟨w.heap.size, 1, none⟩ = some (.int .u64 x) ∧ w'.cell? ⟨w.heap.size, 2, none⟩ = some (.int .i64 p) ∧ w'.cell? ⟨w.heap.size, 3, none⟩ = some (.int .i64 o) ∧ w'.cell? ⟨w.heap.size, 4, none⟩ = some (.slice ab l.length cb) ∧ w'.cell? ⟨w.heap.size, 5, none⟩ = some (.slice sb u.length cs) ∧ w'.cell? ⟨w.heap.size, 6, none⟩ = some (.int .u64 n) ∧ w'.cell? ⟨w.heap.size, 7, none⟩ = some (.int .u64 r) ∧ w'.cell? ⟨w.heap.size, 8, none⟩ = some (.int .u64 t) := fun w' h => KF0 w' (belT (Below.refl _ _).drew h)
  refine seq_start 25 [false, false, false, false, false, false, false, false, false, false, false, false, false, false, false, false, false, false, false, false, false, false, false, false, false] (by kernel_rfl) rfl rfl ?_
  refine seq_take 0 (v := ?_) rfl (by kernel_rfl) (fun _ _ _ h => h) (Or.inl ⟨by rfl, fun w' hb => ?_⟩) ?_
  rotate_left
  · have kf := KF w' hb
    go_simp
    with_reducible rfl
  simp only [Act.put, List.setIfInBounds_toArray, List.set_cons_zero, List.set_cons_succ]
  refine seq_take 1 (v := ?_) rfl (by kernel_rfl) (fun _ _ _ h => h) (Or.inl ⟨by rfl, fun w' hb => ?_⟩) ?_
  rotate_left
  · have kf := KF w' hb
    go_simp
    with_reducible rfl
  simp only [Act.put, List.setIfInBounds_toArray, List.set_cons_zero, List.set_cons_succ]
  refine seq_do 2 rfl (by kernel_rfl) (fun K hK => ?_)
  go_simp
  refine (bareAny 4 x p o ab sb cb cs l u n r t _ (ha.below (belT hB0 (Below.refl _ _).drew))).mono ?_
  rintro e w1 ⟨⟨k2, x2, p2, o2, ab2, sb2, cb2, cs2, l2, u2, n2, r2, t2, hR, rfl, hR2⟩, hb1⟩
  refine hK.out _ _ hb1 ?_
  clear hK K
  simp only [List.set_cons_zero, List.set_cons_succ]
  have hb1 := belT (Below.refl _ _).drew hb1
  replace KF : ∀ w', Below w1.heap.size w1 w' → (loadVar 27 ⟨w.heap.size, 0, none⟩).run Try.prog w' = .ok (rv 4 x p o ab l.length cb sb u.length cs n r t) w' ∧ w'.cell? ⟨w.heap.size, 0, none⟩ = some (.int .i64 4) ∧ w'.cell? ⟨w.heap.size, 1, none⟩ = some (.int .u64 x) ∧ w'.cell? ⟨w.heap.size, 2, none⟩ = some (.int .i64 p) ∧ w'.cell? ⟨w.heap.size, 3, none⟩ = some (.int .i64 o) ∧ w'.cell? ⟨w.heap.size, 4, none⟩ = some (.slice ab l.length cb) ∧ w'.cell? ⟨w.heap.size, 5, none⟩ = some (.slice sb u.length cs) ∧ w'.cell? ⟨w.heap.size, 6, none⟩ = some (.int .u64 n) ∧ w'.cell? ⟨w.heap.size, 7, none⟩ = some (.int .u64 r) ∧ w'.cell? ⟨w.heap.size, 8, none⟩ = some (.int .u64 t) := fun w' h => KF0 w' (belT hb1 h)
  refine seq_do 3 rfl (by kernel_rfl) (fun K hK => ?_)
  go_simp
  refine (SameF 4 x p o ab sb cb cs l u n r t k2 x2 p2 o2 ab2 sb2 cb2 cs2 l2 u2 n2 r2 t2 _ (ha.below (belT hB0 hb1)) hR2).mono ?_
  rw [← hR, decide_eq_true HEq.out]
  rintro e w2 ⟨rfl, hb2⟩
  refine hK.out _ _ hb2 ?_
  clear hK K
  simp only [List.set_cons_zero, List.set_cons_succ]
  have hb2 := belT hb1 hb2
  replace KF : ∀ w', Below w2.heap.size w2 w' → (loadVar 27 ⟨w.heap.size, 0, none⟩).run Try.prog w' = .ok (rv 4 x p o ab l.length cb sb u.length cs n r t) w' ∧ w'.cell? ⟨w.heap.size, 0, none⟩ = some (.int .i64 4) ∧ w'.cell? ⟨w.heap.size, 1, none⟩ = some (.int .u64 x) ∧ w'.cell? ⟨w.heap.size, 2, none⟩ = some (.int .i64 p) ∧ w'.cell? ⟨w.heap.size, 3, none⟩ = some (.int .i64 o) ∧ w'.cell? ⟨w.heap.size, 4, none⟩ = some (.slice ab l.length cb) ∧ w'.cell? ⟨w.heap.size, 5, none⟩ = some (.slice sb u.length cs) ∧ w'.cell? ⟨w.heap.size, 6, none⟩ = some (.int .u64 n) ∧ w'.cell? ⟨w.heap.size, 7, none⟩ = some (.int .u64 r) ∧ w'.cell? ⟨w.heap.size, 8, none⟩ = some (.int .u64 t) := fun w' h => KF0 w' (belT hb2 h)
  refine seq_take 4 (v := ?_) rfl (by kernel_rfl) (fun _ _ _ h => h) (Or.inl ⟨by rfl, fun w' hb => ?_⟩) ?_
  rotate_left
  · have kf := KF w' hb
    go_simp
    with_reducible rfl
  simp only [Act.put, List.setIfInBounds_toArray, List.set_cons_zero, List.set_cons_succ]
  refine seq_take 5 (v := ?_) rfl (by kernel_rfl) (fun _ _ _ h => h) (Or.inl ⟨by rfl, fun w' hb => ?_⟩) ?_
  rotate_left
  · have kf := KF w' hb
    go_simp
    with_reducible rfl
  simp only [Act.put, List.setIfInBounds_toArray, List.set_cons_zero, List.set_cons_succ]
  refine seq_take 6 (v := ?_) rfl (by kernel_rfl) (fun _ _ _ h => h) (Or.inl ⟨by rfl, fun w' hb => ?_⟩) ?_
  rotate_left
  · have kf := KF w' hb
    go_simp
    with_reducible rfl
  simp only [Act.put, List.setIfInBounds_toArray, List.set_cons_zero, List.set_cons_succ]
  refine seq_take 7 (v := ?_) rfl (by kernel_rfl) (fun _ _ _ h => h) (Or.inl ⟨by rfl, fun w' hb => ?_⟩) ?_
  rotate_left
  · have kf := KF w' hb
    go_simp
    with_reducible rfl
  simp only [Act.put, List.setIfInBounds_toArray, List.set_cons_zero, List.set_cons_succ]
  refine seq_take 8 (v := ?_) rfl (by kernel_rfl) (fun _ _ _ h => h) (Or.inl ⟨by rfl, fun w' hb => ?_⟩) ?_
  rotate_left
  · have kf := KF w' hb
    go_simp
    with_reducible rfl
  simp only [Act.put, List.setIfInBounds_toArray, List.set_cons_zero, List.set_cons_succ]
  refine seq_take 9 (v := ?_) rfl (by kernel_rfl) (fun _ _ _ h => h) (Or.inl ⟨by rfl, fun w' hb => ?_⟩) ?_
  rotate_left
  · have kf := KF w' hb
    go_simp
    with_reducible rfl
  simp only [Act.put, List.setIfInBounds_toArray, List.set_cons_zero, List.set_cons_succ]
  refine seq_take 10 (v := ?_) rfl (by kernel_rfl) (fun _ _ _ h => h) (Or.inl ⟨by rfl, fun w' hb => ?_⟩) ?_
  rotate_left
  · have kf := KF w' hb
    go_simp
    with_reducible rfl
  simp only [Act.put, List.setIfInBounds_toArray, List.set_cons_zero, List.set_cons_succ]
  refine seq_take 11 (v := ?_) rfl (by kernel_rfl) (fun _ _ _ h => h) (Or.inl ⟨by rfl, fun w' hb => ?_⟩) ?_
  rotate_left
  · have kf := KF w' hb
    go_simp
    with_reducible rfl
  simp only [Act.put, List.setIfInBounds_toArray, List.set_cons_zero, List.set_cons_succ]
  refine seq_take 12 (v := ?_) rfl (by kernel_rfl) (fun _ _ _ h => h) (Or.inl ⟨by rfl, fun w' hb => ?_⟩) ?_
  rotate_left
  · have kf := KF w' hb
    go_simp
    with_reducible rfl
  simp only [Act.put, List.setIfInBounds_toArray, List.set_cons_zero, List.set_cons_succ]
  refine seq_take 13 (v := ?_) rfl (by kernel_rfl) (fun _ _ _ h => h) (Or.inl ⟨by rfl, fun w' hb => ?_⟩) ?_
  rotate_left
  · have kf := KF w' hb
    go_simp
    with_reducible rfl
  simp only [Act.put, List.setIfInBounds_toArray, List.set_cons_zero, List.set_cons_succ]
  refine seq_take 14 (v := ?_) rfl (by kernel_rfl) (fun _ _ _ h => h) (Or.inl ⟨by rfl, fun w' hb => ?_⟩) ?_
  rotate_left
  · have kf := KF w' hb
    go_simp
    with_reducible rfl
  simp only [Act.put, List.setIfInBounds_toArray, List.set_cons_zero, List.set_cons_succ]
  refine seq_take 15 (v := ?_) rfl (by kernel_rfl) (fun _ _ _ h => h) (Or.inl ⟨by rfl, fun w' hb => ?_⟩) ?_
  rotate_left
  · have kf := KF w' hb
    go_simp
    with_reducible rfl
  simp only [Act.put, List.setIfInBounds_toArray, List.set_cons_zero, List.set_cons_succ]
  refine seq_take 16 (v := ?_) rfl (by kernel_rfl) (fun _ _ _ h => h) (Or.inl ⟨by rfl, fun w' hb => ?_⟩) ?_
  rotate_left
  · have kf := KF w' hb
    go_simp
    with_reducible rfl
  simp only [Act.put, List.setIfInBounds_toArray, List.set_cons_zero, List.set_cons_succ]
  refine seq_take 17 (v := ?_) rfl (by kernel_rfl) (fun _ _ _ h => h) (Or.inl ⟨by rfl, fun w' hb => ?_⟩) ?_
  rotate_left
  · have kf := KF w' hb
    go_simp
    with_reducible rfl
  simp only [Act.put, List.setIfInBounds_toArray, List.set_cons_zero, List.set_cons_succ]
  refine seq_take 18 (v := ?_) rfl (by kernel_rfl) (fun _ _ _ h => h) (Or.inl ⟨by rfl, fun w' hb => ?_⟩) ?_
  rotate_left
  · have kf := KF w' hb
    go_simp
    with_reducible rfl
  simp only [Act.put, List.setIfInBounds_toArray, List.set_cons_zero, List.set_cons_succ]
  refine seq_take 19 (v := ?_) rfl (by kernel_rfl) (fun _ _ _ h => h) (Or.inl ⟨by rfl, fun w' hb => ?_⟩) ?_
  rotate_left
  · have kf := KF w' hb
    go_simp
    with_reducible rfl
  simp only [Act.put, List.setIfInBounds_toArray, List.set_cons_zero, List.set_cons_succ]
  refine seq_take 20 (v := ?_) rfl (by kernel_rfl) (fun _ _ _ h => h) (Or.inl ⟨by rfl, fun w' hb => ?_⟩) ?_
  rotate_left
  · have kf := KF w' hb
    go_simp
    with_reducible rfl
  simp only [Act.put, List.setIfInBounds_toArray, List.set_cons_zero, List.set_cons_succ]
  refine seq_take 21 (v := ?_) rfl (by kernel_rfl) (fun _ _ _ h => h) (Or.inl ⟨by rfl, fun w' hb => ?_⟩) ?_
  rotate_left
  · have kf := KF w' hb
    go_simp
    with_reducible rfl
  simp only [Act.put, List.setIfInBounds_toArray, List.set_cons_zero, List.set_cons_succ]
  refine seq_take 22 (v := ?_) rfl (by kernel_rfl) (fun _ _ _ h => h) (Or.inl ⟨by rfl, fun w' hb => ?_⟩) ?_
  rotate_left
  · have kf := KF w' hb
    go_simp
    with_reducible rfl
  simp only [Act.put, List.setIfInBounds_toArray, List.set_cons_zero, List.set_cons_succ]
  refine seq_take 23 (v := ?_) rfl (by kernel_rfl) (fun _ _ _ h => h) (Or.inl ⟨by rfl, fun w' hb => ?_⟩) ?_
  rotate_left
  · have kf := KF w' hb
    go_simp
    with_reducible rfl
  simp only [Act.put, List.setIfInBounds_toArray, List.set_cons_zero, List.set_cons_succ]
  refine seq_take 24 (v := ?_) rfl (by kernel_rfl) (fun _ _ _ h => h) (Or.inl ⟨by rfl, fun w' hb => ?_⟩) ?_
  rotate_left
  · have kf := KF w' hb
    go_simp
    with_reducible rfl
  simp only [Act.put, List.setIfInBounds_toArray, List.set_cons_zero, List.set_cons_succ]
  refine seq_end (by kernel_rfl) ?_
  obtain ⟨-, z0, z1, z2, z3, z4, z5, z6, z7, z8⟩ := KF w2 (Below.refl _ _)
  clear KF KF0
  have XF : ∀ w, Calls Try.prog 24 #[.int .u64 x] w fun e w' => e = .returned (.bool true) ∧ w = w' := fun w => by have := xidF x w; rwa [decide_eq_true (by omega)] at this
  go_wp2_with (first | (go_at_call 24; refine (XF _).mono ?_; rintro e w' ⟨rfl, rfl⟩) | (go_at_call 25; refine (risingF sb cs u x 4001 64 _ (ha.s.below (belT hB0 hb2)) ha.ls).mono ?_; rintro e w3 ⟨rfl, hb3⟩))
  go_ret
  exact ⟨by rw [hM]; first | rfl | (simp; done) | (simp; omega), belT (belT hB0 hb2) hb3⟩
end Go.Proofs.Ytokijkinlcdjeaa

/- Bytes, Size, num, Name. -/
import Derived.Test.YtokijkinlcdjeaaRecG
namespace Go.Proofs.Ytokijkinlcdjeaa
open Go.RowKit WireM

theorem numF (e : Int) (w : World) : Calls Try.prog 10 #[.int .i64 e] w fun e' w' => e' = .returned (.int .i64 e) ∧ w = w' := by
  go_enter Try.func10, Try.ntmps10
  go_wp2
  go_ret
  exact ⟨rfl, rfl⟩
set_option maxHeartbeats 1600000 in
theorem SizeNo (k : Int) (x : Nat) (p o : Int) (ab sb : Option Addr) (cb cs : Nat) (l : List UInt8) (u : List Nat) (n r t : Nat) (w : World) (ha : RB w ⟨k, x, p, o, l, u, n, r, t⟩ ab sb cb cs) (hmay : mayB ⟨k, x, p, o, l, u, n, r, t⟩ = false) :
    Calls Try.prog 12 #[rv k x p o ab l.length cb sb u.length cs n r t] w fun e w' => e = .returned (.int .i64 0) ∧ Below w.heap.size w w' := by
  go_enter Try.func12, Try.ntmps12
  go_wp2_with (go_at_call 16; refine (MayF k x p o ab sb cb cs l u n r t _ (ha.below (below_alloc w _))).mono ?_; rw [hmay]; rintro e w1 ⟨rfl, hb1⟩; have hbx : w1.heap[w.heap.size]? = some (.cells #[.int .i64 k, .int .u64 x, .int .i64 p, .int .i64 o, .slice ab l.length cb, .slice sb u.length cs, .int .u64 n, .int .u64 r, .int .u64 t] 27 (0, 0)) := (hb1.block _ (by simp)).trans (heap_alloc_new _ _); have hb1' := belT (below_alloc w _) hb1; have z1 := loads9 k x p o ab sb cb cs l u n r t w.heap.size w1 hbx)
  go_ret
  exact ⟨rfl, hb1'⟩
set_option maxHeartbeats 1600000 in
theorem SizeYes (k : Int) (x : Nat) (p o : Int) (ab sb : Option Addr) (cb cs : Nat) (l : List UInt8) (u : List Nat) (n r t : Nat) (w : World) (ha : RB w ⟨k, x, p, o, l, u, n, r, t⟩ ab sb cb cs) (hmay : mayB ⟨k, x, p, o, l, u, n, r, t⟩ = true) :
    Calls Try.prog 12 #[rv k x p o ab l.length cb sb u.length cs n r t] w fun e w' => e = .returned (.int .i64 ((encR ⟨k, x, p, o, l, u, n, r, t⟩ 0).length : Int)) ∧ Below w.heap.size w w' := by
  go_enter Try.func12, Try.ntmps12
  go_wp2_with (first | (go_at_call 16; refine (MayF k x p o ab sb cb cs l u n r t _ (ha.below (below_alloc w _))).mono ?_; rw [hmay]; rintro e w1 ⟨rfl, hb1⟩; have hbx : w1.heap[w.heap.size]? = some (.cells #[.int .i64 k, .int .u64 x, .int .i64 p, .int .i64 o, .slice ab l.length cb, .slice sb u.length cs, .int .u64 n, .int .u64 r, .int .u64 t] 27 (0, 0)) := (hb1.block _ (by simp)).trans (heap_alloc_new _ _); have hb1' := belT (below_alloc w _) hb1; have z1 := loads9 k x p o ab sb cb cs l u n r t w.heap.size w1 hbx) | (go_at_call 17; refine (bytesF k x p o ab sb cb cs l u n r t 0 (by omega) _ hmay (ha.below hb1')).mono ?_; rintro e w2 ⟨v, rfl, ho, hb2⟩; obtain ⟨a2, c2, rfl⟩ := ho.sl))
  go_ret
  exact ⟨rfl, belT hb1' hb2⟩
set_option maxHeartbeats 1600000 in
theorem BytesNo1 (k : Int) (x : Nat) (p o : Int) (ab sb : Option Addr) (cb cs : Nat) (l : List UInt8) (u : List Nat) (n r t : Nat) (at_ : Nat) (w : World) (ha : RB w ⟨k, x, p, o, l, u, n, r, t⟩ ab sb cb cs) (hmay : mayB ⟨k, x, p, o, l, u, n, r, t⟩ = false) :
    Calls Try.prog 9 #[rv k x p o ab l.length cb sb u.length cs n r t, .int .u64 at_] w fun e w' => e = .returned (.tuple #[.slice none 0 0, .int .i64 2]) ∧ Below w.heap.size w w' := by
  go_enter Try.func9, Try.ntmps9
  go_wp2_with (go_at_call 16; refine (MayF k x p o ab sb cb cs l u n r t _ (ha.below (below_alloc w _))).mono ?_; rw [hmay]; rintro e w1 ⟨rfl, hb1⟩; have hbx : w1.heap[w.heap.size]? = some (.cells #[.int .i64 k, .int .u64 x, .int .i64 p, .int .i64 o, .slice ab l.length cb, .slice sb u.length cs, .int .u64 n, .int .u64 r, .int .u64 t] 27 (0, 0)) := (hb1.block _ (by simp)).trans (heap_alloc_new _ _); have hb1' := belT (below_alloc w _) hb1; have z1 := loads9 k x p o ab sb cb cs l u n r t w.heap.size w1 hbx)
  go_ret2
  exact ⟨rfl, hb1'⟩
set_option maxHeartbeats 1600000 in
theorem BytesNo2 (k : Int) (x : Nat) (p o : Int) (ab sb : Option Addr) (cb cs : Nat) (l : List UInt8) (u : List Nat) (n r t : Nat) (at_ : Nat) (hat : 4611686018427387904 < at_) (w : World) (ha : RB w ⟨k, x, p, o, l, u, n, r, t⟩ ab sb cb cs) (hmay : mayB ⟨k, x, p, o, l, u, n, r, t⟩ = true) :
    Calls Try.prog 9 #[rv k x p o ab l.length cb sb u.length cs n r t, .int .u64 at_] w fun e w' => e = .returned (.tuple #[.slice none 0 0, .int .i64 2]) ∧ Below w.heap.size w w' := by
  have hd : decide ((4611686018427387904 : Int) < (at_ : Int)) = true := by simp; omega
  go_enter Try.func9, Try.ntmps9
  go_wp2_with (go_at_call 16; refine (MayF k x p o ab sb cb cs l u n r t _ (ha.below (below_alloc w _))).mono ?_; rw [hmay]; rintro e w1 ⟨rfl, hb1⟩; have hbx : w1.heap[w.heap.size]? = some (.cells #[.int .i64 k, .int .u64 x, .int .i64 p, .int .i64 o, .slice ab l.length cb, .slice sb u.length cs, .int .u64 n, .int .u64 r, .int .u64 t] 27 (0, 0)) := (hb1.block _ (by simp)).trans (heap_alloc_new _ _); have hb1' := belT (below_alloc w _) hb1; have z1 := loads9 k x p o ab sb cb cs l u n r t w.heap.size w1 hbx)
  go_ret2
  exact ⟨rfl, hb1'⟩
set_option maxHeartbeats 1600000 in
theorem BytesYes (k : Int) (x : Nat) (p o : Int) (ab sb : Option Addr) (cb cs : Nat) (l : List UInt8) (u : List Nat) (n r t : Nat) (at_ : Nat) (hat : at_ ≤ 4611686018427387904) (w : World) (ha : RB w ⟨k, x, p, o, l, u, n, r, t⟩ ab sb cb cs) (hmay : mayB ⟨k, x, p, o, l, u, n, r, t⟩ = true) :
    Calls Try.prog 9 #[rv k x p o ab l.length cb sb u.length cs n r t, .int .u64 at_] w fun e w' => ∃ v, e = .returned (.tuple #[v, .int .i64 0]) ∧ OwnB w' w.heap.size v (encR ⟨k, x, p, o, l, u, n, r, t⟩ at_) ∧ Below w.heap.size w w' := by
  have hd : decide ((4611686018427387904 : Int) < (at_ : Int)) = false := by simp; omega
  go_enter Try.func9, Try.ntmps9
  go_wp2_with (first | (go_at_call 16; refine (MayF k x p o ab sb cb cs l u n r t _ (ha.below (below_alloc w _))).mono ?_; rw [hmay]; rintro e w1 ⟨rfl, hb1⟩; have hbx : w1.heap[w.heap.size]? = some (.cells #[.int .i64 k, .int .u64 x, .int .i64 p, .int .i64 o, .slice ab l.length cb, .slice sb u.length cs, .int .u64 n, .int .u64 r, .int .u64 t] 27 (0, 0)) := (hb1.block _ (by simp)).trans (heap_alloc_new _ _); have hb1' := belT (below_alloc w _) hb1; have z1 := loads9 k x p o ab sb cb cs l u n r t w.heap.size w1 hbx) | (go_at_call 17; refine (bytesF k x p o ab sb cb cs l u n r t at_ (by omega) _ hmay (ha.below hb1')).mono ?_; rintro e w2 ⟨v, rfl, ho, hb2⟩))
  go_ret2
  exact ⟨v, rfl, ho.mono hb1'.size, belT hb1' hb2⟩
theorem Name7 (w : World) : Calls Try.prog 13 #[.int .i64 7] w fun e w' => e = .returned (.string ⟨#[99, 104, 101, 99, 107]⟩) ∧ Below w.heap.size w w' := by
  go_enter Try.func13, Try.ntmps13
  go_wp2_with fail
  go_ret
  exact ⟨rfl, below_alloc _ _⟩
theorem Name0 (w : World) : Calls Try.prog 13 #[.int .i64 0] w fun e w' => e = .returned (.string ⟨#[]⟩) ∧ Below w.heap.size w w' := by
  go_enter Try.func13, Try.ntmps13
  go_wp2_with fail
  go_ret
  exact ⟨rfl, below_alloc _ _⟩
end Go.Proofs.Ytokijkinlcdjeaa

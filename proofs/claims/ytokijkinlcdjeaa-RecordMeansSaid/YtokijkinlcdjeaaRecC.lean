/- bare: a record with what its kind names alone. -/
import Derived.Test.YtokijkinlcdjeaaRecB
import Derived.BigRegion
import Derived.Deep.RegionWith
namespace Go.Proofs.Ytokijkinlcdjeaa
open Go.RowKit WireM
theorem mid3 (w : World) (a b c : Obj) : (((w.alloc a).alloc b).alloc c).heap[w.heap.size + 1]? = some b := by
  rw [heap_alloc_old _ _ (by simp)]; exact heap_alloc2_new _ _ _
theorem below4 (w : World) (a b c : Obj) : Below w.heap.size w (((w.alloc a).alloc b).alloc c) := (below2 w a b).alloc (by simp; omega) _
theorem info27 : (Try.prog.info? 27).map (·.size) = some 9 := by kernel_rfl

set_option maxHeartbeats 8000000 in
theorem bareF0 (k : Int) (hk : ¬ (1 ≤ k ∧ k ≤ 8)) (x : Nat) (p o : Int) (ab sb : Option Addr) (cb cs : Nat) (l : List UInt8) (u : List Nat) (n r t : Nat) (w : World) :
    Calls Try.prog 23 #[rv k x p o ab l.length cb sb u.length cs n r t] w fun e w' => e = .returned (rv k 0 0 0 none 0 0 none 0 0 0 0 0) ∧ Below w.heap.size w w' := by
  have k1 : (k == 1) = false := by simp; omega
  have k2 : (k == 2) = false := by simp; omega
  have k3 : (k == 3) = false := by simp; omega
  have k4 : (k == 4) = false := by simp; omega
  have k5 : (k == 5) = false := by simp; omega
  have k6 : (k == 6) = false := by simp; omega
  have k7 : (k == 7) = false := by simp; omega
  have k8 : (k == 8) = false := by simp; omega
  go_enter Try.func23, Try.ntmps23
  go_wp2_with fail

  
  refine bodyPost_ret (results_cell_row rfl _ _ (w.heap.size + 1) 27 _ (0, 0) _ rfl (mid3 _ _ _ _) Try.underlying27 rfl (by rw [info27]; rfl)) rfl ⟨rfl, by first | exact below4 _ _ _ _ | exact (below4 _ _ _ _).drew⟩
set_option maxHeartbeats 8000000 in
theorem bareF1 (k : Int) (hk : k = 1) (x : Nat) (p o : Int) (ab sb : Option Addr) (cb cs : Nat) (l : List UInt8) (u : List Nat) (n r t : Nat) (w : World) :
    Calls Try.prog 23 #[rv k x p o ab l.length cb sb u.length cs n r t] w fun e w' => e = .returned (rv k x p o ab l.length cb none 0 0 0 0 0) ∧ Below w.heap.size w w' := by
  subst hk
  go_enter Try.func23, Try.ntmps23
  go_wp2_with fail
  go_region
  go_wp2_with fail
  refine bodyPost_ret (results_cell_row rfl _ _ (w.heap.size + 1) 27 _ (0, 0) _ rfl (mid3 _ _ _ _) Try.underlying27 rfl (by rw [info27]; rfl)) rfl ⟨rfl, by first | exact below4 _ _ _ _ | exact (below4 _ _ _ _).drew⟩
set_option maxHeartbeats 8000000 in
theorem bareF2 (k : Int) (hk : k = 2) (x : Nat) (p o : Int) (ab sb : Option Addr) (cb cs : Nat) (l : List UInt8) (u : List Nat) (n r t : Nat) (w : World) :
    Calls Try.prog 23 #[rv k x p o ab l.length cb sb u.length cs n r t] w fun e w' => e = .returned (rv k x p 0 ab l.length cb none 0 0 0 0 0) ∧ Below w.heap.size w w' := by
  subst hk
  go_enter Try.func23, Try.ntmps23
  go_wp2_with fail
  go_region
  go_wp2_with fail
  refine bodyPost_ret (results_cell_row rfl _ _ (w.heap.size + 1) 27 _ (0, 0) _ rfl (mid3 _ _ _ _) Try.underlying27 rfl (by rw [info27]; rfl)) rfl ⟨rfl, by first | exact below4 _ _ _ _ | exact (below4 _ _ _ _).drew⟩
set_option maxHeartbeats 8000000 in
theorem bareF3 (k : Int) (hk : k = 3) (x : Nat) (p o : Int) (ab sb : Option Addr) (cb cs : Nat) (l : List UInt8) (u : List Nat) (n r t : Nat) (w : World) :
    Calls Try.prog 23 #[rv k x p o ab l.length cb sb u.length cs n r t] w fun e w' => e = .returned (rv k x 0 0 none 0 0 sb u.length cs 0 0 0) ∧ Below w.heap.size w w' := by
  subst hk
  go_enter Try.func23, Try.ntmps23
  go_wp2_with fail
  go_region
  go_wp2_with fail
  refine bodyPost_ret (results_cell_row rfl _ _ (w.heap.size + 1) 27 _ (0, 0) _ rfl (mid3 _ _ _ _) Try.underlying27 rfl (by rw [info27]; rfl)) rfl ⟨rfl, by first | exact below4 _ _ _ _ | exact (below4 _ _ _ _).drew⟩
set_option maxHeartbeats 8000000 in
theorem bareF4 (k : Int) (hk : k = 4) (x : Nat) (p o : Int) (ab sb : Option Addr) (cb cs : Nat) (l : List UInt8) (u : List Nat) (n r t : Nat) (w : World) :
    Calls Try.prog 23 #[rv k x p o ab l.length cb sb u.length cs n r t] w fun e w' => e = .returned (rv k x 0 0 none 0 0 sb u.length cs 0 0 0) ∧ Below w.heap.size w w' := by
  subst hk
  go_enter Try.func23, Try.ntmps23
  go_wp2_with fail
  go_region
  go_wp2_with fail
  refine bodyPost_ret (results_cell_row rfl _ _ (w.heap.size + 1) 27 _ (0, 0) _ rfl (mid3 _ _ _ _) Try.underlying27 rfl (by rw [info27]; rfl)) rfl ⟨rfl, by first | exact below4 _ _ _ _ | exact (below4 _ _ _ _).drew⟩
set_option maxHeartbeats 8000000 in
theorem bareF5 (k : Int) (hk : k = 5) (x : Nat) (p o : Int) (ab sb : Option Addr) (cb cs : Nat) (l : List UInt8) (u : List Nat) (n r t : Nat) (w : World) :
    Calls Try.prog 23 #[rv k x p o ab l.length cb sb u.length cs n r t] w fun e w' => e = .returned (rv k x 0 0 none 0 0 none 0 0 0 0 0) ∧ Below w.heap.size w w' := by
  subst hk
  go_enter Try.func23, Try.ntmps23
  go_wp2_with fail

  
  refine bodyPost_ret (results_cell_row rfl _ _ (w.heap.size + 1) 27 _ (0, 0) _ rfl (mid3 _ _ _ _) Try.underlying27 rfl (by rw [info27]; rfl)) rfl ⟨rfl, by first | exact below4 _ _ _ _ | exact (below4 _ _ _ _).drew⟩
set_option maxHeartbeats 8000000 in
theorem bareF6 (k : Int) (hk : k = 6) (x : Nat) (p o : Int) (ab sb : Option Addr) (cb cs : Nat) (l : List UInt8) (u : List Nat) (n r t : Nat) (w : World) :
    Calls Try.prog 23 #[rv k x p o ab l.length cb sb u.length cs n r t] w fun e w' => e = .returned (rv k 0 0 0 none 0 0 sb u.length cs n 0 0) ∧ Below w.heap.size w w' := by
  subst hk
  go_enter Try.func23, Try.ntmps23
  go_wp2_with fail
  go_region
  go_wp2_with fail
  refine bodyPost_ret (results_cell_row rfl _ _ (w.heap.size + 1) 27 _ (0, 0) _ rfl (mid3 _ _ _ _) Try.underlying27 rfl (by rw [info27]; rfl)) rfl ⟨rfl, by first | exact below4 _ _ _ _ | exact (below4 _ _ _ _).drew⟩
set_option maxHeartbeats 8000000 in
theorem bareF7 (k : Int) (hk : k = 7) (x : Nat) (p o : Int) (ab sb : Option Addr) (cb cs : Nat) (l : List UInt8) (u : List Nat) (n r t : Nat) (w : World) :
    Calls Try.prog 23 #[rv k x p o ab l.length cb sb u.length cs n r t] w fun e w' => e = .returned (rv k 0 0 0 none 0 0 none 0 0 n r 0) ∧ Below w.heap.size w w' := by
  subst hk
  go_enter Try.func23, Try.ntmps23
  go_wp2_with fail
  go_region
  go_wp2_with fail
  refine bodyPost_ret (results_cell_row rfl _ _ (w.heap.size + 1) 27 _ (0, 0) _ rfl (mid3 _ _ _ _) Try.underlying27 rfl (by rw [info27]; rfl)) rfl ⟨rfl, by first | exact below4 _ _ _ _ | exact (below4 _ _ _ _).drew⟩
set_option maxHeartbeats 8000000 in
theorem bareF8 (k : Int) (hk : k = 8) (x : Nat) (p o : Int) (ab sb : Option Addr) (cb cs : Nat) (l : List UInt8) (u : List Nat) (n r t : Nat) (w : World) :
    Calls Try.prog 23 #[rv k x p o ab l.length cb sb u.length cs n r t] w fun e w' => e = .returned (rv k 0 0 0 none 0 0 none 0 0 0 r t) ∧ Below w.heap.size w w' := by
  subst hk
  go_enter Try.func23, Try.ntmps23
  go_wp2_with fail
  go_region
  go_wp2_with fail
  refine bodyPost_ret (results_cell_row rfl _ _ (w.heap.size + 1) 27 _ (0, 0) _ rfl (mid3 _ _ _ _) Try.underlying27 rfl (by rw [info27]; rfl)) rfl ⟨rfl, by first | exact below4 _ _ _ _ | exact (below4 _ _ _ _).drew⟩
end Go.Proofs.Ytokijkinlcdjeaa

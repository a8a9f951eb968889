/- Contract of known of understudylaw02: it returns true, and nothing that was there has turned. No condition. -/
import Derived.Test.YtfheeanpmcgajaaWalkE
import Derived.Test.YtfheeanpmcgajaaPhi
import Derived.Lib.SlBytesConst
namespace Go.Proofs.Ytfheeanpmcgajaa
open Go.RowKit CrcM

/-- one behind the other -/
theorem belT {w a b : World} (h : Below w.heap.size w a) (k : Below a.heap.size a b) : Below w.heap.size w b := h.trans (k.mono h.size)
/-- bytes in a new block -/
theorem Bs_of_heap {w : World} {b : Nat} {t : TypeId} {fr : Nat × Nat} {l : List UInt8} {c : Array Value} (h : w.heap[b]? = some (.cells c t fr)) (hc : ∀ i (h : i < l.length), c[i]? = some (.int .u8 (l[i].toNat : Int))) :
    Bs w (some ⟨b, 0, none⟩) l :=
  ⟨fun _ => ⟨_, _, rfl⟩, fun b' o' e i hi => by
    obtain ⟨rfl, rfl, _⟩ := e
    rw [Nat.zero_add, cell_of_row _ _ _ _ _ _ h]; exact hc i hi⟩
/-- the cells of bytes -/
def u8s (l : List UInt8) : Array Value := (l.map fun c => Value.int .u8 (c.toNat : Int)).toArray
theorem u8s_get (l : List UInt8) (i : Nat) (h : i < l.length) : (u8s l)[i]? = some (.int .u8 (l[i].toNat : Int)) := by
  simp [u8s, h]
theorem Bs_alloc (w : World) (l : List UInt8) (c : Array Value) (t : TypeId) (fr : Nat × Nat) (n : Nat) (hc : c = u8s l) (hn : n = w.heap.size) : Bs (w.alloc (.cells c t fr)) (some ⟨n, 0, none⟩) l := by
  subst hc; subst hn
  exact Bs_of_heap (heap_alloc_new _ _) (u8s_get l)
theorem BBs_two {w : World} {a b : Option Addr} {ca cb n : Nat} {l m : List UInt8} (hn : n = w.heap.size) (h : Bs w a l) (h' : Bs w b m) (hl : l.length ≤ 9223372036854775807) (hm : m.length ≤ 9223372036854775807) :
    BBs (w.alloc (.cells #[.slice a l.length ca, .slice b m.length cb] 22)) (some ⟨n, 0, none⟩) [l, m] := by
  subst hn
  exact ⟨fun _ => ⟨_, _, rfl⟩, fun b' o e i hi => by
    obtain ⟨rfl, rfl, _⟩ := e
    have : i = 0 ∨ i = 1 := by simp at hi; omega
    rcases this with rfl | rfl
    · exact ⟨a, ca, by rw [cell_of_row _ _ _ _ _ _ (heap_alloc_new _ _)]; rfl, h.below (below_alloc _ _), hl⟩
    · exact ⟨b, cb, by rw [cell_of_row _ _ _ _ _ _ (heap_alloc_new _ _)]; rfl, h'.below (below_alloc _ _), hm⟩⟩
theorem BBs_one' {w : World} {a : Option Addr} {cap n : Nat} {l : List UInt8} (hn : n = w.heap.size) (h : Bs w a l) (hlen : l.length ≤ 9223372036854775807) :
    BBs (w.alloc (.cells #[.slice a l.length cap] 22)) (some ⟨n, 0, none⟩) [l] := by
  subst hn; exact BBs_one h hlen
theorem Sum_two (x : Option Addr) (cap : Nat) (l m : List UInt8) (w : World) (h : BBs w x [l, m]) :
    Calls Try.prog 9 #[.slice x 2 cap] w fun e w' => e = .returned (.int .u32 (c32 (sum (l ++ m)))) ∧ Below w.heap.size w w' := by
  have := Sum_any x cap [l, m] w h (by simp)
  simpa using this
theorem Sum_none (w : World) :
    Calls Try.prog 9 #[.slice none 0 0] w fun e w' => e = .returned (.int .u32 (c32 (sum []))) ∧ Below w.heap.size w w' :=
  Sum_any none 0 [] w ⟨fun h => absurd rfl h, fun b o e => by cases e⟩ (by simp)
theorem conv22 (w : World) (C : Array Value) (n c k : Nat) (hk : k = w.heap.size) : (convert 22 22 (.slice (some ⟨k, 0, none⟩) n c)).run Try.prog (w.alloc (.cells C 5)) = .ok (.slice (some ⟨k, 0, none⟩) n c) (w.alloc (.cells C 5 (C.size, C.size + 1))) := by
  subst hk
  exact Lib.run_convert_bytes_const (P := Try.prog) w 22 5 C n c Try.underlying22 Try.underlying5
theorem k1 : (c32 (sum []) == 0) = true := by decide +kernel
theorem k2 : (c32 (sum ([49, 50, 51, 52] ++ [53, 54, 55, 56, 57])) == 3808858755) = true := by decide +kernel
theorem k3 : (c32 (more (sum [49, 50, 51, 52, 53]) [54, 55, 56, 57]) == 3808858755) = true := by decide +kernel
theorem k4 : (c32 (farI 4 (0#32 ^^^ ones) ^^^ ones) == 1214729159) = true := by decide +kernel
theorem k5 : (c32 (farI (-3) (7#32 ^^^ ones) ^^^ ones) == 7) = true := by decide +kernel
theorem k6 : (c32 (farI 0 9#32 ^^^ 0#32) == 9) = true := by decide +kernel
theorem k7 : decide (3251651376#32 = sum [97]) = true := by decide +kernel
set_option maxRecDepth 100000 in
set_option maxHeartbeats 800000 in
theorem known_any (w : World) :
    Calls Try.prog 7 #[] w fun e w' => e = .returned (.bool true) ∧ Below w.heap.size w w' := by
  have hcv := conv22
  have e1 := k1
  have e2 := k2
  have e3 := k3
  have e4 := k4
  have e5 := k5
  have e6 := k6
  have e7 := k7
  go_enter Try.func7, Try.ntmps7
  go_wp2_with fail
  refine (Sum_none _).mono ?_
  rintro e w1 ⟨rfl, hb1⟩
  go_wp2_with fail
  refine (Sum_two _ _ [49, 50, 51, 52] [53, 54, 55, 56, 57] _ ?_).mono ?_
  exact BBs_two (by simp) ((Bs_alloc w1 [49, 50, 51, 52] _ _ _ _ rfl rfl).below (below_alloc _ _)) (Bs_alloc _ [53, 54, 55, 56, 57] _ _ _ _ rfl (by simp)) (by decide) (by decide)
  rintro e w2 ⟨rfl, hb2⟩
  go_wp2_with fail
  refine (Sum_one _ _ [49, 50, 51, 52, 53] _ ?_).mono ?_
  exact BBs_one' (by simp) (Bs_alloc w2 [49, 50, 51, 52, 53] _ _ _ _ rfl rfl) (by decide)
  rintro e w3 ⟨rfl, hb3⟩
  go_wp2_with fail
  refine (More_any _ _ _ [54, 55, 56, 57] _ ?_ (by decide)).mono ?_
  exact Bs_alloc w3 [54, 55, 56, 57] _ _ _ _ rfl rfl
  rintro e w4 ⟨rfl, hb4⟩
  go_wp2_with fail
  refine (Zeros_any 0#32 _ (by decide) _).mono ?_
  rintro e w4' ⟨rfl, rfl⟩
  go_wp2_with fail
  refine (Zeros_any 7#32 _ (by decide) _).mono ?_
  rintro e w4' ⟨rfl, rfl⟩
  go_wp2_with fail
  refine (Join_any 9#32 0#32 _ (by decide) _).mono ?_
  rintro e w4' ⟨rfl, rfl⟩
  go_wp2_with fail
  refine (Holds_any _ _ [97] 3251651376#32 _ ?_ (by decide)).mono ?_
  exact Bs_alloc w4 [97] _ _ _ _ rfl rfl
  rintro e w5 ⟨rfl, hb5⟩
  go_wp2_with fail
  go_ret
  refine ⟨rfl, ?_⟩
  have c2 := belT (belT (belT (belT hb1 (below_alloc _ _)) (below_alloc _ _)) (below_alloc _ _)) hb2
  have c3 := belT (belT (belT c2 (below_alloc _ _)) (below_alloc _ _)) hb3
  have c4 := belT (belT c3 (below_alloc _ _)) hb4
  exact belT (belT c4 (below_alloc _ _)) hb5
end Go.Proofs.Ytfheeanpmcgajaa

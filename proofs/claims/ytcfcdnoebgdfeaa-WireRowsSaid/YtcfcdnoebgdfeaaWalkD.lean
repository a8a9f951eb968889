/- Contracts of wire's Blob. -/
import Derived.Test.YtcfcdnoebgdfeaaWalkC
namespace Go.Proofs.Ytcfcdnoebgdfeaa
open Go.RowKit WireM

theorem OwnB.mono {w : World} {base base' : Nat} {v : Value} {l : List UInt8} (h : OwnB w base v l) (hb : base' ≤ base) : OwnB w base' v l := by
  rcases h.2 with ⟨h', h2⟩ | ⟨g', cap', cur, h', hg', hr⟩
  · exact ⟨h.1, .inl ⟨h', h2⟩⟩
  · exact ⟨h.1, .inr ⟨g', cap', cur, h', Nat.le_trans hb hg', hr⟩⟩
def blobL (l : List UInt8) : List UInt8 := be l.length 2 ++ l
theorem be_two (n : Nat) : be n 2 = [UInt8.ofNat (n / 256), UInt8.ofNat n] := by simp [be]
theorem Blob_long (a : Option Addr) (cap n : Nat) (w : World) (h : 65535 < n) (hn : n ≤ 9223372036854775807) :
    Calls Try.prog 17 #[.slice a n cap] w fun e w' => e = .returned (.tuple #[.slice none 0 0, .int .i64 3]) ∧ w = w' := by
  go_enter Try.func17, Try.ntmps17
  go_wp2
  go_ret2
  exact ⟨rfl, rfl⟩
set_option maxRecDepth 100000 in
set_option maxHeartbeats 800000 in
theorem Blob_any (a : Option Addr) (cap : Nat) (l : List UInt8) (w : World) (h : Bs w a l) (hna : a = none → cap = 0) (hl : l.length ≤ 65535) :
    Calls Try.prog 17 #[.slice a l.length cap] w fun e w' => Below w.heap.size w w' ∧ ∃ v, e = .returned (.tuple #[v, .int .i64 0]) ∧ OwnB w' w.heap.size v (blobL l) := by
  go_enter Try.func17, Try.ntmps17
  go_wp2_with fail
  have hB := Bs_alloc w (be l.length 2) #[Value.int IntKind.u8 ((l.length : Int) / 256), Value.int IntKind.u8 ((l.length : Int) % 256)] 5 (0, 0) w.heap.size (by rw [be_two]; simp [u8s]; omega) rfl
  have hBB := BBs_two (w := w.alloc (.cells #[Value.int IntKind.u8 ((l.length : Int) / 256), Value.int IntKind.u8 ((l.length : Int) % 256)] 5)) (n := w.heap.size + 1) (ca := 2) (cb := cap) (by simp) hB (h.below (below_alloc _ _)) (by rw [be_length]; omega) (by omega) (by simp) hna
  rw [be_length] at hBB
  have hJ := Join_any (some ⟨w.heap.size + 1, 0, none⟩) 2 [be l.length 2, l] _ hBB (by simp) (by simp [be_length]; omega)
  refine hJ.mono ?_
  rintro e w2 ⟨hb2, v, rfl, hown⟩
  clear hJ hBB hB
  have hb : Below w.heap.size w w2 := belT (belT (below_alloc _ _) (below_alloc _ _)) hb2
  have hown' : OwnB w2 w.heap.size v (blobL l) := by
    have := hown.mono (base' := w.heap.size) (by simp; omega)
    simpa [blobL] using this
  clear hown hb2
  go_wp2_with fail
  go_ret2
  exact ⟨hb, _, rfl, hown'⟩
end Go.Proofs.Ytcfcdnoebgdfeaa

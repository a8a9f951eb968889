/- The chapter's rows hold. -/
import Derived.Test.YtcfcdnoebgdfeaaWalkI
namespace Go.Proofs.Ytcfcdnoebgdfeaa
open Go.RowKit WireM

theorem put258 (w : World) : Calls Try.prog 10 #[.int .u64 258, .int .i64 2] w fun e w' => (∃ a c, e = .returned (.tuple #[.slice a 2 c, .int .i64 0]) ∧ Bs w' a [1, 2]) ∧ Below w.heap.size w w' := by
  refine (put_fits 258 2 (by omega) (by omega) (by omega) w).mono ?_
  rintro e w' ⟨hb, h⟩
  have hbe : be 258 2 = [1, 2] := by decide
  rcases h with ⟨_, v, rfl, ho⟩ | ⟨h, _⟩
  · obtain ⟨a, c, rfl, hB, _⟩ := ho.form
    rw [hbe] at hB
    exact ⟨⟨a, c, by rw [hbe]; rfl, hB⟩, hb⟩
  · omega
theorem put256 (w : World) : Calls Try.prog 10 #[.int .u64 256, .int .i64 1] w fun e w' => e = .returned (.tuple #[.slice none 0 0, .int .i64 2]) ∧ Below w.heap.size w w' := by
  refine (put_fits 256 1 (by omega) (by omega) (by omega) w).mono ?_
  rintro e w' ⟨hb, h⟩
  rcases h with ⟨h, _⟩ | ⟨_, h⟩
  · omega
  · exact ⟨h, hb⟩
theorem blob_ab (g : Nat) (w : World) (h : Bs w (some ⟨g, 0, none⟩) [97, 98]) : Calls Try.prog 17 #[.slice (some ⟨g, 0, none⟩) 2 2] w fun e w' => (∃ a c, e = .returned (.tuple #[.slice a 4 c, .int .i64 0]) ∧ Bs w' a [0, 2, 97, 98]) ∧ Below w.heap.size w w' := by
  refine (Blob_any _ 2 [97, 98] w h (by simp) (by simp)).mono ?_
  rintro e w' ⟨hb, v, rfl, ho⟩
  have hbe : blobL [97, 98] = [0, 2, 97, 98] := by decide
  obtain ⟨a, c, rfl, hB, _⟩ := ho.form
  rw [hbe] at hB
  exact ⟨⟨a, c, by rw [hbe]; rfl, hB⟩, hb⟩
theorem read_0179 (g : Nat) (w : World) (h : Bs w (some ⟨g, 0, none⟩) [0, 1, 7, 9]) : Calls Try.prog 19 #[.slice (some ⟨g, 0, none⟩) 4 4] w fun e w' => (∃ g, e = .returned (.pointer (some ⟨g, 0, none⟩)) ∧ Rd w' w.heap.size w'.heap.size g [0, 1, 7, 9] 0) ∧ Below w.heap.size w w' :=
  Read_any _ 4 [0, 1, 7, 9] w h (by simp) (by simp)
/-- a reader's walk through these bytes -/
theorem L0 : blobAt [0, 1, 7, 9] 0 = [7] ∧ blobStep [0, 1, 7, 9] 0 = 3 := by decide
theorem L1 : leftAt [0, 1, 7, 9] 3 = 1 := by decide
theorem L2 : numAt [0, 1, 7, 9] 3 2 = 0 ∧ stepAt [0, 1, 7, 9] 3 (szOf 2) = -1 := by decide
theorem L3 : leftAt [0, 1, 7, 9] (-1) = 0 ∧ endAt [0, 1, 7, 9] (-1) = 4 := by decide
theorem k_blob (base top g : Nat) (w : World) (h : Rd w base top g [0, 1, 7, 9] 0) :
    Calls Try.prog 34 #[.pointer (some ⟨g, 0, none⟩)] w fun e w' => (∃ a, e = .returned (.slice a 1 1) ∧ Got w' base top g a [7]) ∧ Rd w' base top g [0, 1, 7, 9] 3 ∧ w.grownBy w' (some g) := by
  refine (rBlob_any base top g [0, 1, 7, 9] 0 w h (by simp) (by simp)).mono ?_
  intro e w' h
  unfold BlobPost at h
  rw [L0.1, L0.2] at h
  exact h
theorem k_num (base top g : Nat) (w : World) (h : Rd w base top g [0, 1, 7, 9] 3) :
    Calls Try.prog 28 #[.pointer (some ⟨g, 0, none⟩), .int .i64 2] w fun e w' => e = .returned (.int .u64 0) ∧ Rd w' base top g [0, 1, 7, 9] (-1) ∧ w.grownBy w' (some g) := by
  refine (Number_any base top g [0, 1, 7, 9] 3 2 w h (by simp) (by simp)).mono ?_
  intro e w' h
  unfold NumberPost at h
  rw [L2.1, L2.2] at h
  exact h
theorem k_left3 (base top g : Nat) (w : World) (h : Rd w base top g [0, 1, 7, 9] 3) :
    Calls Try.prog 20 #[.pointer (some ⟨g, 0, none⟩)] w fun e w' => e = .returned (.int .i64 1) ∧ Look w base top g [0, 1, 7, 9] 3 w' := by
  have := Left_any base top g [0, 1, 7, 9] 3 w h (by simp) (by simp)
  rwa [L1] at this
theorem k_left (base top g : Nat) (w : World) (h : Rd w base top g [0, 1, 7, 9] (-1)) :
    Calls Try.prog 20 #[.pointer (some ⟨g, 0, none⟩)] w fun e w' => e = .returned (.int .i64 0) ∧ Look w base top g [0, 1, 7, 9] (-1) w' := by
  have := Left_any base top g [0, 1, 7, 9] (-1) w h (by simp) (by simp)
  rwa [L3.1] at this
theorem k_end (base top g : Nat) (w : World) (h : Rd w base top g [0, 1, 7, 9] (-1)) :
    Calls Try.prog 24 #[.pointer (some ⟨g, 0, none⟩)] w fun e w' => e = .returned (.int .i64 4) ∧ Look w base top g [0, 1, 7, 9] (-1) w' := by
  have := End_any base top g [0, 1, 7, 9] (-1) w h (by simp) (by simp)
  rwa [L3.2] at this
theorem below_grow {B : Nat} {w0 w w' : World} {g : Nat} (h : Below B w0 w) (hB : B ≤ w.heap.size) (hg : w.grownBy w' (some g)) (hg0 : B ≤ g) : Below B w0 w' :=
  h.grown hg hB (fun k hk => by cases hk; exact hg0)
set_option maxHeartbeats 1600000 in
theorem known_any (w : World) : Calls Try.prog 13 #[] w fun e w' => e = .returned (.bool true) ∧ Below w.heap.size w w' := by
  have kc := fun (w : World) (C : Array Value) (n c : Nat) => Lib.run_convert_bytes_const (P := Try.prog) w 23 5 C n c Try.underlying23 Try.underlying5
  go_enter Try.func13, Try.ntmps13
  go_wp2_with fail
  refine (put258 w).mono ?_
  rintro e w1 ⟨⟨a1, c1, rfl, hB1⟩, hb1⟩
  go_wp2_with fail
  refine (put256 w1).mono ?_
  rintro e w2 ⟨rfl, hb2⟩
  go_wp2_with fail
  refine (blob_ab _ _ (Bs_alloc w2 [97, 98] #[.int .u8 97, .int .u8 98] 5 (2, 3) _ (by simp [u8s]) rfl)).mono ?_
  rintro e w3 ⟨⟨a3, c3, rfl, hB3⟩, hb3⟩
  have k1 := conv_N a1 c1 2 [1, 2] rfl w3 (((hB1.below hb2).below (below_alloc _ _)).below hb3)
  have k3 := conv_N a3 c3 4 [0, 2, 97, 98] rfl w3 hB3
  have s1 : str [1, 2] = ⟨#[1, 2]⟩ := rfl
  have s3 : str [0, 2, 97, 98] = ⟨#[0, 2, 97, 98]⟩ := rfl
  rw [s1] at k1
  rw [s3] at k3
  clear s1 s3
  go_wp2_with (go_at_call 12; refine (num_any _ _).mono ?_; rintro e w' ⟨rfl, rfl⟩)
  refine (read_0179 _ _ (Bs_alloc w3 [0, 1, 7, 9] #[.int .u8 0, .int .u8 1, .int .u8 7, .int .u8 9] 5 (0, 0) _ (by simp [u8s]) rfl)).mono ?_
  rintro e w4 ⟨⟨g, rfl, r4⟩, hb4⟩
  have hb : Below w.heap.size w w4 := belT (belT (belT (belT (belT hb1 hb2) (below_alloc _ _)) hb3) (below_alloc _ _)) hb4
  have hs4 := hb.size
  have hg : w.heap.size ≤ g := by
    have h1 := r4.up
    have h2 := (belT (belT (belT hb1 hb2) (below_alloc _ _)) hb3).size
    simp at h1; omega
  clear k1 k3 hB1 hB3 hb1 hb2 hb3 hb4
  obtain ⟨base, hbase⟩ : ∃ base, (w3.alloc (.cells #[.int .u8 0, .int .u8 1, .int .u8 7, .int .u8 9] 5)).heap.size = base := ⟨_, rfl⟩
  obtain ⟨top, htop⟩ : ∃ top, w4.heap.size = top := ⟨_, rfl⟩
  rw [hbase, htop] at r4
  clear hbase htop
  go_wp2_with fail
  refine (k_blob _ _ _ _ r4).mono ?_
  rintro e w5 ⟨⟨a5, rfl, hG5⟩, r5, g5⟩
  have hb5 := below_grow hb hs4 g5 hg
  go_wp2_with fail
  refine (k_left3 _ _ _ _ r5).mono ?_
  rintro e w6 ⟨rfl, r6, g6⟩
  have hb6 := below_grow hb5 hb5.size g6 hg
  go_wp2_with fail
  refine (k_num _ _ _ _ r6).mono ?_
  rintro e w7 ⟨rfl, r7, g7⟩
  have hb7 := below_grow hb6 hb6.size g7 hg
  have k7 := conv_N a5 1 1 [7] rfl w7 ((hG5.bs.grown g6 (fun b o s e => (hG5.away b o s e).2.2)).grown g7 (fun b o s e => (hG5.away b o s e).2.2))
  have s7 : str [7] = ⟨#[7]⟩ := rfl
  rw [s7] at k7
  have hF := Failed_any _ _ _ _ _ _ r7
  rw [show decide ((-1 : Int) < 0) = true by decide] at hF
  clear s7 hb hb5 hb6 r4 r5 r6 g5 g6 g7 hG5
  go_wp2_with (go_at_call 21; refine hF.mono ?_; rintro e w' ⟨rfl, rfl⟩)
  refine (k_left _ _ _ _ r7).mono ?_
  rintro e w8 ⟨rfl, r8, g8⟩
  have hb8 := below_grow hb7 hb7.size g8 hg
  go_wp2_with fail
  refine (k_end _ _ _ _ r8).mono ?_
  rintro e w9 ⟨rfl, r9, g9⟩
  have hb9 := below_grow hb8 hb8.size g9 hg
  go_wp2_with (go_at_call 12; refine (num_any _ _).mono ?_; rintro e w' ⟨rfl, rfl⟩)
  go_ret
  exact ⟨rfl, hb9⟩
end Go.Proofs.Ytcfcdnoebgdfeaa

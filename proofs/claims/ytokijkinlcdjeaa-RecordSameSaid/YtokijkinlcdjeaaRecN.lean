/- Of whole; known. -/
import Derived.Test.YtokijkinlcdjeaaRecM
namespace Go.Proofs.Ytokijkinlcdjeaa
open Go.RowKit WireM

theorem OfLo (a : Option Addr) (cap : Nat) (l : List UInt8) (at_ : Nat) (hat : at_ ≤ 4611686018427387904) (w : World) (h : Bs w a l) (hcap : l.length ≤ cap) (hl : l.length ≤ 140737488355327) :
    Calls Try.prog 11 #[.slice a l.length cap, .int .u64 at_] w (OfPost l at_ w) := by
  by_cases hs : val (l.take 4) < 17 ∨ l.length < val (l.take 4)
  · refine (OfShort a cap l at_ hat w h hcap hl hs).mono ?_
    rintro e w' ⟨rfl, hb⟩
    unfold OfPost
    have e : ofL l at_ = none := by unfold ofL; rw [if_pos hs]
    rw [e]
    exact ⟨rfl, hb⟩
  · exact OfRead a cap l at_ hat w h hcap hl _ rfl (by omega) (by omega) _ rfl _ rfl (by unfold ofL; rw [if_neg hs])
theorem OfNone (a : Option Addr) (cap : Nat) (l : List UInt8) (at_ : Nat) (w : World) (h : Bs w a l) (hcap : l.length ≤ cap) (hl : l.length ≤ 140737488355327) (hn : at_ ≤ 4611686018427387904 → ofL l at_ = none) :
    Calls Try.prog 11 #[.slice a l.length cap, .int .u64 at_] w fun e w' => (∃ x : Int, e = .returned (.tuple #[rv 0 0 0 0 none 0 0 none 0 0 0 0 0, .int .i64 0, .int .i64 x]) ∧ (x = if at_ ≤ 4611686018427387904 then 4 else 2)) ∧ Below w.heap.size w w' := by
  by_cases hat : at_ ≤ 4611686018427387904
  · refine (OfLo a cap l at_ hat w h hcap hl).mono ?_
    intro e w' hp
    unfold OfPost at hp
    rw [hn hat] at hp
    exact ⟨⟨4, hp.1, by rw [if_pos hat]⟩, hp.2⟩
  · refine (OfHi a cap l at_ (by omega) w).mono ?_
    rintro e w' ⟨rfl, hb⟩
    exact ⟨⟨2, rfl, by rw [if_neg hat]⟩, hb⟩
theorem OfSome (a : Option Addr) (cap : Nat) (l : List UInt8) (at_ : Nat) (hat : at_ ≤ 4611686018427387904) (w : World) (h : Bs w a l) (hcap : l.length ≤ cap) (hl : l.length ≤ 140737488355327) (R : Rec) (n : Nat) (hs : ofL l at_ = some (R, n)) :
    Calls Try.prog 11 #[.slice a l.length cap, .int .u64 at_] w fun e w' => (∃ ab sb cs, e = .returned (.tuple #[rv R.kind R.xid R.page R.off ab R.bytes.length R.bytes.length sb R.subs.length cs R.next R.redo R.tl, .int .i64 n, .int .i64 0]) ∧ RB w' R ab sb R.bytes.length cs) ∧ Below w.heap.size w w' := by
  refine (OfLo a cap l at_ hat w h hcap hl).mono ?_
  intro e w' hp
  unfold OfPost at hp
  rw [hs] at hp
  exact hp
def kR : Rec := ⟨3, 5, 0, 0, [], [], 0, 0, 0⟩
theorem k1 : mayB ⟨3, 5, 0, 0, [], [], 0, 0, 0⟩ = true := by decide
theorem k2 : mayB ⟨1, 5, 7, 12, [97, 98], [], 0, 0, 0⟩ = true := by decide
theorem k3 : mayB ⟨2, 0, 0, 0, List.replicate 1024 0, [], 0, 0, 0⟩ = true := by
  have e : (List.replicate 1024 (0 : UInt8)).length = 1024 := List.length_replicate
  generalize List.replicate 1024 (0 : UInt8) = L at e
  simp [mayB, bareR, kindB, e]
theorem k4 : mayB ⟨3, 0, 0, 0, [], [], 0, 0, 0⟩ = false := by decide
theorem n1 : ((encR ⟨3, 5, 0, 0, [], [], 0, 0, 0⟩ 0).length : Int) = 27 := by rw [encR_len]; decide
theorem n2 : ((encR ⟨1, 5, 7, 12, [97, 98], [], 0, 0, 0⟩ 0).length : Int) = 33 := by rw [encR_len]; decide
theorem n3 : ((encR ⟨2, 0, 0, 0, List.replicate 1024 0, [], 0, 0, 0⟩ 0).length : Int) = 1053 := by
  rw [encR_len]
  have e : (List.replicate 1024 (0 : UInt8)).length = 1024 := List.length_replicate
  generalize List.replicate 1024 (0 : UInt8) = L at e
  have : (bodyL ⟨2, 0, 0, 0, L, [], 0, 0, 0⟩).length = 1037 := by
    simp [bodyL, formL, encF, encL, be_length, e]
  rw [this]; rfl
theorem rb3 {w : World} (b : Addr) (h : Bs w (some b) (List.replicate 1024 0)) : RB w ⟨2, 0, 0, 0, List.replicate 1024 0, [], 0, 0, 0⟩ (some b) none 1024 0 :=
  ⟨h, ⟨fun h => absurd rfl h, fun b o e => by cases e⟩, by show (List.replicate 1024 (0 : UInt8)).length ≤ _; rw [List.length_replicate]; decide, by simp, fun e => (by cases e), fun _ => rfl⟩
theorem n5 : ofL (encR ⟨3, 5, 0, 0, [], [], 0, 0, 0⟩ 8) 9 = none := ofL_other _ 8 9 k1 (by decide) (by decide) (by decide)

set_option maxRecDepth 100000 in
set_option maxHeartbeats 8000000 in
theorem knownF (w : World) : Calls Try.prog 6 #[] w fun e w' => e = .returned (.bool true) ∧ Below w.heap.size w w' := by
  have P1 := Lib.hid (fun w => SizeYes 3 5 0 0 none none 0 0 [] [] 0 0 0 w (RB.nil _ _ _ _ _ _ _) k1)
  rw [n1] at P1
  have P2 := Lib.hid (fun b c w h => SizeYes 1 5 7 12 (some b) none c 0 [97, 98] [] 0 0 0 w h k2)
  rw [n2] at P2
  have P3 := Lib.hid (fun b c w h => SizeYes 2 0 0 0 (some b) none c 0 (List.replicate 1024 0) [] 0 0 0 w h k3)
  rw [n3, List.length_replicate] at P3
  have P4 := Lib.hid (fun w => BytesNo1 3 0 0 0 none none 0 0 [] [] 0 0 0 0 w (RB.nil _ _ _ _ _ _ _) k4)
  have P5 := Lib.hid (fun w => BytesYes 3 5 0 0 none none 0 0 [] [] 0 0 0 8 (by decide) w (RB.nil _ _ _ _ _ _ _) k1)
  have P6 := Lib.hid (fun a c w h hc => OfNone a c (encR ⟨3, 5, 0, 0, [], [], 0, 0, 0⟩ 8) 9 w h hc (by rw [encR_len]; decide) (fun _ => n5))
  go_enter Try.func6, Try.ntmps6
  go_wp2_with fail
  refine (P1.out _).mono ?_
  rintro e w1 ⟨rfl, hb1⟩
  have hC : w1.heap[w.heap.size]? = some (.cells #[.int .i64 3, .int .u64 5, .int .i64 0, .int .i64 0, .slice none 0 0, .slice none 0 0, .int .u64 0, .int .u64 0, .int .u64 0] 27 (0, 0)) := (hb1.block _ (by simp)).trans (heap_alloc_new _ _)
  have hB1 := belT (below_alloc w _) hb1
  have hlt : w.heap.size < w1.heap.size := (Array.getElem?_eq_some_iff.1 hC).1
  clear hb1 P1
  have hcv := Lib.run_convert_bytes_const (P := Try.prog) w1 24 5 #[.int .u8 97, .int .u8 98] 2 2 Try.underlying24 Try.underlying5
  go_wp2_with fail
  refine (P2.out _ _ _ ⟨Bs_alloc w1 [97, 98] _ _ _ _ rfl rfl, ⟨fun h => absurd rfl h, fun b o e => by cases e⟩, by simp, by simp, fun e => (by cases e), fun _ => rfl⟩).mono ?_
  rintro e w2 ⟨rfl, hb2⟩
  have hB2 := belT (below_alloc w1 _) hb2
  clear hb2 P2
  obtain ⟨w3, hr3a, ho3, hg3⟩ := run_make_b w2 w2.heap.size 1024 (by omega) (Nat.le_refl _)
  have hr3 : (Instr.makeSlice 24 (.int .i64 1024) (.int .i64 1024)).run Try.prog w2 = .ok (.slice (some ⟨w2.heap.size, 0, none⟩) 1024 1024) w3 := hr3a
  go_wp2_with fail
  refine (P3.out ⟨w2.heap.size, 0, none⟩ 1024 w3 (rb3 _ ho3.bs)).mono ?_
  rintro e w4 ⟨rfl, hb4⟩
  have hB4 := belT (below_grown hg3) hb4
  clear hb4 P3 hr3 ho3 hg3
  go_wp2_with fail
  refine (P4.out _).mono ?_
  rintro e w5 ⟨rfl, hb5⟩
  have hB5 := belT hB2 (belT hB4 hb5)
  have L5 := loads9 3 5 0 0 none none 0 0 [] [] 0 0 0 w.heap.size w5 ((hB5.block _ hlt).trans hC)
  have hB := belT hB1 hB5
  clear P4 hB5 hb5 hB4 hB2 hB1 hC
  go_wp2_with fail
  refine (P5.out _).mono ?_
  rintro e w6 ⟨v, rfl, ho6, hb6⟩
  obtain ⟨a6, c6, hv, hbs6, hlc6, hx6⟩ := ho6.form
  subst hv
  clear L5 P5
  have hB6 := belT hB hb6
  go_wp2_with fail
  refine (P6.out _ _ _ hbs6 hlc6).mono ?_
  rintro e w7 ⟨⟨x, rfl, hx⟩, hb7⟩
  obtain rfl : x = 4 := hx
  have hB7 := belT hB6 hb7
  clear hbs6 hlc6 hx6 ho6 hb6 P6 hB hb7 hB6 hcv
  clear hr3a
  go_wp2_with (go_at_call 10; refine (numF _ _).mono ?_; rintro e w8 ⟨rfl, rfl⟩)
  refine (Name7 _).mono ?_
  rintro e w8 ⟨rfl, hb8⟩
  go_wp2_with fail
  refine (Name0 _).mono ?_
  rintro e w9 ⟨rfl, hb9⟩
  go_wp2_with fail
  go_ret
  exact ⟨rfl, belT (belT hB7 (below_alloc _ _)) (belT hb8 hb9)⟩

end Go.Proofs.Ytokijkinlcdjeaa

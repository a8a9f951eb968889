/- Contracts of wire's Hex. -/
import Derived.Test.YtcfcdnoebgdfeaaKnown
import Derived.Test.YtcfcdnoebgdfeaaShelf
namespace Go.Proofs.Ytcfcdnoebgdfeaa
open Go.RowKit WireM

/-- a builder that has grown -/
def Bl (w : World) (B b : Nat) (l : List UInt8) : Prop :=
  B ≤ b ∧ ∃ v, w.heap[b]? = some (.cells #[.pointer (some ⟨b, 0, none⟩), v] 71 (0, 0)) ∧ OwnB w B v l ∧ v.ownBlock ≠ some b
theorem copyCheck_any (B b : Nat) (l : List UInt8) (w : World) (h : Bl w B b l) : Calls Try.prog 43 #[.pointer (some ⟨b, 0, none⟩)] w fun e w' => e = .returned (.tuple #[]) ∧ w = w' := by
  obtain ⟨_, v, hg, _⟩ := h
  have c0 := cell_of_row w b 0 _ _ _ hg
  simp at c0
  clear hg
  obtain ⟨j, hj⟩ : ∃ j, Try.prog.info? 71 = some j := Option.isSome_iff_exists.1 (by kernel_rfl)
  have hne := fun w' => Lib.run_neq_ptr_same (P := Try.prog) (w := w') (⟨b, 0, none⟩ : Addr) Try.underlying69 hj
  clear hj
  go_enter Try.func43, Try.ntmps43
  go_wp2
  go_end0
  exact ⟨rfl, rfl⟩
theorem below_setTo {B : Nat} {w0 w w' : World} {g : Nat} (h : Below B w0 w) (hB : B ≤ w.heap.size) (hg : w.grownBy w' (some g)) (hg0 : B ≤ g) : Below B w0 w' :=
  h.grown hg hB (fun k hk => by cases hk; exact hg0)
set_option maxHeartbeats 800000 in
theorem WriteByte_any (B b : Nat) (l : List UInt8) (c : UInt8) (w : World) (h : Bl w B b l) (hB : B ≤ w.heap.size) (hl : l.length + 1 ≤ 140737488355328) : Calls Try.prog 40 #[.pointer (some ⟨b, 0, none⟩), .int .u8 (c.toNat : Int)] w fun e w' => e = .returned .nilIface ∧ Bl w' B b (l ++ [c]) ∧ Below B w w' := by
  have hC := copyCheck_any B b l w h
  obtain ⟨hBb, v, hg, hown, hne⟩ := h
  have c1 := cell_of_row w b 1 _ _ _ hg
  have f1 := frozen_of_row w b 1 _ _ hg
  simp at c1
  have hbw : b < w.heap.size := lt_of_block hg
  have hown' := hown.below (below_alloc w (.cells #[.int .u8 (c.toNat : Int)] 5))
  have hsz : B ≤ (w.alloc (.cells #[.int .u8 (c.toNat : Int)] 5)).heap.size := by simp; omega
  have hBs := Bs_alloc w [c] #[.int .u8 (c.toNat : Int)] 5 (0, 0) w.heap.size (by simp [u8s]) rfl
  have hl2 : l.length + [c].length ≤ 140737488355328 := by simpa using hl
  have hg := And.intro hg hne
  have HB1 := Lib.hid (fun (w1 : World) (hg1 : (w.alloc (.cells #[.int .u8 (c.toNat : Int)] 5)).grownBy w1 v.ownBlock) => show w1.heap[b]? = some (.cells #[.pointer (some ⟨b, 0, none⟩), v] 71 (0, 0)) by
    have := hg1.block b (by simp; omega) (fun e => hg.2 e.symm)
    rw [this, Below.heap_alloc _ _ _ hbw]; exact hg.1)
  clear hown hg hne
  go_enter Try.func40, Try.ntmps40
  go_wp2_with (first | (go_at_call 43; refine hC.mono ?_; rintro e w' ⟨rfl, rfl⟩) | (at_builtin; refine wpList_append_b rfl (.tmp 11) (.tmp 13) rfl B v l rfl hown' (some ⟨w.heap.size, 0, none⟩) [c] 1 1 rfl rfl hBs (fun e => by cases e) hl2 hsz ?_; intro v1 w1 hown1 hg1; have hgb := HB1.out w1 hg1; have c2 := cell_of_row w1 b 1 _ _ _ hgb; have f2 := frozen_of_row w1 b 1 _ _ hgb; simp at c2; clear c1 f1; have HGB := Lib.hid hgb; clear hgb; have HO1 := Lib.hid hown1; have HG1 := Lib.hid hg1; obtain ⟨x1, d1, rfl, _, _, _⟩ := hown1.form))
  go_ret
  have hown1 := HO1.out
  have hle : (l ++ [c]).length = l.length + 1 := by simp
  rw [hle] at hown1
  have hgb := HGB.out
  have hnb : (Value.slice x1 (l.length + 1) d1).ownBlock ≠ some b := by
    intro e
    rcases hown1.2 with ⟨h, _⟩ | ⟨g, cap, cur, h, _, hgg, _⟩
    · rw [h] at e; simp [Value.ownBlock] at e
    · rw [h] at e
      simp [Value.ownBlock] at e
      subst e
      rw [hgg] at hgb
      simp at hgb
  have hgr : w1.grownBy (w1.setCell ⟨b, 1, none⟩ (.slice x1 (l.length + 1) d1)) (some b) := ⟨rfl, rfl, rfl, by simp [World.setCell], fun k _ hne => Below.heap_setCell _ _ _ _ (fun e => hne (by rw [e]))⟩
  refine ⟨rfl, ⟨hBb, _, ?_, (by unfold OwnB; rw [hle]; exact World.ownsRow.kept (n := l.length + 1) (by have := hown1; unfold OwnB at this; rwa [hle] at this) hgr (.inr hnb)), hnb⟩, ?_⟩
  · rw [heap_setCell_same _ _ _ _ _ _ hgb]; rfl
  · have h1 : Below B w w1 := below_grown_own ((Below.refl B w).alloc hB _) hsz hown' HG1.out
    exact below_setTo h1 (Nat.le_trans hB h1.size) hgr hBb
def spl (n : Nat) : UInt8 := if n < 10 then UInt8.ofNat (48 + n) else UInt8.ofNat (87 + n)
theorem spell_any (n : Nat) (hn : n < 16) (w : World) : Calls Try.prog 41 #[.int .u8 n] w fun e w' => e = .returned (.int .u8 ((spl n).toNat : Int)) ∧ w = w' := by
  by_cases h : n < 10
  · have e : ((spl n).toNat : Int) = 48 + n := by unfold spl; rw [if_pos h, ofNat_toNat8]; omega
    rw [e]
    clear e
    go_enter Try.func41, Try.ntmps41
    go_wp2
    go_ret
    exact ⟨rfl, rfl⟩
  · have e : ((spl n).toNat : Int) = 97 + n - 10 := by unfold spl; rw [if_neg h, ofNat_toNat8]; omega
    rw [e]
    clear e
    go_enter Try.func41, Try.ntmps41
    go_wp2
    go_ret
    exact ⟨rfl, rfl⟩
theorem String_any (B b : Nat) (l : List UInt8) (w : World) (h : Bl w B b l) (hB : B ≤ w.heap.size) : Calls Try.prog 42 #[.pointer (some ⟨b, 0, none⟩)] w fun e w' => e = .returned (.string (str l)) ∧ Below B w w' := by
  obtain ⟨h1, v, h2, h3, h4⟩ := h
  have hb : Lib.byteCells l = bv l := rfl
  refine Try.Builder_String_any B b l w (.inr ⟨h1, v, h2, ?_, h4⟩) hB
  rw [hb, bv_length]; exact h3
theorem Grow_any (B b n : Nat) (w : World) (hB : B ≤ b) (hbk : w.heap[b]? = some (.cells #[.pointer none, .slice none 0 0] 71 (0, 0))) (hBw : B ≤ w.heap.size) (hn : n ≤ 281474976710656) :
    Calls Try.prog 39 #[.pointer (some ⟨b, 0, none⟩), .int .i64 n] w fun e w' => e = .returned (.tuple #[]) ∧ Bl w' B b [] ∧ Below B w w' := by
  refine (Try.Builder_Grow_fresh B b n w hB hbk hBw hn).mono ?_
  rintro e w' ⟨rfl, ⟨h1, v, h2, h3, h4⟩, hb⟩
  exact ⟨rfl, ⟨h1, v, h2, h3, h4⟩, hb⟩
/-- hex -/
def hexL (l : List UInt8) : List UInt8 := l.flatMap fun c => [spl (c.toNat / 16), spl (c.toNat % 16)]
theorem hexL_append (l m : List UInt8) : hexL (l ++ m) = hexL l ++ hexL m := by simp [hexL]
theorem hexL_length (l : List UInt8) : (hexL l).length = 2 * l.length := by
  induction l with
  | nil => rfl
  | cons c l ih => 
    have : hexL (c :: l) = [spl (c.toNat / 16), spl (c.toNat % 16)] ++ hexL l := by simp [hexL]
    rw [this, List.length_append, ih]; simp; omega
theorem hexL_snoc (l : List UInt8) (k : Nat) (h : k < l.length) : hexL (l.take (k + 1)) = (hexL (l.take k) ++ [spl (l[k].toNat / 16)]) ++ [spl (l[k].toNat % 16)] := by
  rw [take_snoc l k h, hexL_append]; simp [hexL]
set_option maxHeartbeats 800000 in
theorem Hex_any (a : Option Addr) (cap : Nat) (l : List UInt8) (w : World) (h : Bs w a l) (hl : l.length ≤ 100000000) :
    Calls Try.prog 31 #[.slice a l.length cap] w fun e w' => e = .returned (.string (str (hexL l))) ∧ Below w.heap.size w w' := by
  have HA := Lib.hid h
  have hG := Grow_any w.heap.size w.heap.size (2 * l.length) (w.alloc (.cells #[.pointer none, .slice none 0 0] 71)) (Nat.le_refl _) (heap_alloc_new _ _) (by simp) (by omega)
  have hc2 : ((2 * l.length : Nat) : Int) = 2 * (l.length : Int) := by simp
  rw [hc2] at hG
  clear h hc2
  go_enter Try.func31, Try.ntmps31
  go_wp2_with (go_at_call 39; refine hG.mono ?_; rintro e w1 ⟨rfl, hB1, hb1⟩)
  have hb0 : Below w.heap.size w w1 := ((Below.refl _ _).alloc (Nat.le_refl _) _).trans hb1
  have HB := Lib.hid (And.intro hB1 hb0)
  clear hG hB1 hb1 hb0
  go_loopw [5, 12] (fun _ i wr => ∃ k : Nat, k ≤ l.length ∧ i = .int .i64 k ∧ Bl wr w.heap.size w.heap.size (hexL (l.take k)) ∧ Below w.heap.size w wr) (fun _ i _ => l.length - (intOf i).toNat)
  case atStart => exact ⟨0, by omega, rfl, HB.out.1, HB.out.2⟩
  case round =>
    clear HB
    obtain ⟨k, hk, rfl, hB, hb⟩ := hrel
    by_cases hlt : k < l.length
    · obtain ⟨b, o, rfl⟩ := HA.out.ex hlt
      have hc := (HA.out.below hb).cell b o rfl k hlt
      have hsn := hexL_snoc l k hlt
      have hlen : (hexL (l.take k)).length ≤ 200000000 := by rw [hexL_length]; have := List.length_take_le k l; omega
      obtain ⟨c, hcc⟩ : ∃ c, l[k] = c := ⟨_, rfl⟩
      rw [hcc] at hc hsn
      clear hcc
      obtain ⟨E, hE⟩ : ∃ E, hexL (l.take k) = E := ⟨_, rfl⟩
      rw [hE] at hsn hlen hB
      have HSN := Lib.hid hsn
      have hct := c.toNat_lt
      have S1 := Lib.hid (spell_any (c.toNat / 16) (by omega))
      have S2 := Lib.hid (spell_any (c.toNat % 16) (by omega))
      have W1 := WriteByte_any w.heap.size w.heap.size E (spl (c.toNat / 16)) wr hB hb.size (by omega)
      have W2 := Lib.hid (fun w' h1 h2 => WriteByte_any w.heap.size w.heap.size (E ++ [spl (c.toNat / 16)]) (spl (c.toNat % 16)) w' h1 h2 (by simp; omega))
      have q1 : (c.toNat : Int) / 16 = ((c.toNat / 16 : Nat) : Int) := by omega
      have q2 : (c.toNat : Int) % 16 = ((c.toNat % 16 : Nat) : Int) := by omega
      rw [← q1] at S1
      rw [← q2] at S2
      have HW1 := Lib.hid W1
      clear hE hsn W1 q1 q2
      go_wp2_with fail
      refine (S1.out _).mono ?_
      rintro e w' ⟨rfl, rfl⟩
      go_wp2_with fail
      refine HW1.out.mono ?_
      rintro e w2 ⟨rfl, hB2, hb2⟩
      have hb2' := hb.trans hb2
      have HW2 := Lib.hid (W2.out w2 hB2 hb2'.size)
      clear hB2 HW1 W2 hc hB
      go_wp2_with fail
      refine (S2.out _).mono ?_
      rintro e w' ⟨rfl, rfl⟩
      go_wp2_with fail
      refine HW2.out.mono ?_
      rintro e w3 ⟨rfl, hB3, hb3⟩
      rw [← HSN.out] at hB3
      have hb3' := hb2'.trans hb3
      clear HW2
      go_wp2_with fail
      go_roundw
      case rel => exact ⟨k + 1, by omega, by go_num, hB3, hb3'⟩
      case measure => simp [intOf]; omega
    · have hkl : l.take k = l := List.take_of_length_le (by omega)
      rw [hkl] at hB
      clear hkl
      go_wp2_with (go_at_call 42; refine (String_any _ _ _ _ hB hb.size).mono ?_; rintro e w2 ⟨rfl, hb2⟩)
      go_ret
      exact ⟨rfl, hb.trans hb2⟩
end Go.Proofs.Ytcfcdnoebgdfeaa

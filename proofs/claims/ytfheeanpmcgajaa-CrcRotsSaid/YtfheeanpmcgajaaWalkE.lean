/- Contracts of the reference More and Sum, and of crc.Sum, crc.More and crc.Holds, for any bytes that lie in memory. -/
import Derived.Test.YtfheeanpmcgajaaWalkD
namespace Go.Proofs.Ytfheeanpmcgajaa
open Go.RowKit CrcM

/-- bytes lie behind an address -/
structure Bs (w : World) (a : Option Addr) (l : List UInt8) : Prop where
  addr : l ≠ [] → ∃ b o, a = some ⟨b, o, none⟩
  cell : ∀ b o, a = some ⟨b, o, none⟩ → ∀ i (h : i < l.length), w.cell? ⟨b, o + i, none⟩ = some (.int .u8 (l[i].toNat : Int))
theorem Bs.below {w w' : World} {a : Option Addr} {l : List UInt8} (h : Bs w a l) (hb : Below w.heap.size w w') : Bs w' a l :=
  ⟨h.addr, fun b o e i hi => Below.cellSome hb (h.cell b o e i hi)⟩
theorem Bs.ex {w : World} {a : Option Addr} {l : List UInt8} (h : Bs w a l) {k : Nat} (hk : k < l.length) : ∃ b o, a = some ⟨b, o, none⟩ :=
  h.addr (by intro e; rw [e] at hk; simp at hk)
/-- lists of bytes lie behind an address -/
structure BBs (w : World) (a : Option Addr) (L : List (List UInt8)) : Prop where
  addr : L ≠ [] → ∃ b o, a = some ⟨b, o, none⟩
  cell : ∀ b o, a = some ⟨b, o, none⟩ → ∀ i (h : i < L.length), ∃ ai ci, w.cell? ⟨b, o + i, none⟩ = some (.slice ai (L[i]).length ci) ∧ Bs w ai (L[i]) ∧ (L[i]).length ≤ 9223372036854775807
theorem BBs.below {w w' : World} {a : Option Addr} {L : List (List UInt8)} (h : BBs w a L) (hb : Below w.heap.size w w') : BBs w' a L :=
  ⟨h.addr, fun b o e i hi => let ⟨ai, ci, h1, h2, h3⟩ := h.cell b o e i hi; ⟨ai, ci, Below.cellSome hb h1, h2.below hb, h3⟩⟩
theorem BBs.ex {w : World} {a : Option Addr} {l : List (List UInt8)} (h : BBs w a l) {k : Nat} (hk : k < l.length) : ∃ b o, a = some ⟨b, o, none⟩ :=
  h.addr (by intro e; rw [e] at hk; simp at hk)
theorem emb_lit (c : UInt8) : (c.toNat : Int) = c32 (emb c) := by
  unfold emb; have := c.toNat_lt; rw [← c32_lit _ (by omega)]
theorem xor_byte (r : W) (c : UInt8) : bits .xor .u32 (c32 r) (c.toNat : Int) = c32 (r ^^^ emb c) := by
  rw [emb_lit]; exact c32_xor _ _
theorem take_snoc {α : Type} (l : List α) (k : Nat) (h : k < l.length) : l.take (k + 1) = l.take k ++ [l[k]] := by
  rw [List.take_succ_eq_append_getElem h]
theorem R_snoc (r : W) (l : List UInt8) (c : UInt8) : R r (l ++ [c]) = S (R r l ^^^ emb c) := by
  rw [R_append]; rfl
theorem xor_ones (r : W) : bits .xor .u32 (c32 r) 4294967295 = c32 (r ^^^ ones) := c32_xor r ones

set_option maxHeartbeats 400000 in
theorem refMore_any (s : W) (a : Option Addr) (cap : Nat) (l : List UInt8) (w : World) (h : Bs w a l) (hlen : l.length ≤ 9223372036854775807) :
    Calls Try.prog 13 #[.int .u32 (c32 s), .slice a l.length cap] w fun e w' => e = .returned (.int .u32 (c32 (more s l))) ∧ w = w' := by
  have hx0 := xor_ones s
  go_enter Try.func13, Try.ntmps13
  go_wp2
  go_loop [5, 6] (fun r i => ∃ (k : Nat) (y : W), k ≤ l.length ∧ i = .int .i64 k ∧ r = .int .u32 (c32 y) ∧ Hid (y = R (s ^^^ ones) (l.take k))) (fun _ i => l.length - (intOf i).toNat)
  case atStart => exact ⟨0, s ^^^ ones, by omega, rfl, rfl, by simp [Hid, R_nil]⟩
  case round =>
    obtain ⟨k, y, hk, rfl, rfl, HY⟩ := hrel
    by_cases hlt : k < l.length
    · obtain ⟨b, o, rfl⟩ := h.ex hlt
      have hc := h.cell b o rfl k hlt
      have hts := Lib.hid (take_snoc l k hlt)
      obtain ⟨c, hcc⟩ : ∃ c, l[k] = c := ⟨_, rfl⟩
      rw [hcc] at hc hts
      have HC := Lib.hid hcc; clear hcc
      have hx := xor_byte y c
      have hcb : 0 ≤ (c.toNat : Int) ∧ (c.toNat : Int) ≤ 255 := by have := c.toNat_lt; omega
      go_wp2_with (go_at_call 19; refine (step_any _ _).mono ?_; rintro e w' ⟨rfl, rfl⟩)
      go_round
      case rel => exact ⟨k + 1, S (y ^^^ emb c), by omega, by go_num, rfl, by rw [Hid, hts.out, R_snoc, HY.out]⟩
      case measure => simp [intOf]; omega
    · have hx := xor_ones y
      go_wp2
      go_ret
      refine ⟨ret_int ?_, rfl⟩
      rw [HY.out, List.take_of_length_le (by omega)]; rfl
theorem refSum_any (a : Option Addr) (cap : Nat) (l : List UInt8) (w : World) (h : Bs w a l) (hlen : l.length ≤ 9223372036854775807) :
    Calls Try.prog 8 #[.slice a l.length cap] w fun e w' => e = .returned (.int .u32 (c32 (sum l))) ∧ w = w' := by
  go_enter Try.func8, Try.ntmps8
  go_wp2_with (go_at_call 13; refine (refMore_any 0#32 _ _ _ _ h hlen).mono ?_; rintro e w' ⟨rfl, rfl⟩)
  go_ret
  exact ⟨rfl, rfl⟩

theorem xor_u8_nat (a b : Nat) (ha : a < 256) (hb : b < 256) : bits .xor .u8 (a : Int) (b : Int) = ((a ^^^ b : Nat) : Int) := by
  have hx : a ^^^ b < 2 ^ 8 := Nat.xor_lt_two_pow (by omega) (by omega)
  have h1 : (BitVec.ofInt 8 (a : Int)).toNat = a := by
    rw [BitVec.ofInt_natCast, BitVec.toNat_ofNat]; exact Nat.mod_eq_of_lt (by omega)
  have h2 : (BitVec.ofInt 8 (b : Int)).toNat = b := by
    rw [BitVec.ofInt_natCast, BitVec.toNat_ofNat]; exact Nat.mod_eq_of_lt (by omega)
  show IntKind.u8.wrap ((BitVec.ofInt 8 (a : Int) ^^^ BitVec.ofInt 8 (b : Int)).toNat : Int) = _
  rw [BitVec.toNat_xor, h1, h2, IntKind.wrap_u8]
  omega
theorem xor_low (r : W) (c : UInt8) : bits .xor .u8 (c32 r % 256) (c.toNat : Int) = ((((r &&& 0xff#32) ^^^ emb c).toNat : Nat) : Int) := by
  have hr : c32 r % 256 = (((r &&& 0xff#32).toNat : Nat) : Int) := by
    unfold c32
    rw [BitVec.toNat_and]
    show ((r.toNat : Int)) % 256 = ((r.toNat &&& 255 : Nat) : Int)
    rw [show (255 : Nat) = 2 ^ 8 - 1 from rfl, Nat.and_two_pow_sub_one_eq_mod]
    omega
  have h1 : (r &&& 0xff#32).toNat < 256 := by have := c32_lt r; omega
  have h2 : c.toNat < 256 := c.toNat_lt
  have h3 : (emb c).toNat = c.toNat := by unfold emb; rw [BitVec.toNat_ofNat, Nat.mod_eq_of_lt (by omega)]
  rw [hr, BitVec.toNat_xor, h3]
  exact xor_u8_nat _ _ h1 h2
theorem low_lt (r : W) (c : UInt8) : ((r &&& 0xff#32) ^^^ emb c).toNat < 256 := by
  have h : c.toNat < 256 := c.toNat_lt
  have h1 : (r &&& 0xff#32).toNat < 256 := by
    rw [BitVec.toNat_and]
    show r.toNat &&& 255 < 256
    rw [show (255 : Nat) = 2 ^ 8 - 1 from rfl, Nat.and_two_pow_sub_one_eq_mod]
    omega
  have h3 : (emb c).toNat = c.toNat := by unfold emb; rw [BitVec.toNat_ofNat, Nat.mod_eq_of_lt (by omega)]
  rw [BitVec.toNat_xor, h3]
  exact Nat.xor_lt_two_pow (n := 8) (by omega) (by omega)
theorem upd_int (r : W) (c : UInt8) : bits .xor .u32 (c32 (r >>> 8)) (c32 (S (BitVec.ofNat 32 ((r &&& 0xff#32) ^^^ emb c).toNat))) = c32 (S (r ^^^ emb c)) := by
  rw [c32_xor, BitVec.ofNat_toNat, BitVec.setWidth_eq, upd]
theorem c32_shr8 (a : W) : c32 a / (256 : Int) = c32 (a >>> 8) := c32_shr a 8
theorem flatten_take_snoc (L : List (List UInt8)) (k : Nat) (h : k < L.length) : (L.take (k + 1)).flatten = (L.take k).flatten ++ L[k] := by
  rw [take_snoc L k h, List.flatten_append, List.flatten_cons, List.flatten_nil, List.append_nil]
set_option maxHeartbeats 800000 in
theorem Sum_any (a : Option Addr) (cap : Nat) (L : List (List UInt8)) (w : World) (h : BBs w a L) (hlen : L.length ≤ 9223372036854775807) :
    Calls Try.prog 9 #[.slice a L.length cap] w fun e w' => e = .returned (.int .u32 (c32 (sum L.flatten))) ∧ Below w.heap.size w w' := by
  have hz := info38.1
  go_enter Try.func9, Try.ntmps9
  go_wp2_with fail
  refine (bytes_any w).mono ?_
  rintro e w' ⟨t, ht, rfl, rfl⟩
  have hi38 : (Try.prog.info? 38).map (·.size) = some t.size := by rw [ht.size, info38.2]
  go_wp2_with (refine wpList_store_row rfl 38 _ _ rfl (w.heap.size + 1) t rfl rfl 38 zt (heap_alloc2_new _ _ _) hi38 (by rw [ht.size, zt_size]) ht.one ?_)
  obtain ⟨W0, hW0⟩ : ∃ W0, W0 = ((w.alloc (.cells t 38)).alloc (.cells zt 38)).setRow (w.heap.size + 1) t := ⟨_, rfl⟩
  have hT : W0.heap[w.heap.size + 1]? = some (.cells t 38 (0, 0)) := by rw [hW0]; exact setRow_heap _ _ _ _ _ _ (heap_alloc2_new _ _ _)
  have hbel : Below w.heap.size w W0 := by
    rw [hW0]; exact below_setRow ((below_alloc _ _).alloc (by simp) _) (by omega) _
  rw [← hW0]
  have h' := h.below hbel
  clear hW0 hi38 hz h
  go_loop [4, 13] (fun r i => ∃ (k : Nat) (y : W), k ≤ L.length ∧ i = .int .i64 k ∧ r = .int .u32 (c32 y) ∧ Hid (y = R ones (L.take k).flatten)) (fun _ i => L.length - (intOf i).toNat)
  case atStart => exact ⟨0, ones, by omega, rfl, rfl, by simp [Hid, R_nil]⟩
  case round =>
    obtain ⟨k, y, hk, rfl, rfl, HY⟩ := hrel
    by_cases hlt : k < L.length
    · obtain ⟨b, o, rfl⟩ := h'.ex hlt
      obtain ⟨ai, ci, hc, hp, hpl⟩ := h'.cell b o rfl k hlt
      have hts := Lib.hid (flatten_take_snoc L k hlt)
      obtain ⟨l, hcc⟩ : ∃ l, L[k] = l := ⟨_, rfl⟩
      rw [hcc] at hc hp hpl hts
      have HC := Lib.hid hcc; clear hcc
      have hd : decide ((k : Int) < (L.length : Int)) = true := by simp; omega
      go_wp2
      go_loop [4, 19] (fun r i => ∃ (j : Nat) (z : W), j ≤ l.length ∧ i = .int .i64 j ∧ r = .int .u32 (c32 z) ∧ Hid (z = R y (l.take j))) (fun _ i => l.length - (intOf i).toNat)
      case atStart => exact ⟨0, y, by omega, rfl, rfl, by simp [Hid, R_nil]⟩
      case round =>
        clear hc
        obtain ⟨j, z, hj, rfl, rfl, HZ⟩ := hrel
        by_cases hjl : j < l.length
        · obtain ⟨b2, o2, rfl⟩ := hp.ex hjl
          have hc2 := hp.cell b2 o2 rfl j hjl
          have hts2 := Lib.hid (take_snoc l j hjl)
          obtain ⟨c, hcc⟩ : ∃ c, l[j] = c := ⟨_, rfl⟩
          rw [hcc] at hc2 hts2
          have HC2 := Lib.hid hcc; clear hcc
          have hcb : 0 ≤ (c.toNat : Int) ∧ (c.toNat : Int) ≤ 255 := by have := c.toNat_lt; omega
          have hzb := c32_lt z
          have hidx := low_lt z c
          have hlow := xor_low z c
          have hsh := c32_shr8 z
          have hup := upd_int z c
          have htc := (cell_of_row W0 (w.heap.size + 1) ((z &&& 0xff#32) ^^^ emb c).toNat t 38 (0, 0) hT).trans (ht.at_ _ hidx)
          obtain ⟨x, hx⟩ : ∃ x, ((z &&& 0xff#32) ^^^ emb c).toNat = x := ⟨_, rfl⟩
          rw [hx] at hidx hlow hup htc
          clear hx
          go_wp2
          go_round
          case rel => exact ⟨j + 1, S (z ^^^ emb c), by omega, by go_num, rfl, by rw [Hid, hts2.out, R_snoc, HZ.out]⟩
          case measure => simp [intOf]; omega
        · go_wp2
          go_round
          case rel => exact ⟨k + 1, z, by omega, by go_num, rfl, by rw [Hid, hts.out, R_append, ← HY.out, HZ.out, List.take_of_length_le (by omega)]⟩
          case measure => simp [intOf]; omega
    · have hx := c32_not y
      go_wp2
      go_ret
      refine ⟨ret_int ?_, hbel⟩
      rw [HY.out, List.take_of_length_le (by omega)]; rfl
/-- one piece -/
theorem BBs_one {w : World} {a : Option Addr} {cap : Nat} {l : List UInt8} (h : Bs w a l) (hlen : l.length ≤ 9223372036854775807) :
    BBs (w.alloc (.cells #[.slice a l.length cap] 22)) (some ⟨w.heap.size, 0, none⟩) [l] :=
  ⟨fun _ => ⟨_, _, rfl⟩, fun b o e i hi => by
    obtain ⟨rfl, rfl, _⟩ := e
    obtain rfl : i = 0 := by simp at hi; omega
    exact ⟨a, cap, by rw [cell_of_row _ _ _ _ _ _ (heap_alloc_new _ _)]; rfl, h.below (below_alloc _ _), hlen⟩⟩
theorem Sum_one (x : Option Addr) (cap : Nat) (l : List UInt8) (w : World) (h : BBs w x [l]) :
    Calls Try.prog 9 #[.slice x 1 cap] w fun e w' => e = .returned (.int .u32 (c32 (sum l))) ∧ Below w.heap.size w w' := by
  have := Sum_any x cap [l] w h (by simp)
  simpa using this
theorem c32_beq (a b : W) : (c32 a == c32 b) = decide (a = b) := by
  by_cases h : a = b
  · simp [h]
  · simp only [h, decide_false, beq_eq_false_iff_ne]
    intro e; exact h (c32_inj e)
theorem Holds_any (a : Option Addr) (cap : Nat) (l : List UInt8) (s : W) (w : World) (h : Bs w a l) (hlen : l.length ≤ 9223372036854775807) :
    Calls Try.prog 10 #[.slice a l.length cap, .int .u32 (c32 s)] w fun e w' => e = .returned (.bool (decide (s = sum l))) ∧ Below w.heap.size w w' := by
  have hb := BBs_one (cap := cap) h hlen
  have he := c32_beq s (sum l)
  go_enter Try.func10, Try.ntmps10
  go_wp2_with (go_at_call 9; refine (Sum_one _ _ _ _ hb).mono ?_; rintro e w1 ⟨rfl, hb1⟩)
  go_ret
  exact ⟨rfl, (below_alloc _ _).trans (hb1.mono (by simp))⟩
theorem More_any (s : W) (a : Option Addr) (cap : Nat) (l : List UInt8) (w : World) (h : Bs w a l) (hlen : l.length ≤ 9223372036854775807) :
    Calls Try.prog 12 #[.int .u32 (c32 s), .slice a l.length cap] w fun e w' => e = .returned (.int .u32 (c32 (more s l))) ∧ Below w.heap.size w w' := by
  have hb := BBs_one (cap := cap) h hlen
  go_enter Try.func12, Try.ntmps12
  go_wp2_with (first | (go_at_call 9; refine (Sum_one _ _ _ _ hb).mono ?_; rintro e w1 ⟨rfl, hb1⟩) | (go_at_call 11; refine (Join_any _ _ _ (by omega) _).mono ?_; rintro e w2 ⟨rfl, rfl⟩))
  go_ret
  refine ⟨ret_int ?_, (below_alloc _ _).trans (hb1.mono (by simp))⟩
  rw [more_join]; rfl
end Go.Proofs.Ytfheeanpmcgajaa

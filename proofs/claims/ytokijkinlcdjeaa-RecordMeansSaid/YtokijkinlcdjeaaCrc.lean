/- Contract of crc.Sum. -/
import Derived.Test.YtokijkinlcdjeaaBase
import Derived.Test.YtokijkinlcdjeaaCMath
namespace Go.Proofs.Ytokijkinlcdjeaa
open Go.RowKit CrcM
def c32 (p : W) : Int := (p.toNat : Int)
theorem c32_lt (p : W) : 0 ≤ c32 p ∧ c32 p < 4294967296 := by
  unfold c32; have := p.isLt; omega
theorem ofInt_c32 (p : W) : BitVec.ofInt 32 (c32 p) = p := by
  unfold c32
  rw [BitVec.ofInt_natCast, BitVec.ofNat_toNat, BitVec.setWidth_eq]
theorem wrap_c32 (p : W) : IntKind.u32.wrap (c32 p) = c32 p := by
  have := c32_lt p
  rw [IntKind.wrap_u32]; omega
theorem c32_and (a b : W) : bits .and .u32 (c32 a) (c32 b) = c32 (a &&& b) := by
  show IntKind.u32.wrap (((BitVec.ofInt 32 (c32 a) &&& BitVec.ofInt 32 (c32 b)).toNat : Nat) : Int) = _
  rw [ofInt_c32, ofInt_c32]; exact wrap_c32 _
theorem c32_xor (a b : W) : bits .xor .u32 (c32 a) (c32 b) = c32 (a ^^^ b) := by
  show IntKind.u32.wrap (((BitVec.ofInt 32 (c32 a) ^^^ BitVec.ofInt 32 (c32 b)).toNat : Nat) : Int) = _
  rw [ofInt_c32, ofInt_c32]; exact wrap_c32 _
theorem c32_shr (a : W) (k : Nat) : c32 a / ((2 ^ k : Nat) : Int) = c32 (a >>> k) := by
  unfold c32
  rw [BitVec.toNat_ushiftRight, Nat.shiftRight_eq_div_pow]
  omega
theorem c32_half (a : W) : c32 a / (2 : Int) = c32 (a >>> 1) := c32_shr a 1
theorem c32_lit (n : Nat) (h : n < 4294967296) : (n : Int) = c32 (BitVec.ofNat 32 n) := by
  unfold c32; rw [BitVec.toNat_ofNat, Nat.mod_eq_of_lt (by omega)]
theorem c32_inj {a b : W} (h : c32 a = c32 b) : a = b := by
  unfold c32 at h; apply BitVec.eq_of_toNat_eq; omega
theorem and_one (p : W) : c32 (p &&& 1#32) = if p.getLsbD 0 then 1 else 0 := by
  unfold c32
  have : (p &&& 1#32).toNat = p.toNat % 2 := by
    rw [BitVec.toNat_and]; show p.toNat &&& 1 = _; exact Nat.and_one_is_mod _
  rw [this]
  have e : p.getLsbD 0 = decide (p.toNat % 2 = 1) := by
    show p.toNat.testBit 0 = _
    simp [Nat.testBit_zero]
  rw [e]
  rcases Nat.mod_two_eq_zero_or_one p.toNat with h | h <;> simp [h]
theorem low_bit (p : W) : bits .and .u32 (c32 p) 1 = if p.getLsbD 0 then 1 else 0 := by
  rw [← and_one, ← c32_and]; rfl
theorem byX_one (p : W) (h : (bits .and .u32 (c32 p) 1 == 1) = true) : bits .xor .u32 (c32 p / 2) 2197175160 = c32 (L p) := by
  rw [low_bit] at h
  have h2 : p.getLsbD 0 = true := by
    cases hp : p.getLsbD 0
    · rw [hp] at h; simp at h
    · rfl
  rw [c32_half]
  refine (c32_xor (p >>> 1) 2197175160#32).trans ?_
  unfold L; rw [h2]; rfl
theorem byX_none (p : W) (h : (bits .and .u32 (c32 p) 1 == 1) = false) : c32 p / 2 = c32 (L p) := by
  rw [low_bit] at h
  have h2 : p.getLsbD 0 = false := by
    cases hp : p.getLsbD 0
    · rfl
    · rw [hp] at h; simp at h
  rw [c32_half, L_of_even p h2]
theorem ret_int {k : IntKind} {a b : Int} (h : a = b) : Ending.returned (.int k a) = .returned (.int k b) := by rw [h]
theorem byX_any (p : W) (w : World) :
    Calls Try.prog 51 #[.int .u32 (c32 p)] w fun e w' => e = .returned (.int .u32 (c32 (L p))) ∧ w = w' := by
  have hb := c32_lt p
  go_enter Try.func51, Try.ntmps51
  go_wp2
  · go_ret
    exact ⟨ret_int (byX_one p (by assumption)), rfl⟩
  · go_ret
    exact ⟨ret_int (byX_none p (by assumption)), rfl⟩
def zt : Array Value := Array.replicate 256 (.int .u32 0)
theorem info38' : (Try.prog.info? 78).map (fun i => (i.zero, i.size)) = some (some (.agg zt), 256) := by kernel_rfl
theorem info38 : (∀ w, (zeroValue 78).run Try.prog w = .ok (.agg zt) w) ∧ (Try.prog.info? 78).map (·.size) = some 256 := zero_of_info info38'
theorem zt_size : zt.size = 256 := by simp [zt]
/-- the first k places of the table are right -/
structure Tab (t : Array Value) (k : Nat) : Prop where
  size : t.size = 256
  at_ : ∀ j, j < k → t[j]? = some (.int .u32 (c32 (S (BitVec.ofNat 32 j))))
theorem Tab.one {t : Array Value} (h : Tab t 256) : t.all (·.oneCell') = true := by
  rw [Array.all_eq_true]
  intro i hi
  have := h.at_ i (by rw [← h.size]; exact hi)
  rw [Array.getElem?_eq_getElem hi] at this
  rw [Option.some.inj this]; rfl
/-- .. and the next one behind m steps -/
structure Tab2 (t : Array Value) (k m : Nat) : Prop where
  tab : Tab t k
  now : t[k]? = some (.int .u32 (c32 (Lk m (BitVec.ofNat 32 k))))
theorem tab_set {t : Array Value} {k : Nat} (h : Tab t k) (v : Value) : Tab (t.setIfInBounds k v) k :=
  ⟨by simp [h.size], fun j hj => by rw [Array.getElem?_setIfInBounds_ne (by omega)]; exact h.at_ j hj⟩
theorem tab2_start {t : Array Value} {k : Nat} (h : Tab t k) (hk : k < 256) : Tab2 (t.setIfInBounds k (.int .u32 (k : Int))) k 0 :=
  ⟨tab_set h _, by rw [Array.getElem?_setIfInBounds_self_of_lt (by rw [h.size]; exact hk)]; rw [c32_lit k (by omega)]; rfl⟩
theorem tab2_step {t : Array Value} {k m : Nat} (h : Tab2 t k m) (hk : k < 256) : Tab2 (t.setIfInBounds k (.int .u32 (c32 (L (Lk m (BitVec.ofNat 32 k)))))) k (m + 1) :=
  ⟨tab_set h.tab _, by rw [Array.getElem?_setIfInBounds_self_of_lt (by rw [h.tab.size]; exact hk), Lk_succ']⟩
theorem tab2_end {t : Array Value} {k : Nat} (h : Tab2 t k 8) : Tab t (k + 1) :=
  ⟨h.tab.size, fun j hj => by
    by_cases e : j = k
    · subst e; exact h.now
    · exact h.tab.at_ j (by omega)⟩
set_option maxHeartbeats 400000 in
set_option maxRecDepth 100000 in
theorem bytes_any (w : World) :
    Calls Try.prog 47 #[] w fun e w' => ∃ t : Array Value, Tab t 256 ∧ e = .returned (.agg t) ∧ w' = w.alloc (.cells t 78) := by
  have hz := info38.1
  go_enter Try.func47, Try.ntmps47
  go_wp2
  go_loopw [2] (fun i wr => ∃ (k : Nat) (t : Array Value), k ≤ 256 ∧ i = .int .i64 k ∧ wr = w.alloc (.cells t 78) ∧ Tab t k) (fun i _ => 256 - (intOf i).toNat)
  case atStart => exact ⟨0, zt, by omega, rfl, rfl, ⟨zt_size, fun j hj => by omega⟩⟩
  case round =>
    obtain ⟨k, t, hk, rfl, rfl, ht⟩ := hrel
    by_cases hlt : k < 256
    · obtain ⟨v0, hv0⟩ : ∃ v, t[k]? = some v := ⟨_, Array.getElem?_eq_getElem (by rw [ht.size]; exact hlt)⟩
      have hd : decide ((k : Int) < 256) = true := by simp; omega
      go_wp2
      go_loopw [9] (fun m wr => ∃ (j : Nat) (t : Array Value), j ≤ 8 ∧ m = .int .i64 j ∧ wr = w.alloc (.cells t 78) ∧ Tab2 t k j) (fun m _ => 8 - (intOf m).toNat)
      case atStart => exact ⟨0, _, by omega, rfl, rfl, tab2_start ht hlt⟩
      case round =>
        obtain ⟨j, t2, hj, rfl, rfl, ht2⟩ := hrel
        clear ht hv0 hz
        by_cases hj8 : j < 8
        · have hnow := ht2.now
          go_wp2_with (go_at_call 51; refine (byX_any _ _).mono ?_; rintro e w' ⟨rfl, rfl⟩)
          go_roundw
          case rel => exact ⟨j + 1, _, by omega, by go_num, rfl, tab2_step ht2 hlt⟩
          case measure => simp [intOf]; omega
        · go_wp2
          go_roundw
          case rel =>
            obtain rfl : j = 8 := by omega
            exact ⟨k + 1, _, by omega, by go_num, rfl, tab2_end ht2⟩
          case measure => simp [intOf]; omega
    · obtain rfl : k = 256 := by omega
      clear hz
      go_wp2_with (first | refine wpList_load_row rfl 78 _ rfl w.heap.size rfl 78 t (0, 0) _ (heap_alloc_last w _) Try.underlying78 rfl (by rw [ht.size, info38.2]) ?_ | refine wpList_store_row rfl 78 _ _ rfl w.heap.size t rfl rfl 78 t (heap_alloc_last w _) (by rw [ht.size, info38.2]) rfl ht.one ?_)
      rw [World.setRow_alloc_new]
      go_wp2
      refine bodyPost_ret (results_cell_row rfl _ _ w.heap.size 78 t (0, 0) _ rfl (heap_alloc_last w _) Try.underlying78 rfl (by rw [ht.size, info38.2])) rfl ⟨t, ht, rfl, rfl⟩
theorem c32_not (a : W) : bits .xor .u32 IntKind.u32.max (c32 a) = c32 (a ^^^ ones) := by
  rw [BitVec.xor_comm]; exact c32_xor ones a
theorem emb_lit (c : UInt8) : (c.toNat : Int) = c32 (emb c) := by
  unfold emb; have := c.toNat_lt; rw [← c32_lit _ (by omega)]
theorem xor_byte (r : W) (c : UInt8) : bits .xor .u32 (c32 r) (c.toNat : Int) = c32 (r ^^^ emb c) := by
  rw [emb_lit]; exact c32_xor _ _
theorem R_snoc (r : W) (l : List UInt8) (c : UInt8) : R r (l ++ [c]) = S (R r l ^^^ emb c) := by
  rw [R_append]; rfl
theorem xor_ones (r : W) : bits .xor .u32 (c32 r) 4294967295 = c32 (r ^^^ ones) := c32_xor r ones
theorem xor_low (r : W) (c : UInt8) : bits .xor .u8 (c32 r % 256) (c.toNat : Int) = ((((r &&& 0xff#32) ^^^ emb c).toNat : Nat) : Int) := by
  have hr : c32 r % 256 = (((r &&& 0xff#32).toNat : Nat) : Int) := by
    unfold c32
    rw [BitVec.toNat_and]
    show ((r.toNat : Int)) % 256 = ((r.toNat &&& 255 : Nat) : Int)
    rw [show (255 : Nat) = 2 ^ 8 - 1 from rfl, Nat.and_two_pow_sub_one_eq_mod]
    omega
  have h1 : (r &&& 0xff#32).toNat < 256 := by have := c32_lt r; omega
  have h2 : c.toNat < 256 := c.toNat_lt
  have h3 : (emb c).toNat = c.toNat := by unfold emb; rw [BitVec.toNat_ofNat, Nat.mod_eq_of_lt (by omega)]
  rw [hr, BitVec.toNat_xor, h3]
  exact xor_u8_nat _ _ h1 h2
theorem low_lt (r : W) (c : UInt8) : ((r &&& 0xff#32) ^^^ emb c).toNat < 256 := by
  have h : c.toNat < 256 := c.toNat_lt
  have h1 : (r &&& 0xff#32).toNat < 256 := by
    rw [BitVec.toNat_and]
    show r.toNat &&& 255 < 256
    rw [show (255 : Nat) = 2 ^ 8 - 1 from rfl, Nat.and_two_pow_sub_one_eq_mod]
    omega
  have h3 : (emb c).toNat = c.toNat := by unfold emb; rw [BitVec.toNat_ofNat, Nat.mod_eq_of_lt (by omega)]
  rw [BitVec.toNat_xor, h3]
  exact Nat.xor_lt_two_pow (n := 8) (by omega) (by omega)
theorem upd_int (r : W) (c : UInt8) : bits .xor .u32 (c32 (r >>> 8)) (c32 (S (BitVec.ofNat 32 ((r &&& 0xff#32) ^^^ emb c).toNat))) = c32 (S (r ^^^ emb c)) := by
  rw [c32_xor, BitVec.ofNat_toNat, BitVec.setWidth_eq, upd]
theorem c32_shr8 (a : W) : c32 a / (256 : Int) = c32 (a >>> 8) := c32_shr a 8
set_option maxHeartbeats 800000 in
theorem Sum_any (a : Option Addr) (cap : Nat) (L : List (List UInt8)) (w : World) (h : BBs w a L) (hlen : L.length ≤ 9223372036854775807) :
    Calls Try.prog 27 #[.slice a L.length cap] w fun e w' => e = .returned (.int .u32 (c32 (sum L.flatten))) ∧ Below w.heap.size w w' := by
  have hz := info38.1
  go_enter Try.func27, Try.ntmps27
  go_wp2_with fail
  refine (bytes_any w).mono ?_
  rintro e w' ⟨t, ht, rfl, rfl⟩
  have hi38 : (Try.prog.info? 78).map (·.size) = some t.size := by rw [ht.size, info38.2]
  go_wp2_with (refine wpList_store_row rfl 78 _ _ rfl (w.heap.size + 1) t rfl rfl 78 zt (heap_alloc2_new _ _ _) hi38 (by rw [ht.size, zt_size]) ht.one ?_)
  obtain ⟨W0, hW0⟩ : ∃ W0, W0 = ((w.alloc (.cells t 78)).alloc (.cells zt 78)).setRow (w.heap.size + 1) t := ⟨_, rfl⟩
  have hT : W0.heap[w.heap.size + 1]? = some (.cells t 78 (0, 0)) := by rw [hW0]; exact setRow_heap _ _ _ _ _ _ (heap_alloc2_new _ _ _)
  have hbel : Below w.heap.size w W0 := by
    rw [hW0]; exact below_setRow ((below_alloc _ _).alloc (by simp) _) (by omega) _
  rw [← hW0]
  have h' := h.below hbel
  clear hW0 hi38 hz h
  go_loop [4, 13] (fun r i => ∃ (k : Nat) (y : W), k ≤ L.length ∧ i = .int .i64 k ∧ r = .int .u32 (c32 y) ∧ Hid (y = R ones (L.take k).flatten)) (fun _ i => L.length - (intOf i).toNat)
  case atStart => exact ⟨0, ones, by omega, rfl, rfl, by simp [Hid, R_nil]⟩
  case round =>
    obtain ⟨k, y, hk, rfl, rfl, HY⟩ := hrel
    by_cases hlt : k < L.length
    · obtain ⟨b, o, rfl⟩ := h'.ex hlt
      obtain ⟨ai, ci, hc, hp, hpl, _⟩ := h'.cell b o rfl k hlt
      have hts := Lib.hid (flatten_take_snoc L k hlt)
      obtain ⟨l, hcc⟩ : ∃ l, L[k] = l := ⟨_, rfl⟩
      rw [hcc] at hc hp hpl hts
      have HC := Lib.hid hcc; clear hcc
      have hd : decide ((k : Int) < (L.length : Int)) = true := by simp; omega
      go_wp2
      go_loop [4, 19] (fun r i => ∃ (j : Nat) (z : W), j ≤ l.length ∧ i = .int .i64 j ∧ r = .int .u32 (c32 z) ∧ Hid (z = R y (l.take j))) (fun _ i => l.length - (intOf i).toNat)
      case atStart => exact ⟨0, y, by omega, rfl, rfl, by simp [Hid, R_nil]⟩
      case round =>
        clear hc
        obtain ⟨j, z, hj, rfl, rfl, HZ⟩ := hrel
        by_cases hjl : j < l.length
        · obtain ⟨b2, o2, rfl⟩ := hp.ex hjl
          have hc2 := hp.cell b2 o2 rfl j hjl
          have hts2 := Lib.hid (take_snoc l j hjl)
          obtain ⟨c, hcc⟩ : ∃ c, l[j] = c := ⟨_, rfl⟩
          rw [hcc] at hc2 hts2
          have HC2 := Lib.hid hcc; clear hcc
          have hcb : 0 ≤ (c.toNat : Int) ∧ (c.toNat : Int) ≤ 255 := by have := c.toNat_lt; omega
          have hzb := c32_lt z
          have hidx := low_lt z c
          have hlow := xor_low z c
          have hsh := c32_shr8 z
          have hup := upd_int z c
          have htc := (cell_of_row W0 (w.heap.size + 1) ((z &&& 0xff#32) ^^^ emb c).toNat t 78 (0, 0) hT).trans (ht.at_ _ hidx)
          obtain ⟨x, hx⟩ : ∃ x, ((z &&& 0xff#32) ^^^ emb c).toNat = x := ⟨_, rfl⟩
          rw [hx] at hidx hlow hup htc
          clear hx
          go_wp2
          go_round
          case rel => exact ⟨j + 1, S (z ^^^ emb c), by omega, by go_num, rfl, by rw [Hid, hts2.out, R_snoc, HZ.out]⟩
          case measure => simp [intOf]; omega
        · go_wp2
          go_round
          case rel => exact ⟨k + 1, z, by omega, by go_num, rfl, by rw [Hid, hts.out, R_append, ← HY.out, HZ.out, List.take_of_length_le (by omega)]⟩
          case measure => simp [intOf]; omega
    · have hx := c32_not y
      go_wp2
      go_ret
      refine ⟨ret_int ?_, hbel⟩
      rw [HY.out, List.take_of_length_le (by omega)]; rfl
theorem c32_beq (a b : W) : (c32 a == c32 b) = decide (a = b) := by
  by_cases h : a = b
  · simp [h]
  · simp only [h, decide_false, beq_eq_false_iff_ne]
    intro e; exact h (c32_inj e)
end Go.Proofs.Ytokijkinlcdjeaa

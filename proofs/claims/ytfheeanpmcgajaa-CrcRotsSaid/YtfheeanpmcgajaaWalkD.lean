/- Contract of the reference Far, for any word and any number. -/
import Derived.Test.YtfheeanpmcgajaaWalkC
import Derived.Deep.MidRow
import Derived.Laws.CopyOwn
namespace Go.Proofs.Ytfheeanpmcgajaa
open Go.RowKit CrcM

/-- the row of a power -/
def Pow (m : Array Value) (p : Nat) : Prop := Row m (fun i => Lk (8 * p) (bit i)) 32
theorem through_pow (m : Array Value) (p : Nat) (hm : Pow m p) (x : W) (w : World) :
    Calls Try.prog 20 #[.agg m, .int .u32 (c32 x)] w fun e w' => e = .returned (.int .u32 (c32 (far p x))) ∧ w' = w.alloc (.cells m 42) := by
  have := through_any m _ hm x w
  rw [img_eq (Lk (8 * p)) (Lk_lin _)] at this
  exact this
def zr : Array Value := Array.replicate 32 (.int .u32 0)
theorem zr_size : zr.size = 32 := by simp [zr]
theorem info42' : (Try.prog.info? 42).map (fun i => (i.zero, i.size)) = some (some (.agg zr), 32) := by kernel_rfl
theorem info42 : (∀ w, (zeroValue 42).run Try.prog w = .ok (.agg zr) w) ∧ (Try.prog.info? 42).map (·.size) = some 32 := zero_of_info info42'
theorem Row.set {m : Array Value} {f : Nat → W} {k : Nat} (h : Row m f k) (hk : k < 32) : Row (m.setIfInBounds k (.int .u32 (c32 (f k)))) f (k + 1) :=
  ⟨by simp [h.size], fun i hi => by
    by_cases e : i = k
    · subst e; rw [Array.getElem?_setIfInBounds_self_of_lt (by rw [h.size]; exact hk)]
    · rw [Array.getElem?_setIfInBounds_ne (by omega)]; exact h.at_ i (by omega)⟩
theorem Row.one {m : Array Value} {f : Nat → W} (h : Row m f 32) : m.all (·.oneCell') = true := by
  rw [Array.all_eq_true]
  intro i hi
  have := h.at_ i (by rw [← h.size]; exact hi)
  rw [Array.getElem?_eq_getElem hi] at this
  rw [Option.some.inj this]; rfl
theorem shl_bit (k : Nat) (h : k < 32) : IntKind.u32.wrap (2 ^ k) = c32 (bit k) := by
  unfold c32
  rw [bit_toNat k h, IntKind.wrap_u32]
  have h1 : 2 ^ k < 2 ^ 32 := Nat.pow_lt_pow_right (by omega) h
  rw [show (2 : Nat) ^ 32 = 4294967296 from rfl] at h1
  have e : ((2 : Int) ^ k) = ((2 ^ k : Nat) : Int) := by rw [Int.natCast_pow]; rfl
  rw [e]
  generalize 2 ^ k = q at h1 ⊢
  omega
theorem range_of_heap {w : World} {b : Nat} {m : Array Value} {t : TypeId} {fr : Nat × Nat} (h : w.heap[b]? = some (.cells m t fr)) : w.rangeAt b 0 m.toList := fun j v hv => by
  rw [Nat.zero_add, cell_of_row w b j m t fr h]; simpa using hv
theorem range_below {w w' : World} {b o : Nat} {m : List Value} (h : w.rangeAt b o m) (hb : Below w.heap.size w w') : w'.rangeAt b o m := fun j v hv =>
  Below.cellSome hb (h j v hv)
theorem cell_setCell_other {w : World} {q k b o : Nat} {v : Value} (h : q ≠ b) : (w.setCell ⟨q, k, none⟩ v).cell? ⟨b, o, none⟩ = w.cell? ⟨b, o, none⟩ :=
  World.cell?_of_block (w := w) (Below.heap_setCell _ _ _ _ (show b ≠ q from fun e => h e.symm))
theorem range_setCell {w : World} {b o q k : Nat} {v : Value} {m : List Value} (h : w.rangeAt b o m) (hq : q ≠ b) : (w.setCell ⟨q, k, none⟩ v).rangeAt b o m := fun j x hj => by
  rw [cell_setCell_other hq]; exact h j x hj
set_option maxHeartbeats 800000 in
theorem Far_any (s : W) (n : Int) (hn : n ≤ 9223372036854775807) (w : World) :
    Calls Try.prog 15 #[.int .u32 (c32 s), .int .i64 n] w fun e w' => e = .returned (.int .u32 (c32 (farI n s))) ∧ Below w.heap.size w w' := by
  have hz := info42.1
  go_enter Try.func15, Try.ntmps15
  go_wp2
  go_loopw [6] (fun i wr => ∃ (k : Nat) (m : Array Value), k ≤ 32 ∧ i = .int .i64 k ∧ wr = w.alloc (.cells m 42) ∧ Row m (fun i => S (bit i)) k) (fun i _ => 32 - (intOf i).toNat)
  case atStart => exact ⟨0, zr, by omega, rfl, rfl, ⟨zr_size, fun j hj => by omega⟩⟩
  case round =>
    obtain ⟨k, m, hk, rfl, rfl, hm⟩ := hrel
    by_cases hlt : k < 32
    · obtain ⟨v0, hv0⟩ : ∃ v, m[k]? = some v := ⟨_, Array.getElem?_eq_getElem (by rw [hm.size]; exact hlt)⟩
      have hsh := shl_bit k hlt
      go_wp2_with (go_at_call 19; refine (step_any _ _).mono ?_; rintro e w' ⟨rfl, rfl⟩)
      go_roundw
      case rel => exact ⟨k + 1, _, by omega, by go_num, rfl, hm.set hlt⟩
      case measure => simp [intOf]; omega
    · have hp : Pow m 1 := by have hk32 : k = 32 := by omega
                              rw [hk32] at hm; exact hm
      have hdk : decide ((k : Int) < 32) = false := by simp; omega
      clear hm
      go_wp2
      clear hz
      go_loopw [0, 1] (fun r i wr => ∃ (p : Nat) (n' : Int) (y : W) (m : Array Value), n' ≤ 9223372036854775807 ∧ i = .int .i64 n' ∧ r = .int .u32 (c32 y) ∧ wr.heap[w.heap.size]? = some (.cells m 42 (0, 0)) ∧ Pow m p ∧ Below w.heap.size w wr ∧ Hid (far (p * n'.toNat) y = farI n s)) (fun _ i _ => (intOf i).toNat)
      case atStart => exact ⟨1, n, s, m, hn, rfl, rfl, heap_alloc_last w _, hp, (Below.refl _ _).alloc (Nat.le_refl _) _, by simp [Hid, farI]⟩
      case round =>
        clear hp m
        obtain ⟨p, n', y, m, hn', rfl, rfl, hB, hp, hbel, HZ⟩ := hrel
        have hsz := hbel.size
        have hlB : w.heap.size < wr.heap.size := lt_of_block hB
        have hz := info42.1
        by_cases h0 : 0 < n'
        · have hd0 : decide (0 < n') = true := by simp; omega
          have hq : 0 ≤ n' / 2 ∧ n' / 2 < n' := by omega
          by_cases h1 : n' % 2 = 1
          · have hb : (n' % 2 == 1) = true := by simp [h1]
            have HK := Lib.hid h1; clear h1
            go_wp2_with (first | refine wpList_load_row rfl 42 _ rfl w.heap.size rfl 42 m (0, 0) _ hB Try.underlying42 rfl (by rw [hp.size, info42.2]) ?_ | (go_at_call 20; refine (through_pow m p hp _ _).mono ?_; rintro e w' ⟨rfl, rfl⟩))
            have HQ : ((wr.alloc (.cells m 42)).alloc (.cells zr 42)).heap[wr.heap.size + 1]? = some (.cells zr 42 (0, 0)) := heap_alloc2_new _ _ _
            have HM : ((wr.alloc (.cells m 42)).alloc (.cells zr 42)).heap[w.heap.size]? = some (.cells m 42 (0, 0)) := by
              rw [Below.heap_alloc _ _ _ (by simp; omega), Below.heap_alloc _ _ _ hlB]; exact hB
            have HBEL : Below w.heap.size w ((wr.alloc (.cells m 42)).alloc (.cells zr 42)) := (hbel.alloc hsz _).alloc (by simp; omega) _
            obtain ⟨wo, rfl⟩ : ∃ wo : World, wo = wr := ⟨_, rfl⟩
            go_loopw [8] (fun i wi => ∃ (k : Nat) (q : Array Value), k ≤ 32 ∧ i = .int .i64 k ∧ wi.heap[wo.heap.size + 1]? = some (.cells q 42 (0, 0)) ∧ wi.heap[w.heap.size]? = some (.cells m 42 (0, 0)) ∧ Row q (fun i => far p (Lk (8 * p) (bit i))) k ∧ Below w.heap.size w wi) (fun i _ => 32 - (intOf i).toNat)
            case atStart => exact ⟨0, zr, by omega, rfl, HQ, HM, ⟨zr_size, fun j hj => by omega⟩, HBEL⟩
            case round =>
              clear hz hk hlt hdk
              obtain ⟨wi, rfl⟩ : ∃ wi : World, wi = wr := ⟨_, rfl⟩
              obtain ⟨k, q, hk, rfl, hQ, hM, hq', hbi⟩ := hrel
              obtain ⟨Q, HQe⟩ : ∃ Q, Q = wo.heap.size + 1 := ⟨_, rfl⟩
              by_cases hlt : k < 32
              · obtain ⟨v0, hv0⟩ : ∃ v, q[k]? = some v := ⟨_, Array.getElem?_eq_getElem (by rw [hq'.size]; exact hlt)⟩
                have hr := range_of_heap hM
                have hc1 : wi.cell? ⟨w.heap.size, k, none⟩ = some (.int .u32 (c32 (Lk (8 * p) (bit k)))) := (cell_of_row _ _ _ _ _ _ hM).trans (hp.at_ k hlt)
                have hkI : (0 : Int) ≤ (k : Int) ∧ (k : Int) < 32 := by omega
                have hfz : wi.frozen? ⟨Q, k, none⟩ = false := frozen_of_row _ _ _ _ _ (by rw [HQe]; exact hQ)
                have hcq : wi.cell? ⟨Q, k, none⟩ = some v0 := (cell_of_row _ _ _ _ _ _ (by rw [HQe]; exact hQ)).trans hv0
                have hu42 : Try.prog.underlying 42 = some (.array 32 23) := Try.underlying42
                have hi42 : (Try.prog.info? 42).map (·.size) = some m.toList.length := by rw [info42.2]; simp [hp.size]
                have hra : ∀ o, (wi.alloc o).rangeAt w.heap.size 0 m.toList := fun o => range_below hr (below_alloc _ _)
                have hca : ∀ o, (wi.alloc o).cell? ⟨w.heap.size, k, none⟩ = some (.int .u32 (c32 (Lk (8 * p) (bit k)))) := fun o => Below.cellSome (below_alloc _ _) hc1
                have hcqa : ∀ o, (wi.alloc o).cell? ⟨Q, k, none⟩ = some v0 := fun o => Below.cellSome (below_alloc _ _) hcq
                have hfza : ∀ o, (wi.alloc o).frozen? ⟨Q, k, none⟩ = false := fun o => ((below_alloc wi o).frozen (by exact block_lt_of_cell hcq)).trans hfz
                have hQB : Q ≠ w.heap.size := by rw [HQe]; omega
                have hQw : w.heap.size ≤ Q := by rw [HQe]; omega
                have hrs : ∀ o v, ((wi.alloc o).setCell ⟨Q, k, none⟩ v).rangeAt w.heap.size 0 m.toList := fun o v => range_setCell (hra o) hQB
                have hcs : ∀ o v, ((wi.alloc o).setCell ⟨Q, k, none⟩ v).cell? ⟨w.heap.size, k, none⟩ = some (.int .u32 (c32 (Lk (8 * p) (bit k)))) := fun o v => (cell_setCell_other hQB).trans (hca o)
                rw [← HQe]
                rw [← HQe] at hQ
                have HQh := Lib.hid HQe
                clear HQe
                clear hv0 hbel hsz hlB HQ HM HBEL
                go_wp2_with fail
                go_region_held3 (fun w' => w'.rangeAt w.heap.size 0 m.toList ∧ w'.cell? ⟨w.heap.size, k, none⟩ = some (.int .u32 (c32 (Lk (8 * p) (bit k))))) (first | exact ⟨hr, hc1⟩ | exact ⟨hra _, hca _⟩ | exact ⟨hrs _ _, hcs _ _⟩) (first | (go_at_call 20; refine (through_pow m p hp _ _).mono ?_; rintro e w' ⟨rfl, rfl⟩))
                clear hra hca hrs hcs hcqa hfza hfz hcq hr hc1
                go_wp2
                go_roundw
                case rel => exact ⟨k + 1, q.setIfInBounds k (.int .u32 (c32 (far p (Lk (8 * p) (bit k))))), by omega, by go_num, heap_setCell_same _ _ _ _ _ _ ((Below.heap_alloc _ _ _ (lt_of_block hQ)).trans hQ), (Below.heap_setCell _ _ _ _ (by exact fun e => hQB e.symm)).trans ((Below.heap_alloc _ _ _ (lt_of_block hM)).trans hM), hq'.set hlt, ((hbi.alloc hbi.size _).setCell hQw _).drew⟩
                case measure => simp [intOf]; omega
              · have hd32 : decide ((k : Int) < 32) = false := by simp; omega
                have hk32 : k = 32 := by omega
                have hpow : Pow q (2 * p) := ⟨hq'.size, fun i hi => by
                  rw [hq'.at_ i (by omega)]
                  unfold far; rw [← Lk_add, show 8 * p + 8 * p = 8 * (2 * p) by omega]⟩
                clear hk32
                go_wp2_with (first | refine wpList_load_row rfl 42 _ rfl (wo.heap.size + 1) rfl 42 q (0, 0) _ hQ Try.underlying42 rfl (by rw [hpow.size, info42.2]) ?_ | refine wpList_store_row rfl 42 _ _ rfl w.heap.size q rfl rfl 42 m hM (by rw [hpow.size, info42.2]) (by rw [hpow.size, hp.size]) hpow.one ?_)
                go_roundw
                case rel => exact ⟨2 * p, n' / 2, far p y, q, by omega, by go_num, rfl, setRow_heap _ _ _ _ _ _ hM, hpow, below_setRow hbi (Nat.le_refl _) _, by
                  have h := HK.out
                  rw [Hid, ← HZ.out]
                  rw [← far_add]
                  congr 1
                  have : n'.toNat = 2 * (n' / 2).toNat + 1 := by omega
                  rw [this, Nat.mul_add, ← Nat.mul_assoc, Nat.mul_comm p 2]; omega⟩
                case measure => simp [intOf]; omega
          · have hb : (n' % 2 == 1) = false := by simp [h1]
            have HK := Lib.hid h1; clear h1
            go_wp2
            have HQ : (wr.alloc (.cells zr 42)).heap[wr.heap.size]? = some (.cells zr 42 (0, 0)) := heap_alloc_new _ _
            have HM : (wr.alloc (.cells zr 42)).heap[w.heap.size]? = some (.cells m 42 (0, 0)) := by
              rw [Below.heap_alloc _ _ _ hlB]; exact hB
            have HBEL : Below w.heap.size w (wr.alloc (.cells zr 42)) := hbel.alloc hsz _
            obtain ⟨wo, rfl⟩ : ∃ wo : World, wo = wr := ⟨_, rfl⟩
            go_loopw [8] (fun i wi => ∃ (k : Nat) (q : Array Value), k ≤ 32 ∧ i = .int .i64 k ∧ wi.heap[wo.heap.size]? = some (.cells q 42 (0, 0)) ∧ wi.heap[w.heap.size]? = some (.cells m 42 (0, 0)) ∧ Row q (fun i => far p (Lk (8 * p) (bit i))) k ∧ Below w.heap.size w wi) (fun i _ => 32 - (intOf i).toNat)
            case atStart => exact ⟨0, zr, by omega, rfl, HQ, HM, ⟨zr_size, fun j hj => by omega⟩, HBEL⟩
            case round =>
              clear hz hk hlt hdk
              obtain ⟨wi, rfl⟩ : ∃ wi : World, wi = wr := ⟨_, rfl⟩
              obtain ⟨k, q, hk, rfl, hQ, hM, hq', hbi⟩ := hrel
              obtain ⟨Q, HQe⟩ : ∃ Q, Q = wo.heap.size := ⟨_, rfl⟩
              by_cases hlt : k < 32
              · obtain ⟨v0, hv0⟩ : ∃ v, q[k]? = some v := ⟨_, Array.getElem?_eq_getElem (by rw [hq'.size]; exact hlt)⟩
                have hr := range_of_heap hM
                have hc1 : wi.cell? ⟨w.heap.size, k, none⟩ = some (.int .u32 (c32 (Lk (8 * p) (bit k)))) := (cell_of_row _ _ _ _ _ _ hM).trans (hp.at_ k hlt)
                have hkI : (0 : Int) ≤ (k : Int) ∧ (k : Int) < 32 := by omega
                have hfz : wi.frozen? ⟨Q, k, none⟩ = false := frozen_of_row _ _ _ _ _ (by rw [HQe]; exact hQ)
                have hcq : wi.cell? ⟨Q, k, none⟩ = some v0 := (cell_of_row _ _ _ _ _ _ (by rw [HQe]; exact hQ)).trans hv0
                have hu42 : Try.prog.underlying 42 = some (.array 32 23) := Try.underlying42
                have hi42 : (Try.prog.info? 42).map (·.size) = some m.toList.length := by rw [info42.2]; simp [hp.size]
                have hra : ∀ o, (wi.alloc o).rangeAt w.heap.size 0 m.toList := fun o => range_below hr (below_alloc _ _)
                have hca : ∀ o, (wi.alloc o).cell? ⟨w.heap.size, k, none⟩ = some (.int .u32 (c32 (Lk (8 * p) (bit k)))) := fun o => Below.cellSome (below_alloc _ _) hc1
                have hcqa : ∀ o, (wi.alloc o).cell? ⟨Q, k, none⟩ = some v0 := fun o => Below.cellSome (below_alloc _ _) hcq
                have hfza : ∀ o, (wi.alloc o).frozen? ⟨Q, k, none⟩ = false := fun o => ((below_alloc wi o).frozen (by exact block_lt_of_cell hcq)).trans hfz
                have hQB : Q ≠ w.heap.size := by rw [HQe]; omega
                have hQw : w.heap.size ≤ Q := by rw [HQe]; omega
                have hrs : ∀ o v, ((wi.alloc o).setCell ⟨Q, k, none⟩ v).rangeAt w.heap.size 0 m.toList := fun o v => range_setCell (hra o) hQB
                have hcs : ∀ o v, ((wi.alloc o).setCell ⟨Q, k, none⟩ v).cell? ⟨w.heap.size, k, none⟩ = some (.int .u32 (c32 (Lk (8 * p) (bit k)))) := fun o v => (cell_setCell_other hQB).trans (hca o)
                rw [← HQe]
                rw [← HQe] at hQ
                have HQh := Lib.hid HQe
                clear HQe
                clear hv0 hbel hsz hlB HQ HM HBEL
                go_wp2_with fail
                go_region_held3 (fun w' => w'.rangeAt w.heap.size 0 m.toList ∧ w'.cell? ⟨w.heap.size, k, none⟩ = some (.int .u32 (c32 (Lk (8 * p) (bit k))))) (first | exact ⟨hr, hc1⟩ | exact ⟨hra _, hca _⟩ | exact ⟨hrs _ _, hcs _ _⟩) (first | (go_at_call 20; refine (through_pow m p hp _ _).mono ?_; rintro e w' ⟨rfl, rfl⟩))
                clear hra hca hrs hcs hcqa hfza hfz hcq hr hc1
                go_wp2
                go_roundw
                case rel => exact ⟨k + 1, q.setIfInBounds k (.int .u32 (c32 (far p (Lk (8 * p) (bit k))))), by omega, by go_num, heap_setCell_same _ _ _ _ _ _ ((Below.heap_alloc _ _ _ (lt_of_block hQ)).trans hQ), (Below.heap_setCell _ _ _ _ (by exact fun e => hQB e.symm)).trans ((Below.heap_alloc _ _ _ (lt_of_block hM)).trans hM), hq'.set hlt, ((hbi.alloc hbi.size _).setCell hQw _).drew⟩
                case measure => simp [intOf]; omega
              · have hd32 : decide ((k : Int) < 32) = false := by simp; omega
                have hk32 : k = 32 := by omega
                have hpow : Pow q (2 * p) := ⟨hq'.size, fun i hi => by
                  rw [hq'.at_ i (by omega)]
                  unfold far; rw [← Lk_add, show 8 * p + 8 * p = 8 * (2 * p) by omega]⟩
                clear hk32
                go_wp2_with (first | refine wpList_load_row rfl 42 _ rfl (wo.heap.size) rfl 42 q (0, 0) _ hQ Try.underlying42 rfl (by rw [hpow.size, info42.2]) ?_ | refine wpList_store_row rfl 42 _ _ rfl w.heap.size q rfl rfl 42 m hM (by rw [hpow.size, info42.2]) (by rw [hpow.size, hp.size]) hpow.one ?_)
                go_roundw
                case rel => exact ⟨2 * p, n' / 2, y, q, by omega, by go_num, rfl, setRow_heap _ _ _ _ _ _ hM, hpow, below_setRow hbi (Nat.le_refl _) _, by
                  have h := HK.out
                  rw [Hid, ← HZ.out]
                  congr 1
                  have : n'.toNat = 2 * (n' / 2).toNat := by omega
                  rw [this, ← Nat.mul_assoc, Nat.mul_comm p 2]⟩
                case measure => simp [intOf]; omega
        · go_wp2
          go_ret
          refine ⟨ret_int ?_, hbel⟩
          have := HZ.out
          rw [show n'.toNat = 0 by omega, Nat.mul_zero] at this
          rw [← this]; rfl
end Go.Proofs.Ytfheeanpmcgajaa

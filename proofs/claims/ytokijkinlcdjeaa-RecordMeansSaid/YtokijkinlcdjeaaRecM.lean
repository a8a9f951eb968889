/- Of: its walk. -/
import Derived.Test.YtokijkinlcdjeaaRecL
namespace Go.Proofs.Ytokijkinlcdjeaa
open Go.RowKit WireM

theorem get_case (a : Option Addr) (cap : Nat) (l : List UInt8) (hcap : l.length ≤ cap) (N : Nat) (hN : val (l.take 4) = N) :
    (4 ≤ l.length → Hid (∀ w, Bs w a l → Calls Try.prog 18 #[.slice a 4 cap] w fun e w' => (∃ x : Int, e = .returned (.tuple #[.int .u64 (N : Int), .int .i64 x])) ∧ w = w')) ∧
    (l.length < 4 → Hid (∀ w, Bs w a l → Calls Try.prog 18 #[.slice a l.length cap] w fun e w' => (∃ x : Int, e = .returned (.tuple #[.int .u64 (N : Int), .int .i64 x])) ∧ w = w')) := by
  subst hN
  constructor
  · intro h4 w h
    have := Get4 a cap (l.take 4) w (h.takeL 4) (by simp; omega) (by simp; omega)
    rwa [show (l.take 4).length = 4 by simp; omega] at this
  · intro h4 w h
    have := Get4 a cap (l.take 4) w (h.takeL 4) (by simp; omega) (by simp; omega)
    rwa [show (l.take 4).length = l.length by simp; omega] at this
set_option maxHeartbeats 1600000 in
theorem OfHi (a : Option Addr) (cap : Nat) (l : List UInt8) (at_ : Nat) (hat : 4611686018427387904 < at_) (w : World) :
    Calls Try.prog 11 #[.slice a l.length cap, .int .u64 at_] w fun e w' => e = .returned (.tuple #[rv 0 0 0 0 none 0 0 none 0 0 0 0 0, .int .i64 0, .int .i64 2]) ∧ Below w.heap.size w w' := by
  have hd : decide ((4611686018427387904 : Int) < (at_ : Int)) = true := by simp; omega
  go_enter Try.func11, Try.ntmps11
  go_wp2_with fail
  refine bodyPost_ret (v := .tuple #[rv 0 0 0 0 none 0 0 none 0 0 0 0 0, .int .i64 0, .int .i64 2]) (by simp [results, Try.results11, go_sem]) rfl ⟨rfl, below_alloc _ _⟩
set_option maxHeartbeats 1600000 in
theorem OfShort (a : Option Addr) (cap : Nat) (l : List UInt8) (at_ : Nat) (hat : at_ ≤ 4611686018427387904) (w : World) (h : Bs w a l) (hcap : l.length ≤ cap) (hl : l.length ≤ 140737488355327) (hs : val (l.take 4) < 17 ∨ l.length < val (l.take 4)) :
    Calls Try.prog 11 #[.slice a l.length cap, .int .u64 at_] w fun e w' => e = .returned (.tuple #[rv 0 0 0 0 none 0 0 none 0 0 0 0 0, .int .i64 0, .int .i64 4]) ∧ Below w.heap.size w w' := by
  have hd : decide ((4611686018427387904 : Int) < (at_ : Int)) = false := by simp; omega
  have hwl : IntKind.u64.wrap (l.length : Int) = (l.length : Int) := by rw [IntKind.wrap_u64]; omega
  have hv4 : val (l.take 4) < 4294967296 := by
    have h1 := val_lt (l.take 4)
    have h3 : 256 ^ (l.take 4).length ≤ 256 ^ 4 := Nat.pow_le_pow_right (by omega) (by simp; omega)
    omega
  obtain ⟨N, hN⟩ : ∃ N, val (l.take 4) = N := ⟨_, rfl⟩
  obtain ⟨PA, PB⟩ := get_case a cap l hcap N hN
  rw [hN] at hs hv4
  clear hN
  rcases Nat.lt_or_ge l.length 4 with h4 | h4
  all_goals
    first | replace PA := PA h4 | replace PA := PB h4
    clear PB
    by_cases h17 : N < 17
    · have h17' : decide ((N : Int) < 17) = true := by simp; omega
      go_enter Try.func11, Try.ntmps11
      go_wp2_with (go_at_call 18; refine (PA.out _ (h.below (below_alloc _ _))).mono ?_; rintro e w1 ⟨⟨x, rfl⟩, rfl⟩)
      refine bodyPost_ret (v := .tuple #[rv 0 0 0 0 none 0 0 none 0 0 0 0 0, .int .i64 0, .int .i64 4]) (by simp [results, Try.results11, go_sem]) rfl ⟨rfl, below_alloc _ _⟩
    · have h17' : decide ((N : Int) < 17) = false := by simp; omega
      have hlt : decide (l.length < N) = true := by simp; omega
      clear hs h17
      go_enter Try.func11, Try.ntmps11
      go_wp2_with (go_at_call 18; refine (PA.out _ (h.below (below_alloc _ _))).mono ?_; rintro e w1 ⟨⟨x, rfl⟩, rfl⟩)
      refine bodyPost_ret (v := .tuple #[rv 0 0 0 0 none 0 0 none 0 0 0 0 0, .int .i64 0, .int .i64 4]) (by simp [results, Try.results11, go_sem]) rfl ⟨rfl, below_alloc _ _⟩

theorem RSstart {w3 w5 w6 : World} {base top g g2 : Nat} {d : List UInt8} {q : Int} {k : Nat} (hr : Rd w3 base top g d q) (hc : w3.heap[g2]? = some (.cells (rcells g (rec0 0) none none 0) 51 (0, 0))) (ht : top ≤ g2)
    (hp : w5.heap[w3.heap.size]? = some partsO) (hb1 : Below w3.heap.size (w3.setCell ⟨g2, 1, none⟩ (.int .i64 (k : Int))) w5) (hb2 : Below w5.heap.size w5 w6) : RS w6 base top g g2 w3.heap.size d q (rec0 k) none none 0 := by
  have hlt : g2 < w3.heap.size := (Array.getElem?_eq_some_iff.1 hc).1
  have hgr : w3.grownBy (w3.setCell ⟨g2, 1, none⟩ (.int .i64 (k : Int))) (some g2) := ⟨rfl, rfl, rfl, by simp [World.setCell], fun k _ hne => Below.heap_setCell _ _ _ _ (fun e => hne (by rw [e]))⟩
  have hs : (w3.setCell ⟨g2, 1, none⟩ (.int .i64 (k : Int))).heap.size = w3.heap.size := by simp [World.setCell]
  have hb1' : Below (w3.setCell ⟨g2, 1, none⟩ (.int .i64 (k : Int))).heap.size (w3.setCell ⟨g2, 1, none⟩ (.int .i64 (k : Int))) w5 := by rw [hs]; exact hb1
  have hb := belT hb1' hb2
  have h5 := hb1.size
  rw [hs] at h5
  have hlt5 : w3.heap.size < w5.heap.size := (Array.getElem?_eq_some_iff.1 hp).1
  refine ⟨?_, (hr.kept hgr (.inr ht)).below hb, ⟨⟨fun h => absurd rfl h, fun b o e => by cases e⟩, fun _ => rfl, fun b o s e => by cases e⟩, World.ownsRow_nil _ _ _ _, by simp [Value.ownBlock], by simp [Value.ownBlock], ht, by omega, by omega, (hb2.block _ hlt5).trans hp⟩
  rw [hb.block _ (by rw [hs]; exact hlt), heap_setCell_same _ _ _ _ _ _ hc]; rfl
theorem loadsG {w' : World} {g g2 : Nat} {R : Rec} {ab sb : Option Addr} {cs : Nat} (h : w'.heap[g2]? = some (.cells (rcells g R ab sb cs) 51 (0, 0))) :
    (loadVar 27 ⟨g2, 1, none⟩).run Try.prog w' = .ok (rv R.kind R.xid R.page R.off ab R.bytes.length R.bytes.length sb R.subs.length cs R.next R.redo R.tl) w' ∧ w'.cell? ⟨g2, 1, none⟩ = some (.int .i64 R.kind) ∧ w'.cell? ⟨g2, 2, none⟩ = some (.int .u64 R.xid) ∧ w'.cell? ⟨g2, 3, none⟩ = some (.int .i64 R.page) ∧ w'.cell? ⟨g2, 4, none⟩ = some (.int .i64 R.off) ∧ w'.cell? ⟨g2, 5, none⟩ = some (.slice ab R.bytes.length R.bytes.length) ∧ w'.cell? ⟨g2, 6, none⟩ = some (.slice sb R.subs.length cs) ∧ w'.cell? ⟨g2, 7, none⟩ = some (.int .u64 R.next) ∧ w'.cell? ⟨g2, 8, none⟩ = some (.int .u64 R.redo) ∧ w'.cell? ⟨g2, 9, none⟩ = some (.int .u64 R.tl) :=
  ⟨run_loadVar_mid w' g2 1 27 _ _ (World.rangeAt_of_block h 1 9) Try.underlying27 rfl (by rw [info27]; rfl), cell_of_row _ _ _ _ _ _ h, cell_of_row _ _ _ _ _ _ h, cell_of_row _ _ _ _ _ _ h, cell_of_row _ _ _ _ _ _ h, cell_of_row _ _ _ _ _ _ h, cell_of_row _ _ _ _ _ _ h, cell_of_row _ _ _ _ _ _ h, cell_of_row _ _ _ _ _ _ h, cell_of_row _ _ _ _ _ _ h⟩
theorem OwnU.us {w : World} {base : Nat} {v : Value} {l : List Nat} {a : Option Addr} {c : Nat} (h : OwnU w base v l) (e : v = .slice a l.length c) : Us w a l ∧ (a = none → c = 0) ∧ l.length ≤ 9223372036854775807 := by
  have hc := h
  rcases h.2 with ⟨rfl, h0⟩ | ⟨g, cap, cur, rfl, hb, hg, hn, hm, hs, ht⟩
  · have : l = [] := List.eq_nil_of_length_eq_zero h0
    subst this
    cases e
    exact ⟨⟨fun h => absurd rfl h, fun b o e => by cases e⟩, fun _ => rfl, by simp⟩
  · cases e
    refine ⟨⟨fun _ => ⟨_, _, rfl⟩, fun b o e i hi => ?_⟩, fun e => (by cases e), by unfold maxLen at hm; omega⟩
    obtain ⟨rfl, rfl, _⟩ := e
    rw [Nat.zero_add, hc.cellAt i (by omega)]
    exact uv_get l i hi
theorem gotAt_le (l : List UInt8) (p n : Int) : (gotAt l p n).length ≤ l.length := by
  unfold gotAt
  split
  · simp; omega
  · simp
theorem rdStep_bytes (d : List UInt8) (c : UInt8) (s : Int × Rec) (h : s.2.bytes.length ≤ d.length) : (rdStep d c s).2.bytes.length ≤ d.length := by
  unfold rdStep
  repeat' split
  all_goals (first | exact h | skip)
  · show (blobAt d s.1).length ≤ _
    unfold blobAt
    split
    · simp
    · exact gotAt_le _ _ _
theorem rdF_bytes (d F : List UInt8) (s : Int × Rec) (h : s.2.bytes.length ≤ d.length) : (rdF d F s).2.bytes.length ≤ d.length := by
  induction F generalizing s with
  | nil => exact h
  | cons c F ih => exact ih _ (rdStep_bytes d c s h)
theorem RS.rb {w : World} {base top g g2 mb : Nat} {d : List UInt8} {q : Int} {R : Rec} {ab sb : Option Addr} {cs : Nat} (h : RS w base top g g2 mb d q R ab sb cs) (hb : R.bytes.length ≤ 9223372036854775807) : RB w R ab sb R.bytes.length cs :=
  ⟨h.got.bs, (OwnU.us h.own rfl).1, hb, (OwnU.us h.own rfl).2.2, fun e => h.got.nn e, (OwnU.us h.own rfl).2.1⟩
theorem res11 (tmps : Array Value) (w : World) (g : Nat) (v x y : Value) (h4 : tmps[4]?.getD undef = .pointer (some ⟨g, 0, none⟩)) (h5 : tmps[5]?.getD undef = x) (h6 : tmps[6]?.getD undef = y) (hl : (loadVar 27 ⟨g, 0, none⟩).run Try.prog w = .ok v w) :
    (results Try.f11 tmps).run Try.prog w = .ok (.tuple #[v, x, y]) w := by
  simp [results, Try.results11, asAddr, h4, h5, h6, hl]
theorem Bs.setRow {w : World} {a : Option Addr} {l : List UInt8} (h : Bs w a l) (g : Nat) (cs : Array Value) (hne : ∀ b o, a = some ⟨b, o, none⟩ → b ≠ g) : Bs (w.setRow g cs) a l :=
  ⟨h.addr, fun b o e i hi => by rw [cell_setRow_other _ _ _ _ (hne b o e)]; exact h.cell b o e i hi⟩
theorem Us.setRow {w : World} {a : Option Addr} {l : List Nat} (h : Us w a l) (g : Nat) (cs : Array Value) (hne : ∀ b o, a = some ⟨b, o, none⟩ → b ≠ g) : Us (w.setRow g cs) a l :=
  ⟨h.addr, fun b o e i hi => by rw [cell_setRow_other _ _ _ _ (hne b o e)]; exact h.cell b o e i hi⟩
theorem RB.setRow {w : World} {r : Rec} {ab sb : Option Addr} {cb cs : Nat} (h : RB w r ab sb cb cs) (g : Nat) (c : Array Value) (h1 : ∀ b o, ab = some ⟨b, o, none⟩ → b ≠ g) (h2 : ∀ b o, sb = some ⟨b, o, none⟩ → b ≠ g) : RB (w.setRow g c) r ab sb cb cs :=
  ⟨h.b.setRow g c h1, h.s.setRow g c h2, h.lb, h.ls, h.nb, h.ns⟩
theorem row_one (k : Int) (x : Int) (p o : Int) (ab sb : Option Addr) (cb cs : Nat) (l u : Nat) (n r t : Int) : (#[.int .i64 k, .int .u64 x, .int .i64 p, .int .i64 o, .slice ab l cb, .slice sb u cs, .int .u64 n, .int .u64 r, .int .u64 t] : Array Value).all (·.oneCell') = true := by
  refine all_oneCell_toArray (cs := [_, _, _, _, _, _, _, _, _]) ?_
  intro v hv
  simp only [List.mem_cons, List.not_mem_nil, or_false] at hv
  rcases hv with rfl | rfl | rfl | rfl | rfl | rfl | rfl | rfl | rfl <;> rfl
def OfPost (l : List UInt8) (at_ : Nat) (w : World) (e : Ending) (w' : World) : Prop :=
  match ofL l at_ with
  | none => e = .returned (.tuple #[rv 0 0 0 0 none 0 0 none 0 0 0 0 0, .int .i64 0, .int .i64 4]) ∧ Below w.heap.size w w'
  | some (R, n) => (∃ ab sb cs, e = .returned (.tuple #[rv R.kind R.xid R.page R.off ab R.bytes.length R.bytes.length sb R.subs.length cs R.next R.redo R.tl, .int .i64 n, .int .i64 0]) ∧ RB w' R ab sb R.bytes.length cs) ∧ Below w.heap.size w w'
set_option maxRecDepth 100000 in
set_option maxHeartbeats 8000000 in
theorem OfRead (a : Option Addr) (cap : Nat) (l : List UInt8) (at_ : Nat) (hat : at_ ≤ 4611686018427387904) (w : World) (h : Bs w a l) (hcap : l.length ≤ cap) (hl : l.length ≤ 140737488355327) (N : Nat) (hN : val (l.take 4) = N) (h17 : 17 ≤ N) (hNl : N ≤ l.length) (R : Rec) (hR : rdR ((l.take N).drop 16) = R)
    (X : Option (Rec × Nat)) (hX : X = ofL l at_) (hXR : X = if mayB R = true ∧ encR R at_ = l.take N then some (R, N) else none) :
    Calls Try.prog 11 #[.slice a l.length cap, .int .u64 at_] w (OfPost l at_ w) := by
  have hd : decide ((4611686018427387904 : Int) < (at_ : Int)) = false := by simp; omega
  have hwl : IntKind.u64.wrap (l.length : Int) = (l.length : Int) := by rw [IntKind.wrap_u64]; omega
  have hv4 : val (l.take 4) < 4294967296 := by
    have h1 := val_lt (l.take 4)
    have h3 : 256 ^ (l.take 4).length ≤ 256 ^ 4 := Nat.pow_le_pow_right (by omega) (by simp; omega)
    omega
  obtain ⟨PA, _⟩ := get_case a cap l hcap N hN
  rw [hN] at hv4
  have h4 : 4 ≤ l.length := by omega
  replace PA := PA h4
  clear hN
  have h17' : decide ((N : Int) < 17) = false := by simp; omega
  have hlt : decide (l.length < N) = false := by simp; omega
  have hwn : IntKind.i64.wrap (N : Int) = (N : Int) := by rw [IntKind.wrap_i64]; omega
  obtain ⟨bb, oo, rfl⟩ := h.ex (k := 0) (by omega)
  have hBd := (h.takeL N).dropL (c := l.length + 17) 16 (by simp; omega)
  rw [if_neg (by omega), Option.map_some, Addr.add_mid] at hBd
  have hdl : ((l.take N).drop 16).length = N - 16 := by simp; omega
  obtain ⟨d, hdd⟩ : ∃ d, (l.take N).drop 16 = d := ⟨_, rfl⟩
  rw [hdd] at hBd hdl hR
  have PR := Lib.hid (fun (w : World) (h : Bs w (some ⟨bb, oo + 16, none⟩) d) => Read_any (some ⟨bb, oo + 16, none⟩) (cap - 16) d w h (fun e => by cases e) (by omega))
  rw [hdl] at PR
  have hd1 : d.length ≤ 140737488355328 := by omega
  have HX := Lib.hid (And.intro hX (And.intro hXR hdd))
  clear hX hXR hdd
  obtain ⟨K, hK⟩ : ∃ K, numAt d 0 1 = K := ⟨_, rfl⟩
  obtain ⟨q1, hq1⟩ : ∃ q1, stepAt d 0 (szOf 1) = q1 := ⟨_, rfl⟩
  have hK8 : K < 256 := by
    rw [← hK]; unfold numAt
    have h1 := val_lt (gotAt d 0 (szOf 1))
    have h2 : (gotAt d 0 (szOf 1)).length ≤ 1 := gotAt_len d 0 (szOf 1) 1 (by simp [szOf])
    have h3 : 256 ^ (gotAt d 0 (szOf 1)).length ≤ 256 ^ 1 := Nat.pow_le_pow_right (by omega) h2
    omega
  have hwK : IntKind.i64.wrap (K : Int) = (K : Int) := by rw [IntKind.wrap_i64]; omega
  have hRF : R = (rdF d (formL (K : Int)) (q1, rec0 K)).2 := by rw [← hR, ← hK, ← hq1]; rfl
  have hq1l : q1 ≤ d.length := by rw [← hq1]; exact stepAt_le d _ _ (by omega)
  have HFL := Lib.hid (form_let (K : Int))
  have HFS := Lib.hid (form_s (K : Int))
  obtain ⟨F, hF⟩ : ∃ F, formL (K : Int) = F := ⟨_, rfl⟩
  have FF := Lib.hid (formF (K : Int))
  rw [hF] at FF HFL HFS hRF
  have PN := Lib.hid (fun (base top g : Nat) (w : World) (h : Rd w base top g d 0) => Number_at base top g d 0 1 q1 K hq1 hK w h hd1 (by omega))
  have hlb : R.bytes.length ≤ d.length := by rw [hRF]; exact rdF_bytes d F _ (by simp [rec0])
  have HRF := Lib.hid hRF
  clear hRF hR hK hq1 hF
  have fldB := field58b
  go_enter Try.func11, Try.ntmps11
  go_wp2_with (go_at_call 18; refine (PA.out _ (h.below (below_alloc _ _))).mono ?_; rintro e w1 ⟨⟨x, rfl⟩, rfl⟩)
  refine (PR.out _ (hBd.below (below_alloc _ _))).mono ?_
  rintro e w2 ⟨⟨g, rfl, hr2⟩, hb2⟩
  have HW := Lib.hid (belT (below_alloc w _) hb2)
  obtain ⟨base, hbase⟩ : ∃ base, (w.alloc (.cells #[.int .i64 0, .int .u64 0, .int .i64 0, .int .i64 0, .slice none 0 0, .slice none 0 0, .int .u64 0, .int .u64 0, .int .u64 0] 27)).heap.size = base := ⟨_, rfl⟩
  have hbs : w.heap.size < base := by rw [← hbase]; simp
  have HC0 : Hid (w2.heap[w.heap.size]? = some (.cells #[.int .i64 0, .int .u64 0, .int .i64 0, .int .i64 0, .slice none 0 0, .slice none 0 0, .int .u64 0, .int .u64 0, .int .u64 0] 27 (0, 0))) := by
    show _ = _
    rw [hb2.block _ (by rw [hbase]; exact hbs)]; exact heap_alloc_new _ _
  rw [hbase] at hr2
  clear hbase hb2
  have hr3 := hr2.below (below_alloc w2 (.cells (rcells g (rec0 0) none none 0) 51))
  have c30 : (w2.alloc (.cells (rcells g (rec0 0) none none 0) 51)).heap[w2.heap.size]? = some (.cells (rcells g (rec0 0) none none 0) 51 (0, 0)) := heap_alloc_new _ _
  have z30 : (w2.alloc (.cells (rcells g (rec0 0) none none 0) 51)).cell? ⟨w2.heap.size, 0, none⟩ = some (.pointer (some ⟨g, 0, none⟩)) := cell_of_row _ _ 0 _ _ _ c30
  go_wp2_with (first | (go_at_call 20; refine (PN.out _ _ _ _ hr3).mono ?_; rintro e w3 ⟨rfl, hr4, hg3⟩; have c40 := (hg3.block w2.heap.size (by simp) (fun e => by have := hr2.lt; have := Option.some.inj e; omega)).trans c30; have z40 := cell_of_row _ _ 1 _ _ _ c40; have f40 := frozen_of_row _ _ 1 _ _ c40) | fail)
  refine (partsF _).mono ?_
  rintro e w5 ⟨rfl, hp5, hsz5, hb5⟩
  have hss : (w3.setCell ⟨w2.heap.size, 1, none⟩ (.int .i64 (K : Int))).heap.size = w3.heap.size := by simp [World.setCell]
  rw [hss] at hp5 hsz5 hb5
  have hlt2 : w2.heap.size < w3.heap.size := (Array.getElem?_eq_some_iff.1 c40).1
  have c50 : w5.heap[w2.heap.size]? = some (.cells (rcells g (rec0 K) none none 0) 51 (0, 0)) := by
    rw [hb5.block _ hlt2, heap_setCell_same _ _ _ _ _ _ c40]; rfl
  have z50 : w5.cell? ⟨w2.heap.size, 1, none⟩ = some (.int .i64 (K : Int)) := cell_of_row _ _ 1 _ _ _ c50
  rw [hss]
  go_wp2_with (go_at_call 22; refine (FF.out _).mono ?_; rintro e w6 ⟨rfl, hb6⟩)
  have hRS0 := RSstart hr4 c40 (Nat.le_refl _) hp5 hb5 hb6
  have hb0 : base ≤ w2.heap.size := by have := hr2.up; have := hr2.lt; omega
  have hbel : Below base w2 (w6.iter (str F) 0) := by
    have e1 : Below base w2 (w2.alloc (.cells (rcells g (rec0 0) none none 0) 51)) := (below_alloc w2 _).mono hb0
    have e2 := e1.trans (below_g hg3 hr2.up (by simp; omega))
    have hgr : w3.grownBy (w3.setCell ⟨w2.heap.size, 1, none⟩ (.int .i64 (K : Int))) (some w2.heap.size) := ⟨rfl, rfl, rfl, by simp [World.setCell], fun k _ hne => Below.heap_setCell _ _ _ _ (fun e => hne (by rw [e]))⟩
    have e3 := e2.trans (below_g hgr hb0 (by omega))
    exact ((e3.trans (hb5.mono (by omega))).trans (hb6.mono (by omega))).trans ((below_alloc w6 (.stringIter (str F) 0)).mono (by have := hb6.size; omega))
  have hI0 : BR w2 (w6.iter (str F) 0) w6.heap.size F base w2.heap.size g w2.heap.size w3.heap.size d (q1, rec0 K) 0 :=
    ⟨none, none, 0, heap_alloc_new _ _, hRS0.below (below_alloc w6 (.stringIter (str F) 0)), by simp [Value.ownBlock], hbel⟩
  have hitl : w3.heap.size < w6.heap.size := by have := hb6.size; omega
  obtain ⟨it, hit⟩ : ∃ it, w6.heap.size = it := ⟨_, rfl⟩
  obtain ⟨Wi, hWi⟩ : ∃ Wi, w6.iter (str F) 0 = Wi := ⟨_, rfl⟩
  obtain ⟨mb, hmb⟩ : ∃ mb, w3.heap.size = mb := ⟨_, rfl⟩
  rw [hit, hmb] at hI0
  rw [hmb, hit] at hitl
  rw [hit, hmb]
  rw [hWi] at hI0 ⊢
  have hH := HW.out.size
  clear hit hWi hmb hbel hb5 hb6 hp5 hsz5 hss hlt2 c50 z50 hRS0 c40 z40 f40 hr4 hg3 c30 z30 hr3 PA PN PR FF hK8 hwK
  obtain ⟨G2, hG2⟩ : ∃ G2, w2.heap.size = G2 := ⟨_, rfl⟩
  have hG2' : Hid (base ≤ G2) := by show _ ≤ _; omega
  rw [hG2] at hI0 ⊢
  clear hG2 hb0
  have HH := Lib.hid h
  clear h
  go_loopw [12] (fun _ wr => ∃ j, j ≤ F.length ∧ BR w2 wr it F base G2 g G2 mb d (q1, rec0 K) j) (fun _ wr => F.length - posOf wr it)
  case atStart => exact ⟨0, by omega, hI0⟩
  case round =>
    clear hI0
    obtain ⟨j, hj, ab, sb, cs, hit, hRS, hno, hbel⟩ := hrel
    by_cases hlt : j < F.length
    · have hlt8 := let_lt _ (HFL.out _ (List.getElem_mem hlt))
      have hnx := next_str F wr it j hit hlt hlt8
      obtain ⟨c, hc⟩ : ∃ c, F[j] = c := ⟨_, rfl⟩
      have hsn := Lib.hid (rdF_snoc d F j hlt (q1, rec0 K))
      have hsub : c = 115 → (rdF d (F.take j) (q1, rec0 K)).2.subs = [] := fun e => rdF_subs d _ _ (HFS.out j hlt (by rw [hc]; exact e))
      rw [hc] at hnx hsn hlt8
      have hlet : isLet c := by rw [← hc]; exact HFL.out _ (List.getElem_mem hlt)
      clear hc
      obtain ⟨qj, Rj, hs⟩ : ∃ qj Rj, rdF d (F.take j) (q1, rec0 K) = (qj, Rj) := ⟨_, _, rfl⟩
      have hqj : qj ≤ d.length := by have := rdF_le d (F.take j) (q1, rec0 K) hq1l; rwa [hs] at this
      rw [hs] at hRS hno hsub hsn
      clear hs
      have hsz2 := Lib.iterAt_size wr it (str F) (j + 1)
      have hit' := Lib.iterAt_heap wr it (str F) j (j + 1) hit
      have hot := fun q (h : q ≠ it) => Lib.iterAt_other wr it q (str F) (j + 1) h
      have hgi := grown_iter (w := wr) (it := it) (str F) (j + 1)
      have hmit : mb ≠ it := by omega
      have hGit : G2 ≠ it := by have := hRS.m2; have := hRS.lt; have := hRS.t2; have := hG2'.out; intro e; rw [e] at hRS; have := hRS.cell; rw [hit] at this; cases this
      have hlw : Below base wr (wr.iterAt it (str F) (j + 1)) := below_g hgi (by have := hG2'.out; have := hRS.tm; omega) (by have := hRS.tm; have := hRS.lt; have := hG2'.out; omega)
      have hRS1 : RS (wr.iterAt it (str F) (j + 1)) base G2 g G2 mb d qj Rj ab sb cs :=
        ⟨(hot _ hGit).trans hRS.cell, hRS.rd.kept hgi (.inr (by have := hRS.tm; omega)), hRS.got.keep hgi (.inr (.inr (by have := hRS.tm; omega))), hRS.own.kept hgi (.inr hno), hRS.ne2, hRS.nem, hRS.t2, hRS.tm, hRS.m2, (hot _ hmit).trans hRS.map⟩
      obtain ⟨Wj, hWj⟩ : ∃ Wj, wr.iterAt it (str F) (j + 1) = Wj := ⟨_, rfl⟩
      rw [hWj] at hnx hsz2 hit' hlw hRS1
      clear hWj hot hgi
      have hmap := hRS1.map
      obtain ⟨ix, f, hfind, hent, hcall⟩ := rAny c hlet
      have hcall := Lib.hid (hcall base G2 g G2 mb d qj Rj ab sb cs Wj hRS1 hd1 hqj hsub)
      have HB := Lib.hid (And.intro hit (And.intro hit' (And.intro hno (And.intro (hbel.trans hlw) hsz2))))
      have hitlt : it < wr.heap.size := (Array.getElem?_eq_some_iff.1 hit).1
      have HRS := Lib.hid hRS
      clear hRS hRS1 hit hit' hno hbel hlw hsz2 hsub
      go_wp2_with (first | (refine wpList_lookup rfl _ _ _ rfl mb rfl _ _ rfl (run_lookup_hit (es := partsE) (clock := 8) Try.underlying53 Try.underlying21 hmap rfl hfind) ?_) | (refine hcall.out.mono ?_; rintro e w7 ⟨rfl, ab', sb', cs', h1, h2, h3, h4⟩))
      obtain ⟨hit, hit', hno, hbel, hsz⟩ := HB.out
      have hg : g < G2 := h1.rd.lt
      have hi3 := (h3 it (by omega) (by have := h1.tm; omega) hGit.symm hno).trans hit'
      go_roundw
      case rel =>
        refine ⟨j + 1, by omega, ab', sb', cs', hi3, ?_, ?_, hbel.trans h2⟩
        · rw [hsn.out]; exact h1
        · rw [hsn.out]
          rcases h4 with e | ⟨n, e, hn⟩
          · rw [e]; exact hno
          · rw [e]; intro e'; have := Option.some.inj e'; omega
      case measure => simp only [posOf, hi3, hit]; omega
    · obtain rfl : j = F.length := by omega
      have hnx := fun ty => Lib.run_next_end_at (P := Try.prog) wr it (str F) F.length ty hit (by rw [str_size]; omega)
      rw [List.take_of_length_le (Nat.le_refl _)] at hRS
      rw [← HRF.out] at hRS
      obtain ⟨k, xx, p, o, lb, u, n, r, t⟩ := R
      have hlb : lb.length ≤ d.length := hlb
      have hNcap : N ≤ cap := by omega
      have hRB := hRS.rb (by show lb.length ≤ _; have : lb.length ≤ d.length := hlb; omega)
      have hcell := hRS.cell
      have hlt2 := hRS.lt.1
      have hwb : w.heap.size ≤ base := by omega
      have hbwr : base ≤ wr.heap.size := by have := hRS.t2; have := hG2'.out; omega
      have KF0 : ∀ w', Below wr.heap.size wr w' → (loadVar 27 ⟨G2, 1, none⟩).run Try.prog w' = .ok (rv k xx p o ab lb.length lb.length sb u.length cs n r t) w' ∧ w'.cell? ⟨G2, 1, none⟩ = some (.int .i64 k) ∧ w'.cell? ⟨G2, 2, none⟩ = some (.int .u64 xx) ∧ w'.cell? ⟨G2, 3, none⟩ = some (.int .i64 p) ∧ w'.cell? ⟨G2, 4, none⟩ = some (.int .i64 o) ∧ w'.cell? ⟨G2, 5, none⟩ = some (.slice ab lb.length lb.length) ∧ w'.cell? ⟨G2, 6, none⟩ = some (.slice sb u.length cs) ∧ w'.cell? ⟨G2, 7, none⟩ = some (.int .u64 n) ∧ w'.cell? ⟨G2, 8, none⟩ = some (.int .u64 r) ∧ w'.cell? ⟨G2, 9, none⟩ = some (.int .u64 t) := fun w' hb => loadsG ((hb.block _ hlt2).trans hcell)
      have KF : ∀ w', Below wr.drew.heap.size wr.drew w' → (loadVar 27 ⟨G2, 1, none⟩).run Try.prog w' = .ok (rv k xx p o ab lb.length lb.length sb u.length cs n r t) w' ∧ w'.cell? ⟨G2, 1, none⟩ = some (.int .i64 k) ∧ w'.cell? ⟨G2, 2, none⟩ = some (.int .u64 xx) ∧ w'.cell? ⟨G2, 3, none⟩ = some (.int .i64 p) ∧ w'.cell? ⟨G2, 4, none⟩ = some (.int .i64 o) ∧ w'.cell? ⟨G2, 5, none⟩ = some (.slice ab lb.length lb.length) ∧ w'.cell? ⟨G2, 6, none⟩ = some (.slice sb u.length cs) ∧ w'.cell? ⟨G2, 7, none⟩ = some (.int .u64 n) ∧ w'.cell? ⟨G2, 8, none⟩ = some (.int .u64 r) ∧ w'.cell? ⟨G2, 9, none⟩ = some (.int .u64 t) := fun w' hb => KF0 w' (belT (Below.refl _ _).drew hb)
      have HEL : mayB ⟨k, xx, p, o, lb, u, n, r, t⟩ = true → Hid ((encR ⟨k, xx, p, o, lb, u, n, r, t⟩ at_).length ≤ 9223372036854775807) := fun hm => by
        have := bodyL_len _ hm; have := encR_len ⟨k, xx, p, o, lb, u, n, r, t⟩ at_; show _ ≤ _; omega
      have PE := Lib.hid (fun a9 c9 w h1 h2 hle => EqualB a9 (some ⟨bb, oo, none⟩) c9 cap (encR ⟨k, xx, p, o, lb, u, n, r, t⟩ at_) (l.take N) w h1 h2 hle (by simp; omega))
      rw [show (l.take N).length = N by simp; omega] at PE
      have hTK := HH.out.takeL N
      have hHH : ∀ w', Below wr.heap.size wr w' → Bs w' (some ⟨bb, oo, none⟩) (l.take N) := fun w' hb => hTK.below ((HW.out.trans (hbel.mono hwb)).trans (hb.mono (by have := HW.out.size; omega)))
      have HHH := Lib.hid hHH
      have hAW : ∀ b o, ab = some ⟨b, o, none⟩ → b ≠ w.heap.size := fun b o e => by have := hRS.got.away b o none e; omega
      have hSW : ∀ b o, sb = some ⟨b, o, none⟩ → b ≠ w.heap.size := fun b o e => by
        have := (hRS.own.lt b (by rw [e]; rfl)).1
        have := hG2'.out
        omega
      have HAW := Lib.hid (And.intro hAW hSW)
      clear hHH hTK hcell hRS HRF hAW hSW
      by_cases hmay : mayB ⟨k, xx, p, o, lb, u, n, r, t⟩ = true
      · by_cases hEQ : encR ⟨k, xx, p, o, lb, u, n, r, t⟩ at_ = l.take N
        · have HEQ := Lib.hid hEQ
          clear hEQ
          go_wp2_with fail
          refine seq_start 19 [false, false, false, false, false, false, false, false, false, false, false, false, false, false, false, false, false, false, false] (by kernel_rfl) rfl rfl ?_
          refine seq_take 0 (v := ?_) rfl (by kernel_rfl) (fun _ _ _ h => h) (Or.inl ⟨by rfl, fun w' hb => ?_⟩) ?_
          rotate_left
          · have kf := KF w' hb
            go_simp
            with_reducible rfl
          simp only [Act.put, List.setIfInBounds_toArray, List.set_cons_zero, List.set_cons_succ]
          refine seq_take 1 (v := ?_) rfl (by kernel_rfl) (fun _ _ _ h => h) (Or.inl ⟨by rfl, fun w' hb => ?_⟩) ?_
          rotate_left
          · have kf := KF w' hb
            go_simp
            with_reducible rfl
          simp only [Act.put, List.setIfInBounds_toArray, List.set_cons_zero, List.set_cons_succ]
          refine seq_take 2 (v := ?_) rfl (by kernel_rfl) (fun _ _ _ h => h) (Or.inl ⟨by rfl, fun w' hb => ?_⟩) ?_
          rotate_left
          · have kf := KF w' hb
            go_simp
            with_reducible rfl
          simp only [Act.put, List.setIfInBounds_toArray, List.set_cons_zero, List.set_cons_succ]
          refine seq_take 3 (v := ?_) rfl (by kernel_rfl) (fun _ _ _ h => h) (Or.inl ⟨by rfl, fun w' hb => ?_⟩) ?_
          rotate_left
          · have kf := KF w' hb
            go_simp
            with_reducible rfl
          simp only [Act.put, List.setIfInBounds_toArray, List.set_cons_zero, List.set_cons_succ]
          refine seq_do 4 rfl (by kernel_rfl) (fun K hK => ?_)
          go_simp
          go_at_call 16
          refine (MayF k xx p o ab sb lb.length cs lb u n r t _ (hRB.below (Below.refl _ _).drew)).mono ?_
          rw [hmay]
          rintro e w8 ⟨rfl, hb8⟩
          refine hK.out _ _ hb8 ?_
          clear hK K
          simp only [List.set_cons_zero, List.set_cons_succ]
          have hb8 := belT (Below.refl _ _).drew hb8
          replace KF : ∀ w', Below w8.heap.size w8 w' → (loadVar 27 ⟨G2, 1, none⟩).run Try.prog w' = .ok (rv k xx p o ab lb.length lb.length sb u.length cs n r t) w' ∧ w'.cell? ⟨G2, 1, none⟩ = some (.int .i64 k) ∧ w'.cell? ⟨G2, 2, none⟩ = some (.int .u64 xx) ∧ w'.cell? ⟨G2, 3, none⟩ = some (.int .i64 p) ∧ w'.cell? ⟨G2, 4, none⟩ = some (.int .i64 o) ∧ w'.cell? ⟨G2, 5, none⟩ = some (.slice ab lb.length lb.length) ∧ w'.cell? ⟨G2, 6, none⟩ = some (.slice sb u.length cs) ∧ w'.cell? ⟨G2, 7, none⟩ = some (.int .u64 n) ∧ w'.cell? ⟨G2, 8, none⟩ = some (.int .u64 r) ∧ w'.cell? ⟨G2, 9, none⟩ = some (.int .u64 t) := fun w' h => KF0 w' (belT hb8 h)
          refine seq_take 5 (v := ?_) rfl (by kernel_rfl) (fun _ _ _ h => h) (Or.inl ⟨by rfl, fun w' hb => ?_⟩) ?_
          rotate_left
          · have kf := KF w' hb
            go_simp
            with_reducible rfl
          simp only [Act.put, List.setIfInBounds_toArray, List.set_cons_zero, List.set_cons_succ]
          refine seq_take 6 (v := ?_) rfl (by kernel_rfl) (fun _ _ _ h => h) (Or.inl ⟨by rfl, fun w' hb => ?_⟩) ?_
          rotate_left
          · have kf := KF w' hb
            go_simp
            with_reducible rfl
          simp only [Act.put, List.setIfInBounds_toArray, List.set_cons_zero, List.set_cons_succ]
          refine seq_take 7 (v := ?_) rfl (by kernel_rfl) (fun _ _ _ h => h) (Or.inl ⟨by rfl, fun w' hb => ?_⟩) ?_
          rotate_left
          · have kf := KF w' hb
            go_simp
            with_reducible rfl
          simp only [Act.put, List.setIfInBounds_toArray, List.set_cons_zero, List.set_cons_succ]
          refine seq_take 8 (v := ?_) rfl (by kernel_rfl) (fun _ _ _ h => h) (Or.inl ⟨by rfl, fun w' hb => ?_⟩) ?_
          rotate_left
          · have kf := KF w' hb
            go_simp
            with_reducible rfl
          simp only [Act.put, List.setIfInBounds_toArray, List.set_cons_zero, List.set_cons_succ]
          refine seq_take 9 (v := ?_) rfl (by kernel_rfl) (fun _ _ _ h => h) (Or.inl ⟨by rfl, fun w' hb => ?_⟩) ?_
          rotate_left
          · have kf := KF w' hb
            go_simp
            with_reducible rfl
          simp only [Act.put, List.setIfInBounds_toArray, List.set_cons_zero, List.set_cons_succ]
          refine seq_take 10 (v := ?_) rfl (by kernel_rfl) (fun _ _ _ h => h) (Or.inl ⟨by rfl, fun w' hb => ?_⟩) ?_
          rotate_left
          · have kf := KF w' hb
            go_simp
            with_reducible rfl
          simp only [Act.put, List.setIfInBounds_toArray, List.set_cons_zero, List.set_cons_succ]
          refine seq_take 11 (v := ?_) rfl (by kernel_rfl) (fun _ _ _ h => h) (Or.inl ⟨by rfl, fun w' hb => ?_⟩) ?_
          rotate_left
          · have kf := KF w' hb
            go_simp
            with_reducible rfl
          simp only [Act.put, List.setIfInBounds_toArray, List.set_cons_zero, List.set_cons_succ]
          refine seq_take 13 (v := ?_) rfl (by kernel_rfl) (fun _ _ _ h => h) (Or.inl ⟨by rfl, fun w' hb => ?_⟩) ?_
          rotate_left
          · have kf := KF w' hb
            go_simp
            with_reducible rfl
          simp only [Act.put, List.setIfInBounds_toArray, List.set_cons_zero, List.set_cons_succ]
          refine seq_take 14 (v := ?_) rfl (by kernel_rfl) (fun _ _ _ h => h) (Or.inl ⟨by rfl, fun w' hb => ?_⟩) ?_
          rotate_left
          · have kf := KF w' hb
            go_simp
            with_reducible rfl
          simp only [Act.put, List.setIfInBounds_toArray, List.set_cons_zero, List.set_cons_succ]
          refine seq_take 15 (v := ?_) rfl (by kernel_rfl) (fun _ _ _ h => h) (Or.inl ⟨by rfl, fun w' hb => ?_⟩) ?_
          rotate_left
          · have kf := KF w' hb
            go_simp
            with_reducible rfl
          simp only [Act.put, List.setIfInBounds_toArray, List.set_cons_zero, List.set_cons_succ]
          refine seq_do 12 rfl (by kernel_rfl) (fun K hK => ?_)
          go_simp
          go_at_call 17
          refine (bytesF k xx p o ab sb lb.length cs lb u n r t at_ (by omega) _ hmay (hRB.below hb8)).mono ?_
          rintro e w9 ⟨v9, rfl, ho9, hb9⟩
          obtain ⟨a9, c9, rfl⟩ := ho9.sl
          refine hK.out _ _ hb9 ?_
          clear hK K
          simp only [List.set_cons_zero, List.set_cons_succ]
          have hb9' := belT hb8 hb9
          replace KF : ∀ w', Below w9.heap.size w9 w' → (loadVar 27 ⟨G2, 1, none⟩).run Try.prog w' = .ok (rv k xx p o ab lb.length lb.length sb u.length cs n r t) w' ∧ w'.cell? ⟨G2, 1, none⟩ = some (.int .i64 k) ∧ w'.cell? ⟨G2, 2, none⟩ = some (.int .u64 xx) ∧ w'.cell? ⟨G2, 3, none⟩ = some (.int .i64 p) ∧ w'.cell? ⟨G2, 4, none⟩ = some (.int .i64 o) ∧ w'.cell? ⟨G2, 5, none⟩ = some (.slice ab lb.length lb.length) ∧ w'.cell? ⟨G2, 6, none⟩ = some (.slice sb u.length cs) ∧ w'.cell? ⟨G2, 7, none⟩ = some (.int .u64 n) ∧ w'.cell? ⟨G2, 8, none⟩ = some (.int .u64 r) ∧ w'.cell? ⟨G2, 9, none⟩ = some (.int .u64 t) := fun w' h => KF0 w' (belT hb9' h)
          refine seq_do 16 rfl (by kernel_rfl) (fun K hK => ?_)
          go_simp
          go_at_call 14
          refine (PE.out a9 c9 _ ho9.bs (HHH.out _ hb9') (HEL hmay).out).mono ?_
          rw [decide_eq_true HEQ.out]
          rintro e w10 ⟨rfl, hb10⟩
          refine hK.out _ _ hb10 ?_
          clear hK K
          simp only [List.set_cons_zero, List.set_cons_succ]
          have hb10' := belT hb9' hb10
          replace KF : ∀ w', Below w10.heap.size w10 w' → (loadVar 27 ⟨G2, 1, none⟩).run Try.prog w' = .ok (rv k xx p o ab lb.length lb.length sb u.length cs n r t) w' ∧ w'.cell? ⟨G2, 1, none⟩ = some (.int .i64 k) ∧ w'.cell? ⟨G2, 2, none⟩ = some (.int .u64 xx) ∧ w'.cell? ⟨G2, 3, none⟩ = some (.int .i64 p) ∧ w'.cell? ⟨G2, 4, none⟩ = some (.int .i64 o) ∧ w'.cell? ⟨G2, 5, none⟩ = some (.slice ab lb.length lb.length) ∧ w'.cell? ⟨G2, 6, none⟩ = some (.slice sb u.length cs) ∧ w'.cell? ⟨G2, 7, none⟩ = some (.int .u64 n) ∧ w'.cell? ⟨G2, 8, none⟩ = some (.int .u64 r) ∧ w'.cell? ⟨G2, 9, none⟩ = some (.int .u64 t) := fun w' h => KF0 w' (belT hb10' h)
          refine seq_take 17 (v := ?_) rfl (by kernel_rfl) (fun _ _ _ h => h) (Or.inl ⟨by rfl, fun w' hb => ?_⟩) ?_
          rotate_left
          · have kf := KF w' hb
            go_simp
            with_reducible rfl
          simp only [Act.put, List.setIfInBounds_toArray, List.set_cons_zero, List.set_cons_succ]
          refine seq_take 18 (v := ?_) rfl (by kernel_rfl) (fun _ _ _ h => h) (Or.inl ⟨by rfl, fun w' hb => ?_⟩) ?_
          rotate_left
          · have kf := KF w' hb
            go_simp
            with_reducible rfl
          simp only [Act.put, List.setIfInBounds_toArray, List.set_cons_zero, List.set_cons_succ]
          refine seq_end (by kernel_rfl) ?_
          have hz : w10.heap[w.heap.size]? = some (.cells #[.int .i64 0, .int .u64 0, .int .i64 0, .int .i64 0, .slice none 0 0, .slice none 0 0, .int .u64 0, .int .u64 0, .int .u64 0] 27 (0, 0)) := by rw [hb10'.block _ (by have := hbel.size; have := HW.out.size; omega), hbel.block _ hbs]; exact HC0.out
          obtain ⟨kf0, kf1, kf2, kf3, kf4, kf5, kf6, kf7, kf8, kf9⟩ := KF w10 (Below.refl _ _)
          clear KF KF0
          go_wp2_with (refine wpList_store_row rfl 27 (.tmp 4) (.tmp 91) rfl w.heap.size #[.int .i64 k, .int .u64 xx, .int .i64 p, .int .i64 o, .slice ab lb.length lb.length, .slice sb u.length cs, .int .u64 n, .int .u64 r, .int .u64 t] rfl rfl 27 #[.int .i64 0, .int .u64 0, .int .i64 0, .int .i64 0, .slice none 0 0, .slice none 0 0, .int .u64 0, .int .u64 0, .int .u64 0] hz (by rw [info27]; rfl) rfl (row_one _ _ _ _ _ _ _ _ _ _ _ _ _) ?_)
          have hfin : (loadVar 27 ⟨w.heap.size, 0, none⟩).run Try.prog (w10.setRow w.heap.size #[.int .i64 k, .int .u64 xx, .int .i64 p, .int .i64 o, .slice ab lb.length lb.length, .slice sb u.length cs, .int .u64 n, .int .u64 r, .int .u64 t]) = .ok (.agg #[.int .i64 k, .int .u64 xx, .int .i64 p, .int .i64 o, .slice ab lb.length lb.length, .slice sb u.length cs, .int .u64 n, .int .u64 r, .int .u64 t]) _ := run_loadVar_row _ _ 27 27 _ (0, 0) _ (setRow_heap _ _ _ _ _ _ hz) Try.underlying27 rfl (by rw [info27]; rfl)
          have hlow : Below w.heap.size w (w10.setRow w.heap.size #[.int .i64 k, .int .u64 xx, .int .i64 p, .int .i64 o, .slice ab lb.length lb.length, .slice sb u.length cs, .int .u64 n, .int .u64 r, .int .u64 t]) := below_setRow ((HW.out.trans (hbel.mono (Nat.le_of_lt hbs))).trans (hb10'.mono (by have := hbel.size; have := HW.out.size; omega))) (Nat.le_refl _) _
          refine bodyPost_ret (v := .tuple #[.agg #[.int .i64 k, .int .u64 xx, .int .i64 p, .int .i64 o, .slice ab lb.length lb.length, .slice sb u.length cs, .int .u64 n, .int .u64 r, .int .u64 t], .int .i64 N, .int .i64 0]) (by exact res11 _ _ w.heap.size _ _ _ rfl rfl rfl hfin) (by rfl) ?_
          unfold OfPost
          rw [← HX.out.1, HX.out.2.1]
          rw [if_pos ⟨hmay, HEQ.out⟩]
          exact ⟨⟨ab, sb, cs, rfl, (hRB.below hb10').setRow _ _ HAW.out.1 HAW.out.2⟩, hlow⟩
        · have HEQ := Lib.hid hEQ
          clear hEQ
          go_wp2_with fail
          refine seq_start 19 [false, false, false, false, false, false, false, false, false, false, false, false, false, false, false, false, false, false, false] (by kernel_rfl) rfl rfl ?_
          refine seq_take 0 (v := ?_) rfl (by kernel_rfl) (fun _ _ _ h => h) (Or.inl ⟨by rfl, fun w' hb => ?_⟩) ?_
          rotate_left
          · have kf := KF w' hb
            go_simp
            with_reducible rfl
          simp only [Act.put, List.setIfInBounds_toArray, List.set_cons_zero, List.set_cons_succ]
          refine seq_take 1 (v := ?_) rfl (by kernel_rfl) (fun _ _ _ h => h) (Or.inl ⟨by rfl, fun w' hb => ?_⟩) ?_
          rotate_left
          · have kf := KF w' hb
            go_simp
            with_reducible rfl
          simp only [Act.put, List.setIfInBounds_toArray, List.set_cons_zero, List.set_cons_succ]
          refine seq_take 2 (v := ?_) rfl (by kernel_rfl) (fun _ _ _ h => h) (Or.inl ⟨by rfl, fun w' hb => ?_⟩) ?_
          rotate_left
          · have kf := KF w' hb
            go_simp
            with_reducible rfl
          simp only [Act.put, List.setIfInBounds_toArray, List.set_cons_zero, List.set_cons_succ]
          refine seq_take 3 (v := ?_) rfl (by kernel_rfl) (fun _ _ _ h => h) (Or.inl ⟨by rfl, fun w' hb => ?_⟩) ?_
          rotate_left
          · have kf := KF w' hb
            go_simp
            with_reducible rfl
          simp only [Act.put, List.setIfInBounds_toArray, List.set_cons_zero, List.set_cons_succ]
          refine seq_do 4 rfl (by kernel_rfl) (fun K hK => ?_)
          go_simp
          go_at_call 16
          refine (MayF k xx p o ab sb lb.length cs lb u n r t _ (hRB.below (Below.refl _ _).drew)).mono ?_
          rw [hmay]
          rintro e w8 ⟨rfl, hb8⟩
          refine hK.out _ _ hb8 ?_
          clear hK K
          simp only [List.set_cons_zero, List.set_cons_succ]
          have hb8 := belT (Below.refl _ _).drew hb8
          replace KF : ∀ w', Below w8.heap.size w8 w' → (loadVar 27 ⟨G2, 1, none⟩).run Try.prog w' = .ok (rv k xx p o ab lb.length lb.length sb u.length cs n r t) w' ∧ w'.cell? ⟨G2, 1, none⟩ = some (.int .i64 k) ∧ w'.cell? ⟨G2, 2, none⟩ = some (.int .u64 xx) ∧ w'.cell? ⟨G2, 3, none⟩ = some (.int .i64 p) ∧ w'.cell? ⟨G2, 4, none⟩ = some (.int .i64 o) ∧ w'.cell? ⟨G2, 5, none⟩ = some (.slice ab lb.length lb.length) ∧ w'.cell? ⟨G2, 6, none⟩ = some (.slice sb u.length cs) ∧ w'.cell? ⟨G2, 7, none⟩ = some (.int .u64 n) ∧ w'.cell? ⟨G2, 8, none⟩ = some (.int .u64 r) ∧ w'.cell? ⟨G2, 9, none⟩ = some (.int .u64 t) := fun w' h => KF0 w' (belT hb8 h)
          refine seq_take 5 (v := ?_) rfl (by kernel_rfl) (fun _ _ _ h => h) (Or.inl ⟨by rfl, fun w' hb => ?_⟩) ?_
          rotate_left
          · have kf := KF w' hb
            go_simp
            with_reducible rfl
          simp only [Act.put, List.setIfInBounds_toArray, List.set_cons_zero, List.set_cons_succ]
          refine seq_take 6 (v := ?_) rfl (by kernel_rfl) (fun _ _ _ h => h) (Or.inl ⟨by rfl, fun w' hb => ?_⟩) ?_
          rotate_left
          · have kf := KF w' hb
            go_simp
            with_reducible rfl
          simp only [Act.put, List.setIfInBounds_toArray, List.set_cons_zero, List.set_cons_succ]
          refine seq_take 7 (v := ?_) rfl (by kernel_rfl) (fun _ _ _ h => h) (Or.inl ⟨by rfl, fun w' hb => ?_⟩) ?_
          rotate_left
          · have kf := KF w' hb
            go_simp
            with_reducible rfl
          simp only [Act.put, List.setIfInBounds_toArray, List.set_cons_zero, List.set_cons_succ]
          refine seq_take 8 (v := ?_) rfl (by kernel_rfl) (fun _ _ _ h => h) (Or.inl ⟨by rfl, fun w' hb => ?_⟩) ?_
          rotate_left
          · have kf := KF w' hb
            go_simp
            with_reducible rfl
          simp only [Act.put, List.setIfInBounds_toArray, List.set_cons_zero, List.set_cons_succ]
          refine seq_take 9 (v := ?_) rfl (by kernel_rfl) (fun _ _ _ h => h) (Or.inl ⟨by rfl, fun w' hb => ?_⟩) ?_
          rotate_left
          · have kf := KF w' hb
            go_simp
            with_reducible rfl
          simp only [Act.put, List.setIfInBounds_toArray, List.set_cons_zero, List.set_cons_succ]
          refine seq_take 10 (v := ?_) rfl (by kernel_rfl) (fun _ _ _ h => h) (Or.inl ⟨by rfl, fun w' hb => ?_⟩) ?_
          rotate_left
          · have kf := KF w' hb
            go_simp
            with_reducible rfl
          simp only [Act.put, List.setIfInBounds_toArray, List.set_cons_zero, List.set_cons_succ]
          refine seq_take 11 (v := ?_) rfl (by kernel_rfl) (fun _ _ _ h => h) (Or.inl ⟨by rfl, fun w' hb => ?_⟩) ?_
          rotate_left
          · have kf := KF w' hb
            go_simp
            with_reducible rfl
          simp only [Act.put, List.setIfInBounds_toArray, List.set_cons_zero, List.set_cons_succ]
          refine seq_take 13 (v := ?_) rfl (by kernel_rfl) (fun _ _ _ h => h) (Or.inl ⟨by rfl, fun w' hb => ?_⟩) ?_
          rotate_left
          · have kf := KF w' hb
            go_simp
            with_reducible rfl
          simp only [Act.put, List.setIfInBounds_toArray, List.set_cons_zero, List.set_cons_succ]
          refine seq_take 14 (v := ?_) rfl (by kernel_rfl) (fun _ _ _ h => h) (Or.inl ⟨by rfl, fun w' hb => ?_⟩) ?_
          rotate_left
          · have kf := KF w' hb
            go_simp
            with_reducible rfl
          simp only [Act.put, List.setIfInBounds_toArray, List.set_cons_zero, List.set_cons_succ]
          refine seq_take 15 (v := ?_) rfl (by kernel_rfl) (fun _ _ _ h => h) (Or.inl ⟨by rfl, fun w' hb => ?_⟩) ?_
          rotate_left
          · have kf := KF w' hb
            go_simp
            with_reducible rfl
          simp only [Act.put, List.setIfInBounds_toArray, List.set_cons_zero, List.set_cons_succ]
          refine seq_do 12 rfl (by kernel_rfl) (fun K hK => ?_)
          go_simp
          go_at_call 17
          refine (bytesF k xx p o ab sb lb.length cs lb u n r t at_ (by omega) _ hmay (hRB.below hb8)).mono ?_
          rintro e w9 ⟨v9, rfl, ho9, hb9⟩
          obtain ⟨a9, c9, rfl⟩ := ho9.sl
          refine hK.out _ _ hb9 ?_
          clear hK K
          simp only [List.set_cons_zero, List.set_cons_succ]
          have hb9' := belT hb8 hb9
          replace KF : ∀ w', Below w9.heap.size w9 w' → (loadVar 27 ⟨G2, 1, none⟩).run Try.prog w' = .ok (rv k xx p o ab lb.length lb.length sb u.length cs n r t) w' ∧ w'.cell? ⟨G2, 1, none⟩ = some (.int .i64 k) ∧ w'.cell? ⟨G2, 2, none⟩ = some (.int .u64 xx) ∧ w'.cell? ⟨G2, 3, none⟩ = some (.int .i64 p) ∧ w'.cell? ⟨G2, 4, none⟩ = some (.int .i64 o) ∧ w'.cell? ⟨G2, 5, none⟩ = some (.slice ab lb.length lb.length) ∧ w'.cell? ⟨G2, 6, none⟩ = some (.slice sb u.length cs) ∧ w'.cell? ⟨G2, 7, none⟩ = some (.int .u64 n) ∧ w'.cell? ⟨G2, 8, none⟩ = some (.int .u64 r) ∧ w'.cell? ⟨G2, 9, none⟩ = some (.int .u64 t) := fun w' h => KF0 w' (belT hb9' h)
          refine seq_do 16 rfl (by kernel_rfl) (fun K hK => ?_)
          go_simp
          go_at_call 14
          refine (PE.out a9 c9 _ ho9.bs (HHH.out _ hb9') (HEL hmay).out).mono ?_
          rw [decide_eq_false HEQ.out]
          rintro e w10 ⟨rfl, hb10⟩
          refine hK.out _ _ hb10 ?_
          clear hK K
          simp only [List.set_cons_zero, List.set_cons_succ]
          have hb10' := belT hb9' hb10
          replace KF : ∀ w', Below w10.heap.size w10 w' → (loadVar 27 ⟨G2, 1, none⟩).run Try.prog w' = .ok (rv k xx p o ab lb.length lb.length sb u.length cs n r t) w' ∧ w'.cell? ⟨G2, 1, none⟩ = some (.int .i64 k) ∧ w'.cell? ⟨G2, 2, none⟩ = some (.int .u64 xx) ∧ w'.cell? ⟨G2, 3, none⟩ = some (.int .i64 p) ∧ w'.cell? ⟨G2, 4, none⟩ = some (.int .i64 o) ∧ w'.cell? ⟨G2, 5, none⟩ = some (.slice ab lb.length lb.length) ∧ w'.cell? ⟨G2, 6, none⟩ = some (.slice sb u.length cs) ∧ w'.cell? ⟨G2, 7, none⟩ = some (.int .u64 n) ∧ w'.cell? ⟨G2, 8, none⟩ = some (.int .u64 r) ∧ w'.cell? ⟨G2, 9, none⟩ = some (.int .u64 t) := fun w' h => KF0 w' (belT hb10' h)
          refine seq_take 17 (v := ?_) rfl (by kernel_rfl) (fun _ _ _ h => h) (Or.inl ⟨by rfl, fun w' hb => ?_⟩) ?_
          rotate_left
          · have kf := KF w' hb
            go_simp
            with_reducible rfl
          simp only [Act.put, List.setIfInBounds_toArray, List.set_cons_zero, List.set_cons_succ]
          refine seq_take 18 (v := ?_) rfl (by kernel_rfl) (fun _ _ _ h => h) (Or.inl ⟨by rfl, fun w' hb => ?_⟩) ?_
          rotate_left
          · have kf := KF w' hb
            go_simp
            with_reducible rfl
          simp only [Act.put, List.setIfInBounds_toArray, List.set_cons_zero, List.set_cons_succ]
          refine seq_end (by kernel_rfl) ?_
          have hz : w10.heap[w.heap.size]? = some (.cells #[.int .i64 0, .int .u64 0, .int .i64 0, .int .i64 0, .slice none 0 0, .slice none 0 0, .int .u64 0, .int .u64 0, .int .u64 0] 27 (0, 0)) := by rw [hb10'.block _ (by have := hbel.size; have := HW.out.size; omega), hbel.block _ hbs]; exact HC0.out
          clear KF KF0
          go_wp2_with (refine wpList_store_row rfl 27 (.tmp 4) (.tmp 87) rfl w.heap.size #[.int .i64 0, .int .u64 0, .int .i64 0, .int .i64 0, .slice none 0 0, .slice none 0 0, .int .u64 0, .int .u64 0, .int .u64 0] rfl rfl 27 #[.int .i64 0, .int .u64 0, .int .i64 0, .int .i64 0, .slice none 0 0, .slice none 0 0, .int .u64 0, .int .u64 0, .int .u64 0] hz (by rw [info27]; rfl) rfl (row_one _ _ _ _ _ _ _ _ _ _ _ _ _) ?_)
          have hfin : (loadVar 27 ⟨w.heap.size, 0, none⟩).run Try.prog (w10.setRow w.heap.size #[.int .i64 0, .int .u64 0, .int .i64 0, .int .i64 0, .slice none 0 0, .slice none 0 0, .int .u64 0, .int .u64 0, .int .u64 0]) = .ok (.agg #[.int .i64 0, .int .u64 0, .int .i64 0, .int .i64 0, .slice none 0 0, .slice none 0 0, .int .u64 0, .int .u64 0, .int .u64 0]) _ := run_loadVar_row _ _ 27 27 _ (0, 0) _ (setRow_heap _ _ _ _ _ _ hz) Try.underlying27 rfl (by rw [info27]; rfl)
          have hlow : Below w.heap.size w (w10.setRow w.heap.size #[.int .i64 0, .int .u64 0, .int .i64 0, .int .i64 0, .slice none 0 0, .slice none 0 0, .int .u64 0, .int .u64 0, .int .u64 0]) := below_setRow ((HW.out.trans (hbel.mono (Nat.le_of_lt hbs))).trans (hb10'.mono (by have := hbel.size; have := HW.out.size; omega))) (Nat.le_refl _) _
          refine bodyPost_ret (v := .tuple #[.agg #[.int .i64 0, .int .u64 0, .int .i64 0, .int .i64 0, .slice none 0 0, .slice none 0 0, .int .u64 0, .int .u64 0, .int .u64 0], .int .i64 0, .int .i64 4]) (by exact res11 _ _ w.heap.size _ _ _ rfl rfl rfl hfin) (by rfl) ?_
          unfold OfPost
          rw [← HX.out.1, HX.out.2.1]
          rw [if_neg (fun h => HEQ.out h.2)]
          exact ⟨rfl, hlow⟩
      · have hmay : mayB ⟨k, xx, p, o, lb, u, n, r, t⟩ = false := by simpa using hmay
        go_wp2_with fail
        refine seq_start 19 [false, false, false, false, false, false, false, false, false, false, false, false, false, false, false, false, false, false, false] (by kernel_rfl) rfl rfl ?_
        refine seq_take 0 (v := ?_) rfl (by kernel_rfl) (fun _ _ _ h => h) (Or.inl ⟨by rfl, fun w' hb => ?_⟩) ?_
        rotate_left
        · have kf := KF w' hb
          go_simp
          with_reducible rfl
        simp only [Act.put, List.setIfInBounds_toArray, List.set_cons_zero, List.set_cons_succ]
        refine seq_take 1 (v := ?_) rfl (by kernel_rfl) (fun _ _ _ h => h) (Or.inl ⟨by rfl, fun w' hb => ?_⟩) ?_
        rotate_left
        · have kf := KF w' hb
          go_simp
          with_reducible rfl
        simp only [Act.put, List.setIfInBounds_toArray, List.set_cons_zero, List.set_cons_succ]
        refine seq_take 2 (v := ?_) rfl (by kernel_rfl) (fun _ _ _ h => h) (Or.inl ⟨by rfl, fun w' hb => ?_⟩) ?_
        rotate_left
        · have kf := KF w' hb
          go_simp
          with_reducible rfl
        simp only [Act.put, List.setIfInBounds_toArray, List.set_cons_zero, List.set_cons_succ]
        refine seq_take 3 (v := ?_) rfl (by kernel_rfl) (fun _ _ _ h => h) (Or.inl ⟨by rfl, fun w' hb => ?_⟩) ?_
        rotate_left
        · have kf := KF w' hb
          go_simp
          with_reducible rfl
        simp only [Act.put, List.setIfInBounds_toArray, List.set_cons_zero, List.set_cons_succ]
        refine seq_do 4 rfl (by kernel_rfl) (fun K hK => ?_)
        go_simp
        go_at_call 16
        refine (MayF k xx p o ab sb lb.length cs lb u n r t _ (hRB.below (Below.refl _ _).drew)).mono ?_
        rw [hmay]
        rintro e w8 ⟨rfl, hb8⟩
        refine hK.out _ _ hb8 ?_
        clear hK K
        simp only [List.set_cons_zero, List.set_cons_succ]
        have hb8 := belT (Below.refl _ _).drew hb8
        replace KF : ∀ w', Below w8.heap.size w8 w' → (loadVar 27 ⟨G2, 1, none⟩).run Try.prog w' = .ok (rv k xx p o ab lb.length lb.length sb u.length cs n r t) w' ∧ w'.cell? ⟨G2, 1, none⟩ = some (.int .i64 k) ∧ w'.cell? ⟨G2, 2, none⟩ = some (.int .u64 xx) ∧ w'.cell? ⟨G2, 3, none⟩ = some (.int .i64 p) ∧ w'.cell? ⟨G2, 4, none⟩ = some (.int .i64 o) ∧ w'.cell? ⟨G2, 5, none⟩ = some (.slice ab lb.length lb.length) ∧ w'.cell? ⟨G2, 6, none⟩ = some (.slice sb u.length cs) ∧ w'.cell? ⟨G2, 7, none⟩ = some (.int .u64 n) ∧ w'.cell? ⟨G2, 8, none⟩ = some (.int .u64 r) ∧ w'.cell? ⟨G2, 9, none⟩ = some (.int .u64 t) := fun w' h => KF0 w' (belT hb8 h)
        refine seq_take 5 (v := ?_) rfl (by kernel_rfl) (fun _ _ _ h => h) (Or.inl ⟨by rfl, fun w' hb => ?_⟩) ?_
        rotate_left
        · have kf := KF w' hb
          go_simp
          with_reducible rfl
        simp only [Act.put, List.setIfInBounds_toArray, List.set_cons_zero, List.set_cons_succ]
        refine seq_take 6 (v := ?_) rfl (by kernel_rfl) (fun _ _ _ h => h) (Or.inl ⟨by rfl, fun w' hb => ?_⟩) ?_
        rotate_left
        · have kf := KF w' hb
          go_simp
          with_reducible rfl
        simp only [Act.put, List.setIfInBounds_toArray, List.set_cons_zero, List.set_cons_succ]
        refine seq_take 7 (v := undef) rfl (by kernel_rfl) (fun _ _ _ h => h) (Or.inr ⟨by rfl, rfl⟩) ?_
        simp only [Act.put, List.setIfInBounds_toArray, List.set_cons_zero, List.set_cons_succ]
        refine seq_take 8 (v := undef) rfl (by kernel_rfl) (fun _ _ _ h => h) (Or.inr ⟨by rfl, rfl⟩) ?_
        simp only [Act.put, List.setIfInBounds_toArray, List.set_cons_zero, List.set_cons_succ]
        refine seq_take 9 (v := undef) rfl (by kernel_rfl) (fun _ _ _ h => h) (Or.inr ⟨by rfl, rfl⟩) ?_
        simp only [Act.put, List.setIfInBounds_toArray, List.set_cons_zero, List.set_cons_succ]
        refine seq_take 10 (v := undef) rfl (by kernel_rfl) (fun _ _ _ h => h) (Or.inr ⟨by rfl, rfl⟩) ?_
        simp only [Act.put, List.setIfInBounds_toArray, List.set_cons_zero, List.set_cons_succ]
        refine seq_take 11 (v := undef) rfl (by kernel_rfl) (fun _ _ _ h => h) (Or.inr ⟨by rfl, rfl⟩) ?_
        simp only [Act.put, List.setIfInBounds_toArray, List.set_cons_zero, List.set_cons_succ]
        refine seq_take 12 (v := undef) rfl (by kernel_rfl) (fun _ _ _ h => h) (Or.inr ⟨by rfl, rfl⟩) ?_
        simp only [Act.put, List.setIfInBounds_toArray, List.set_cons_zero, List.set_cons_succ]
        refine seq_take 13 (v := undef) rfl (by kernel_rfl) (fun _ _ _ h => h) (Or.inr ⟨by rfl, rfl⟩) ?_
        simp only [Act.put, List.setIfInBounds_toArray, List.set_cons_zero, List.set_cons_succ]
        refine seq_take 14 (v := undef) rfl (by kernel_rfl) (fun _ _ _ h => h) (Or.inr ⟨by rfl, rfl⟩) ?_
        simp only [Act.put, List.setIfInBounds_toArray, List.set_cons_zero, List.set_cons_succ]
        refine seq_take 15 (v := undef) rfl (by kernel_rfl) (fun _ _ _ h => h) (Or.inr ⟨by rfl, rfl⟩) ?_
        simp only [Act.put, List.setIfInBounds_toArray, List.set_cons_zero, List.set_cons_succ]
        refine seq_take 16 (v := undef) rfl (by kernel_rfl) (fun _ _ _ h => h) (Or.inr ⟨by rfl, rfl⟩) ?_
        simp only [Act.put, List.setIfInBounds_toArray, List.set_cons_zero, List.set_cons_succ]
        refine seq_take 17 (v := undef) rfl (by kernel_rfl) (fun _ _ _ h => h) (Or.inr ⟨by rfl, rfl⟩) ?_
        simp only [Act.put, List.setIfInBounds_toArray, List.set_cons_zero, List.set_cons_succ]
        refine seq_take 18 (v := ?_) rfl (by kernel_rfl) (fun _ _ _ h => h) (Or.inl ⟨by rfl, fun w' hb => ?_⟩) ?_
        rotate_left
        · have kf := KF w' hb
          go_simp
          with_reducible rfl
        simp only [Act.put, List.setIfInBounds_toArray, List.set_cons_zero, List.set_cons_succ]
        refine seq_end (by kernel_rfl) ?_
        have hz : w8.heap[w.heap.size]? = some (.cells #[.int .i64 0, .int .u64 0, .int .i64 0, .int .i64 0, .slice none 0 0, .slice none 0 0, .int .u64 0, .int .u64 0, .int .u64 0] 27 (0, 0)) := by rw [hb8.block _ (by have := hbel.size; have := HW.out.size; omega), hbel.block _ hbs]; exact HC0.out
        clear KF KF0
        go_wp2_with (refine wpList_store_row rfl 27 (.tmp 4) (.tmp 87) rfl w.heap.size #[.int .i64 0, .int .u64 0, .int .i64 0, .int .i64 0, .slice none 0 0, .slice none 0 0, .int .u64 0, .int .u64 0, .int .u64 0] rfl rfl 27 #[.int .i64 0, .int .u64 0, .int .i64 0, .int .i64 0, .slice none 0 0, .slice none 0 0, .int .u64 0, .int .u64 0, .int .u64 0] hz (by rw [info27]; rfl) rfl (row_one _ _ _ _ _ _ _ _ _ _ _ _ _) ?_)
        have hfin : (loadVar 27 ⟨w.heap.size, 0, none⟩).run Try.prog (w8.setRow w.heap.size #[.int .i64 0, .int .u64 0, .int .i64 0, .int .i64 0, .slice none 0 0, .slice none 0 0, .int .u64 0, .int .u64 0, .int .u64 0]) = .ok (.agg #[.int .i64 0, .int .u64 0, .int .i64 0, .int .i64 0, .slice none 0 0, .slice none 0 0, .int .u64 0, .int .u64 0, .int .u64 0]) _ := run_loadVar_row _ _ 27 27 _ (0, 0) _ (setRow_heap _ _ _ _ _ _ hz) Try.underlying27 rfl (by rw [info27]; rfl)
        have hlow : Below w.heap.size w (w8.setRow w.heap.size #[.int .i64 0, .int .u64 0, .int .i64 0, .int .i64 0, .slice none 0 0, .slice none 0 0, .int .u64 0, .int .u64 0, .int .u64 0]) := below_setRow ((HW.out.trans (hbel.mono (Nat.le_of_lt hbs))).trans (hb8.mono (by have := hbel.size; have := HW.out.size; omega))) (Nat.le_refl _) _
        refine bodyPost_ret (v := .tuple #[.agg #[.int .i64 0, .int .u64 0, .int .i64 0, .int .i64 0, .slice none 0 0, .slice none 0 0, .int .u64 0, .int .u64 0, .int .u64 0], .int .i64 0, .int .i64 4]) (by exact res11 _ _ w.heap.size _ _ _ rfl rfl rfl hfin) (by rfl) ?_
        unfold OfPost
        rw [← HX.out.1, HX.out.2.1]
        rw [if_neg (fun h => by rw [hmay] at h; cases h.1)]
        exact ⟨rfl, hlow⟩

end Go.Proofs.Ytokijkinlcdjeaa

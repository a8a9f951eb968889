/- bytes: what stands for a record. -/
import Derived.Test.YtokijkinlcdjeaaRecF
import Derived.Test.YtokijkinlcdjeaaCrc
import Derived.Lib.OthersKept
namespace Go.Proofs.Ytokijkinlcdjeaa
open Go.RowKit WireM

def encL (c : UInt8) (r : Rec) : List UInt8 :=
  if c = 120 then be r.xid 8 else if c = 110 then be r.next 8 else if c = 114 then be r.redo 8 else if c = 116 then be r.tl 8 else if c = 112 then be r.page.toNat 2 else if c = 111 then be r.off.toNat 2 else if c = 98 then be r.bytes.length 2 ++ r.bytes else if c = 115 then be r.subs.length 2 ++ beS r.subs else []
def encF (F : List UInt8) (r : Rec) : List UInt8 := (F.map fun c => encL c r).flatten
theorem encF_snoc (F : List UInt8) (r : Rec) (k : Nat) (h : k < F.length) : encF (F.take (k + 1)) r = encF (F.take k) r ++ encL F[k] r := by
  rw [take_snoc F k h]; simp only [encF, List.map_append, List.map_cons, List.map_nil, List.flatten_append, List.flatten_cons, List.flatten_nil, List.append_nil]
def bodyL (r : Rec) : List UInt8 := UInt8.ofNat r.kind.toNat :: encF (formL r.kind) r
def isLet (c : UInt8) : Prop := c = 120 ∨ c = 110 ∨ c = 114 ∨ c = 116 ∨ c = 112 ∨ c = 111 ∨ c = 98 ∨ c = 115
instance (c : UInt8) : Decidable (isLet c) := by unfold isLet; infer_instance
theorem form_in (k : Int) : formL k ∈ ([[120, 112, 111, 98], [120, 112, 98], [120, 115], [120], [110, 115], [110, 114], [114, 116], []] : List (List UInt8)) := by
  unfold formL
  repeat' split
  all_goals simp
theorem form_let (k : Int) : ∀ c ∈ formL k, isLet c := by
  have h : ∀ F ∈ ([[120, 112, 111, 98], [120, 112, 98], [120, 115], [120], [110, 115], [110, 114], [114, 116], []] : List (List UInt8)), ∀ c ∈ F, isLet c := by decide
  exact h _ (form_in k)
theorem form_len (k : Int) : (formL k).length ≤ 4 := by
  have h : ∀ F ∈ ([[120, 112, 111, 98], [120, 112, 98], [120, 115], [120], [110, 115], [110, 114], [114, 116], []] : List (List UInt8)), F.length ≤ 4 := by decide
  exact h _ (form_in k)
abbrev partsE : Array MapEntry := #[⟨.int .i32 120, .agg #[.func (.func 30) #[] #[], .func (.func 31) #[] #[]], 0⟩, ⟨.int .i32 110, .agg #[.func (.func 32) #[] #[], .func (.func 33) #[] #[]], 1⟩, ⟨.int .i32 114, .agg #[.func (.func 34) #[] #[], .func (.func 35) #[] #[]], 2⟩, ⟨.int .i32 116, .agg #[.func (.func 36) #[] #[], .func (.func 37) #[] #[]], 3⟩, ⟨.int .i32 112, .agg #[.func (.func 38) #[] #[], .func (.func 39) #[] #[]], 4⟩, ⟨.int .i32 111, .agg #[.func (.func 40) #[] #[], .func (.func 41) #[] #[]], 5⟩, ⟨.int .i32 98, .agg #[.func (.func 42) #[] #[], .func (.func 43) #[] #[]], 6⟩, ⟨.int .i32 115, .agg #[.func (.func 44) #[] #[], .func (.func 45) #[] #[]], 7⟩]
theorem partsE_eq : partsO = .map partsE 8 := rfl
theorem wAny (c : UInt8) (hc : isLet c) : ∃ i f, Instr.findNow (.int .i32) (.int .i32 (c.toNat : Int)) partsE.toList 0 = some (some (i, .agg #[.func (.func f) #[] #[], .func (.func (f + 1)) #[] #[]])) ∧ (∀ args w, (callFunc f args).run Try.prog w = .ok (.enter f args) w) ∧
    ∀ (k : Int) (x : Nat) (p o : Int) (ab sb : Option Addr) (cb cs : Nat) (l : List UInt8) (u : List Nat) (n r t : Nat) (_ : RN ⟨k, x, p, o, l, u, n, r, t⟩) (w0 w : World) (gw : Nat) (v : Value) (m : List UInt8) (_ : RB w0 ⟨k, x, p, o, l, u, n, r, t⟩ ab sb cb cs) (_ : Below w0.heap.size w0 w) (_ : WB w w0.heap.size gw v m) (_ : m.length ≤ 500000),
    Calls Try.prog f #[.pointer (some ⟨gw, 0, none⟩), rv k x p o ab l.length cb sb u.length cs n r t] w fun e w' => e = .returned (.tuple #[]) ∧ WStep w w0.heap.size gw v (m ++ encL c ⟨k, x, p, o, l, u, n, r, t⟩) w' := by
  rcases hc with rfl | rfl | rfl | rfl | rfl | rfl | rfl | rfl
  · exact ⟨0, 30, by rfl, fun args w => by kernel_rfl, fun k x p o ab sb cb cs l u n r t => wXid k x p o ab sb cb cs l u n r t⟩
  · exact ⟨1, 32, by rfl, fun args w => by kernel_rfl, fun k x p o ab sb cb cs l u n r t => wNext k x p o ab sb cb cs l u n r t⟩
  · exact ⟨2, 34, by rfl, fun args w => by kernel_rfl, fun k x p o ab sb cb cs l u n r t => wRedo k x p o ab sb cb cs l u n r t⟩
  · exact ⟨3, 36, by rfl, fun args w => by kernel_rfl, fun k x p o ab sb cb cs l u n r t => wTl k x p o ab sb cb cs l u n r t⟩
  · exact ⟨4, 38, by rfl, fun args w => by kernel_rfl, fun k x p o ab sb cb cs l u n r t => wPage k x p o ab sb cb cs l u n r t⟩
  · exact ⟨5, 40, by rfl, fun args w => by kernel_rfl, fun k x p o ab sb cb cs l u n r t => wOff k x p o ab sb cb cs l u n r t⟩
  · exact ⟨6, 42, by rfl, fun args w => by kernel_rfl, fun k x p o ab sb cb cs l u n r t => wBytes k x p o ab sb cb cs l u n r t⟩
  · exact ⟨7, 44, by rfl, fun args w => by kernel_rfl, fun k x p o ab sb cb cs l u n r t => wSubs k x p o ab sb cb cs l u n r t⟩
theorem encL_len (c : UInt8) (r : Rec) (h1 : r.bytes.length ≤ 1024) (h2 : r.subs.length ≤ 256) : (encL c r).length ≤ 2050 := by
  unfold encL
  repeat' split
  all_goals simp only [List.length_append, be_length, beS_len, List.length_nil]
  all_goals omega
theorem rising_lt (a b : Nat) (l : List Nat) (h : risingL a b l = true) : ∀ n ∈ l, n < b := by
  induction l generalizing a with
  | nil => intro n hn; cases hn
  | cons m l ih =>
    simp only [risingL, Bool.and_eq_true, decide_eq_true_eq] at h
    intro n hn
    rcases List.mem_cons.1 hn with rfl | hn
    · exact h.1.2
    · exact ih m h.2 n hn
theorem mayN (R : Rec) (h : mayB R = true) : RN R ∧ R.bytes.length ≤ 1024 ∧ R.subs.length ≤ 256 ∧ 1 ≤ R.kind ∧ R.kind ≤ 8 := by
  obtain ⟨k, x, p, o, l, u, n, r, t⟩ := R
  simp only [mayB, Bool.and_eq_true, decide_eq_true_eq] at h
  obtain ⟨hb, hp0, hp1, hx, hr, hk⟩ := h
  by_cases hk0 : 1 ≤ k ∧ k ≤ 8
  · obtain rfl | rfl | rfl | rfl | rfl | rfl | rfl | rfl : k = 1 ∨ k = 2 ∨ k = 3 ∨ k = 4 ∨ k = 5 ∨ k = 6 ∨ k = 7 ∨ k = 8 := by omega
    all_goals simp [bareR] at hb
    all_goals simp [kindB] at hk
    all_goals (first
      | (have hus := rising_lt _ _ _ hk.2.1; refine ⟨⟨by simp; omega, by simp; omega, by simp; omega, by simp; omega, by simp; omega, by simp; omega, by simp; omega, by simp; omega, by simp [hb], by simp; omega, fun n hn => by have := hus n hn; omega⟩, by simp [hb], by simp; omega, by simp, by simp⟩)
      | (refine ⟨⟨by simp; omega, by simp; omega, by simp; omega, by simp; omega, by simp; omega, by simp; omega, by simp; omega, by simp; omega, by first | (simp; omega) | simp [hb], by simp [hb], by simp [hb]⟩, by first | (simp; omega) | simp [hb], by simp [hb], by simp, by simp⟩))
  · exfalso
    simp only [kindB] at hk
    rw [if_neg (by omega), if_neg (by omega), if_neg (by omega), if_neg (by omega), if_neg (by omega), if_neg (by omega), if_neg (by omega), if_neg (by omega)] at hk
    cases hk
def posOf (w : World) (b : Nat) : Nat := match w.heap[b]? with | some (.stringIter _ p) => p | _ => 0
theorem letter_at (F : List UInt8) (j : Nat) (_ : j < F.length) (h' : j < (str F).size) : (str F)[j]'h' = F[j] := by
  show (str F).data[j]'h' = F[j]
  simp only [str, List.getElem_toArray]; rfl
theorem let_lt (c : UInt8) (h : isLet c) : c.toNat < 128 := by
  rcases h with rfl | rfl | rfl | rfl | rfl | rfl | rfl | rfl <;> decide
theorem next_str (F : List UInt8) (w : World) (it j : Nat) (hk : w.heap[it]? = some (.stringIter (str F) j)) (hlt : j < F.length) (hl : F[j].toNat < 128) (ty : TypeId) :
    (Instr.next (.pointer (some ⟨it, 0, none⟩)) true ty).run Try.prog w = .ok (.tuple #[.bool true, .int .i64 j, .int .i32 (F[j].toNat : Int)]) (w.iterAt it (str F) (j + 1)) := by
  have h' : j < (str F).size := hlt
  have e : (str F)[j]'h' = F[j] := letter_at F j hlt h'
  have := Lib.run_next_ascii_at (P := Try.prog) w it (str F) j ty hk h' (by rw [e]; exact hl)
  rwa [e] at this
structure BI (w wr : World) (it : Nat) (F : List UInt8) (m0 : List UInt8) (k : Int) (x : Nat) (p o : Int) (ab sb : Option Addr) (cb cs : Nat) (l : List UInt8) (u : List Nat) (n r t : Nat) (v : Value) (j : Nat) : Prop where
  iter : wr.heap[it]? = some (.stringIter (str F) j)
  wb : WB wr w.heap.size (w.heap.size + 1 + 1) v (m0 ++ encF (F.take j) ⟨k, x, p, o, l, u, n, r, t⟩)
  n1 : v.ownBlock ≠ some w.heap.size
  n2 : v.ownBlock ≠ some (w.heap.size + 1 + 1 + 1)
  n3 : v.ownBlock ≠ some it
  box : wr.heap[w.heap.size]? = some (.cells #[.int .i64 k, .int .u64 x, .int .i64 p, .int .i64 o, .slice ab l.length cb, .slice sb u.length cs, .int .u64 n, .int .u64 r, .int .u64 t] 27)
  map : wr.heap[w.heap.size + 1 + 1 + 1]? = some partsO
  low : Below w.heap.size w wr
  lt : w.heap.size + 1 + 1 + 1 < it
theorem WB.kept {w w' : World} {base gw it : Nat} {v : Value} {m : List UInt8} (h : WB w base gw v m) (hg : w.grownBy w' (some it)) (h1 : gw ≠ it) (h2 : v.ownBlock ≠ some it) : WB w' base gw v m :=
  ⟨h.up, (hg.block gw h.lt (fun e => h1 (by injection e))).trans h.cell, h.own.kept hg (.inr h2), h.ne⟩
theorem grown_iter {w : World} {it : Nat} (s : ByteArray) (q : Nat) : w.grownBy (w.iterAt it s q) (some it) :=
  ⟨rfl, rfl, rfl, by rw [Lib.iterAt_size]; exact Nat.le_refl _, fun j _ h => Lib.iterAt_other _ _ _ _ _ (fun e => h (by rw [e]))⟩
theorem step_ne {w : World} {v v' : Value} {q : Nat} (hv : v'.ownBlock = v.ownBlock ∨ ∃ n, v'.ownBlock = some n ∧ w.heap.size ≤ n) (h : v.ownBlock ≠ some q) (hq : q < w.heap.size) : v'.ownBlock ≠ some q := by
  rcases hv with e | ⟨n, e, hn⟩
  · rw [e]; exact h
  · rw [e]; intro e'; injection e'; omega
theorem OwnB.nn {w : World} {base n c : Nat} {m : List UInt8} (h : OwnB w base (.slice none n c) m) : c = 0 := by
  rcases h.2 with ⟨e, h0⟩ | ⟨g, cap, cur, e, _⟩
  · injection e
  · cases e
theorem OwnB.same {w w' : World} {base : Nat} {v : Value} {m : List UInt8} (h : OwnB w base v m) (hb' : ∀ g, v.ownBlock = some g → w'.heap[g]? = w.heap[g]?) : OwnB w' base v m := by
  rcases h.2 with ⟨rfl, h0⟩ | ⟨g, cap, cur, rfl, hb, hg, hn, hm, hs, ht⟩
  · exact ⟨h.1, .inl ⟨rfl, h0⟩⟩
  · exact ⟨h.1, .inr ⟨g, cap, cur, rfl, hb, (hb' g rfl).trans hg, hn, hm, hs, ht⟩⟩
theorem WB.g2 {w w' : World} {base gw hw : Nat} {v : Value} {b : Option Nat} {m : List UInt8} (h : WB w base gw v m) (g : G2 w w' hw b) (h1 : gw ≠ hw) (h2 : b ≠ some gw) (h3 : v.ownBlock ≠ some hw) (h4 : ∀ q, v.ownBlock = some q → b ≠ some q) : WB w' base gw v m :=
  ⟨h.up, (g.block gw h.lt h1 h2).trans h.cell, h.own.same fun q e => g.block q (h.blk e).2 (fun e' => h3 (by rw [e, e'])) (h4 q e), h.ne⟩
def headL (R : Rec) (at_ : Nat) : List UInt8 := be (16 + (bodyL R).length) 4 ++ be at_ 8
def encR (R : Rec) (at_ : Nat) : List UInt8 := headL R at_ ++ be (CrcM.sum (headL R at_ ++ bodyL R)).toNat 4 ++ bodyL R
theorem encF_len (F : List UInt8) (R : Rec) (h1 : R.bytes.length ≤ 1024) (h2 : R.subs.length ≤ 256) : (encF F R).length ≤ 2050 * F.length := by
  induction F with
  | nil => simp [encF]
  | cons c F ih =>
    have := encL_len c R h1 h2
    simp only [encF, List.map_cons, List.flatten_cons, List.length_append, List.length_cons] at ih ⊢
    omega
theorem BIstart (k : Int) (x : Nat) (p o : Int) (ab sb : Option Addr) (cb cs : Nat) (l : List UInt8) (u : List Nat) (n r t : Nat) (w w1 w2 : World) (hk : 1 ≤ k ∧ k ≤ 8) (F : List UInt8) (A B C : Obj) (hA : A = .cells #[.int .i64 k, .int .u64 x, .int .i64 p, .int .i64 o, .slice ab l.length cb, .slice sb u.length cs, .int .u64 n, .int .u64 r, .int .u64 t] 27) (hB : B = .cells #[.int .u8 k] 5) (hC : C = .cells #[.slice (some ⟨w.heap.size + 1, 0, none⟩) 1 1] 65)
    (hp1 : w1.heap[(((w.alloc A).alloc B).alloc C).heap.size]? = some partsO) (hsz1 : w1.heap.size = (((w.alloc A).alloc B).alloc C).heap.size + 1) (hb1 : Below (((w.alloc A).alloc B).alloc C).heap.size (((w.alloc A).alloc B).alloc C) w1) (hb2 : Below w1.heap.size w1 w2) :
    BI w (w2.iter (str F) 0) w2.heap.size F [UInt8.ofNat k.toNat] k x p o ab sb cb cs l u n r t (.slice (some ⟨w.heap.size + 1, 0, none⟩) 1 1) 0 := by
  have hit0 : w2.iter (str F) 0 = w2.alloc (.stringIter (str F) 0) := rfl
  rw [hit0]
  have s3 : (((w.alloc A).alloc B).alloc C).heap.size = w.heap.size + 1 + 1 + 1 := by simp
  have hbb := belT (belT hb1 hb2) (below_alloc w2 (.stringIter (str F) 0))
  have q0 : (((w.alloc A).alloc B).alloc C).heap[w.heap.size]? = some A := by
    rw [heap_alloc_old _ _ (by simp; omega)]; exact heap_alloc2_old _ _ _
  have q1 : (((w.alloc A).alloc B).alloc C).heap[w.heap.size + 1]? = some B := mid3 _ _ _ _
  have q2 : (((w.alloc A).alloc B).alloc C).heap[w.heap.size + 1 + 1]? = some C := by
    have := heap_alloc_new ((w.alloc A).alloc B) C
    simpa using this
  have hw2 : w.heap.size + 1 + 1 + 1 < w2.heap.size := by have := hb2.size; omega
  rw [s3] at hp1
  have hkk : (((UInt8.ofNat k.toNat).toNat : Nat) : Int) = k := by rw [ofNat_toNat8]; omega
  have e0 : [UInt8.ofNat k.toNat] ++ encF (F.take 0) ⟨k, x, p, o, l, u, n, r, t⟩ = [UInt8.ofNat k.toNat] := by simp [encF]
  refine ⟨heap_alloc_new _ _, ⟨by omega, ?_, ?_, by simp [Value.ownBlock]⟩, by simp [Value.ownBlock], by simp [Value.ownBlock], by simp [Value.ownBlock]; omega, ?_, ?_, ?_, hw2⟩
  · rw [hbb.block _ (by rw [s3]; omega), q2, hC]
  · rw [e0]
    refine own_row rfl (by simp) (by omega) ?_
    rw [hbb.block _ (by rw [s3]; omega), q1, hB]
    simp only [bv, List.map_cons, List.map_nil, hkk]
  · rw [hbb.block _ (by rw [s3]; omega), q0, hA]
  · rw [(below_alloc w2 _).block _ hw2, hb2.block _ (by omega), hp1]
  · exact (below4 w A B C).trans (hbb.mono (by rw [s3]; omega))
set_option maxRecDepth 100000 in
set_option maxHeartbeats 8000000 in
theorem bytesF (k : Int) (x : Nat) (p o : Int) (ab sb : Option Addr) (cb cs : Nat) (l : List UInt8) (u : List Nat) (n r t : Nat) (at_ : Nat) (hat : at_ < 18446744073709551616) (w : World) (hmay : mayB ⟨k, x, p, o, l, u, n, r, t⟩ = true) (ha : RB w ⟨k, x, p, o, l, u, n, r, t⟩ ab sb cb cs) :
    Calls Try.prog 17 #[rv k x p o ab l.length cb sb u.length cs n r t, .int .u64 at_] w fun e w' => ∃ v, e = .returned v ∧ OwnB w' w.heap.size v (encR ⟨k, x, p, o, l, u, n, r, t⟩ at_) ∧ Below w.heap.size w w' := by
  obtain ⟨hN, hl1, hu2, hk1, hk2⟩ := mayN _ hmay
  have hk : 1 ≤ k ∧ k ≤ 8 := ⟨hk1, hk2⟩
  have HLU := Lib.hid (And.intro hl1 hu2)
  clear hl1 hu2 hk1 hk2
  have hwk : IntKind.u8.wrap k = k := by rw [IntKind.wrap_u8]; omega
  have fldA := field58a
  have HFL := Lib.hid (form_let k)
  have hF4 := form_len k
  obtain ⟨F, hF⟩ : ∃ F, formL k = F := ⟨_, rfl⟩
  have FF := Lib.hid (formF k)
  rw [hF] at FF HFL hF4
  have HF := Lib.hid hF
  clear hF
  clear hmay
  go_enter Try.func17, Try.ntmps17
  go_wp2_with (first | (go_at_call 21; refine (partsF _).mono ?_; rintro e w1 ⟨rfl, hp1, hsz1, hb1⟩; have z1 : w1.cell? ⟨w.heap.size, 0, none⟩ = some (.int .i64 k) := Below.cellSome hb1 (by rw [World.cell?_alloc_lt _ _ _ (by simp; omega), World.cell?_alloc_lt _ _ _ (by simp), World.cell?_alloc_new]; rfl)) | (go_at_call 22; refine (FF.out _).mono ?_; rintro e w2 ⟨rfl, hb2⟩))
  have hI : BI w (w2.iter (str F) 0) w2.heap.size F [UInt8.ofNat k.toNat] k x p o ab sb cb cs l u n r t (.slice (some ⟨w.heap.size + 1, 0, none⟩) 1 1) 0 := BIstart k x p o ab sb cb cs l u n r t w w1 w2 hk F _ _ _ rfl rfl rfl hp1 hsz1 hb1 hb2
  obtain ⟨it, hit⟩ : ∃ it, w2.heap.size = it := ⟨_, rfl⟩
  obtain ⟨Wi, hWi⟩ : ∃ Wi, w2.iter (str F) 0 = Wi := ⟨_, rfl⟩
  rw [hit, hWi] at hI ⊢
  clear hit hWi hb2 hb1 hp1 hsz1 z1
  go_loopw [8] (fun _ wr => ∃ j v, j ≤ F.length ∧ BI w wr it F [UInt8.ofNat k.toNat] k x p o ab sb cb cs l u n r t v j) (fun _ wr => F.length - posOf wr it)
  case atStart => exact ⟨0, _, by omega, hI⟩
  case round =>
    clear hI
    obtain ⟨j, v, hj, hI⟩ := hrel
    by_cases hlt : j < F.length
    · have hlt8 := let_lt _ (HFL.out _ (List.getElem_mem hlt))
      have hnx := next_str F wr it j hI.iter hlt hlt8
      obtain ⟨c, hc⟩ : ∃ c, F[j] = c := ⟨_, rfl⟩
      have hsn := Lib.hid (encF_snoc F ⟨k, x, p, o, l, u, n, r, t⟩ j hlt)
      rw [hc] at hnx hsn hlt8
      have hlet : isLet c := by rw [← hc]; exact HFL.out _ (List.getElem_mem hlt)
      clear hc
      have hsz2 := Lib.iterAt_size wr it (str F) (j + 1)
      have hit' := Lib.iterAt_heap wr it (str F) j (j + 1) hI.iter
      have hot := fun q (h : q ≠ it) => Lib.iterAt_other wr it q (str F) (j + 1) h
      have hlw := Lib.below_iterAt hI.low (k := it) (by have := hI.lt; omega) (str F) (j + 1)
      have hwb := hI.wb.kept (grown_iter (it := it) (str F) (j + 1)) (by have := hI.lt; omega) hI.n3
      obtain ⟨Wj, hWj⟩ : ∃ Wj, wr.iterAt it (str F) (j + 1) = Wj := ⟨_, rfl⟩
      rw [hWj] at hnx hsz2 hit' hot hlw hwb
      clear hWj
      have hbox := (hot _ (by have := hI.lt; omega)).trans hI.box
      have hmap := (hot _ (by have := hI.lt; omega)).trans hI.map
      have hml : ([UInt8.ofNat k.toNat] ++ encF (F.take j) ⟨k, x, p, o, l, u, n, r, t⟩).length ≤ 500000 := by
        have h5 := encF_len (F.take j) ⟨k, x, p, o, l, u, n, r, t⟩ HLU.out.1 HLU.out.2
        have h6 := List.length_take_le' j F
        rw [List.length_append]; simp only [List.length_cons, List.length_nil]
        omega
      obtain ⟨ix, f, hfind, hent, hcall⟩ := wAny c hlet
      have hcall := hcall k x p o ab sb cb cs l u n r t hN w Wj _ v _ ha hlw hwb hml
      have HB := Lib.hid hI
      have HS := Lib.hid hsz2
      clear hI hsz2
      go_wp2_with (first | (refine wpList_lookup rfl _ _ _ rfl (w.heap.size + 1 + 1 + 1) rfl _ _ rfl (run_lookup_hit (es := partsE) (clock := 8) Try.underlying53 Try.underlying21 hmap rfl hfind) ?_) | (refine wpList_load_row rfl 27 (.tmp 2) rfl w.heap.size rfl 27 #[.int .i64 k, .int .u64 x, .int .i64 p, .int .i64 o, .slice ab l.length cb, .slice sb u.length cs, .int .u64 n, .int .u64 r, .int .u64 t] (0, 0) _ hbox Try.underlying27 rfl (by rw [info27]; rfl) ?_) | (refine hcall.mono ?_; rintro e w3 ⟨rfl, v', h1, hv', g1⟩))
      have hI := HB.out
      have hsz := HS.out
      have hitl : it < wr.heap.size := (Array.getElem?_eq_some_iff.1 hI.iter).1
      have hlt4 := hI.lt
      have hi3 := (g1.block it (by omega) (by omega) hI.n3).trans hit'
      go_roundw
      case rel =>
        refine ⟨j + 1, v', by omega, hi3, ?_, step_ne hv' hI.n1 (by omega), step_ne hv' hI.n2 (by omega), step_ne hv' hI.n3 (by omega), (g1.block _ (by omega) (by omega) hI.n1).trans hbox, (g1.block _ (by omega) (by omega) hI.n2).trans hmap, hlw.trans (g1.below hwb), hlt4⟩
        rw [hsn.out, ← List.append_assoc]; exact h1
      case measure => simp only [posOf, hi3, hI.iter]; omega
    · obtain rfl : j = F.length := by omega
      have hnx := fun ty => Lib.run_next_end_at (P := Try.prog) wr it (str F) F.length ty hI.iter (by rw [str_size]; omega)
      have hwb := hI.wb
      rw [List.take_of_length_le (Nat.le_refl _)] at hwb
      have hM : [UInt8.ofNat k.toNat] ++ encF F ⟨k, x, p, o, l, u, n, r, t⟩ = bodyL ⟨k, x, p, o, l, u, n, r, t⟩ := by rw [bodyL, HF.out]; rfl
      have hE : encR ⟨k, x, p, o, l, u, n, r, t⟩ at_ = be (16 + (bodyL ⟨k, x, p, o, l, u, n, r, t⟩).length) 4 ++ be at_ 8 ++ be (CrcM.sum (be (16 + (bodyL ⟨k, x, p, o, l, u, n, r, t⟩).length) 4 ++ be at_ 8 ++ bodyL ⟨k, x, p, o, l, u, n, r, t⟩)).toNat 4 ++ bodyL ⟨k, x, p, o, l, u, n, r, t⟩ := by simp only [encR, headL]
      have hML : (bodyL ⟨k, x, p, o, l, u, n, r, t⟩).length ≤ 2200000 := by
        have := encF_len F ⟨k, x, p, o, l, u, n, r, t⟩ HLU.out.1 HLU.out.2
        rw [← hM, List.length_append]; simp only [List.length_cons, List.length_nil]
        omega
      rw [hM] at hwb
      obtain ⟨M, hMM⟩ : ∃ M, bodyL ⟨k, x, p, o, l, u, n, r, t⟩ = M := ⟨_, rfl⟩
      rw [hMM] at hwb hE hML
      clear hM hMM
      obtain ⟨N, hNN⟩ : ∃ N, 16 + M.length = N := ⟨_, rfl⟩
      rw [hNN] at hE
      have hNb : N < 4294967296 := by omega
      have hN1 : IntKind.i64.wrap (16 + (M.length : Int)) = (N : Int) := by rw [IntKind.wrap_i64]; omega
      have hN2 : IntKind.u64.wrap (N : Int) = (N : Int) := by rw [IntKind.wrap_u64]; omega
      have hN3 : (16 : Int) + (M.length : Int) = (N : Int) := by omega
      have HE := Lib.hid hE
      clear hE hNN
      obtain ⟨hw, hhw⟩ : ∃ hw, wr.heap.size = hw := ⟨_, rfl⟩
      have hWH : WB (wr.alloc (.cells #[.slice none 0 0] 65)) w.heap.size hw (.slice none 0 0) [] := ⟨by have := hI.low.size; omega, by rw [← hhw]; exact heap_alloc_new _ _, OwnB.nil _ _, by simp [Value.ownBlock]⟩
      obtain ⟨av, cv, hv⟩ := hwb.own.sl
      subst hv
      have hz : wr.cell? ⟨w.heap.size + 1 + 1, 0, none⟩ = some (.slice av M.length cv) := cell_of_row _ _ 0 _ _ _ hwb.cell
      have hlt2 : w.heap.size + 1 + 1 < wr.heap.size := hwb.lt
      have hz' : (wr.alloc (.cells #[.slice none 0 0] 65)).cell? ⟨w.heap.size + 1 + 1, 0, none⟩ = some (.slice av M.length cv) := by rw [World.cell?_alloc_lt _ _ _ hlt2]; exact hz
      have P1 := Lib.hid (putF N 4 (room4 N hNb) _ hw (.slice none 0 0) [] _ hWH (Nat.zero_le _) (Nat.le_trans hI.low.size (Nat.le_of_lt (by simp))))
      have HWB := Lib.hid (hwb.below (below_alloc wr (.cells #[.slice none 0 0] 65)))
      have HI := Lib.hid hI
      have HWH := Lib.hid hWH
      have hgh : w.heap.size + 1 + 1 ≠ hw := by omega
      have hgl0 : w.heap.size + 1 + 1 < hw := by omega
      have hvh : (Value.slice av M.length cv).ownBlock ≠ some hw := fun e => by have := (hwb.blk e).2; omega
      have hX : w.heap.size ≤ (wr.alloc (.cells #[.slice none 0 0] 65)).heap.size := Nat.le_trans hI.low.size (Nat.le_of_lt (by simp))
      have HX := Lib.hid hX
      have HVH := Lib.hid hvh
      clear hNb hwb hWH HFL hF4 FF HF ha hN hj hlt hwk hI hlt2 hX hvh
      go_wp2_with fail
      refine P1.out.mono ?_
      rintro e w3 ⟨rfl, v3, h3, hv3, g3⟩
      rw [List.nil_append] at h3
      have P2 := Lib.hid (putF at_ 8 (room8 at_ hat) _ hw v3 (be N 4) w3 h3 (by rw [be_length]; omega) (Nat.le_trans HX.out g3.size))
      have H3 := Lib.hid (And.intro h3 (And.intro hv3 g3))
      clear h3 hv3 g3 P1
      go_wp2_with fail
      refine P2.out.mono ?_
      rintro e w4 ⟨rfl, hs4⟩
      obtain ⟨v4, h4, hv4, g4⟩ := WStep.trans H3.out.2.1 H3.out.2.2 H3.out.1 hs4
      have hwb4 := HWB.out.g2 g4 hgh (by simp [Value.ownBlock]) HVH.out (fun q _ => by simp [Value.ownBlock])
      clear H3 P2 hs4
      have hlH : (be N 4 ++ be at_ 8).length = 12 := by rw [List.length_append, be_length, be_length]
      obtain ⟨H, hHH⟩ : ∃ H, be N 4 ++ be at_ 8 = H := ⟨_, rfl⟩
      rw [hHH] at h4 HE hlH
      clear hHH
      obtain ⟨a4, c4, rfl⟩ := h4.own.sl
      have z4h : w4.cell? ⟨hw, 0, none⟩ = some (.slice a4 H.length c4) := cell_of_row _ _ 0 _ _ _ h4.cell
      have z4g : w4.cell? ⟨w.heap.size + 1 + 1, 0, none⟩ = some (.slice av M.length cv) := cell_of_row _ _ 0 _ _ _ hwb4.cell
      have hM9 : M.length ≤ 9223372036854775807 := by omega
      have hH9 : H.length ≤ 9223372036854775807 := by omega
      have hna4 : a4 = none → c4 = 0 := fun e => OwnB.nn (e ▸ h4.own)
      have hnav : av = none → cv = 0 := fun e => OwnB.nn (e ▸ hwb4.own)
      have BB := Lib.hid ((BBs_two (w := w4) rfl h4.own.bs hwb4.own.bs hH9 hM9 hna4 hnav).below (Below.refl _ _).drew)
      have HLH := Lib.hid hlH
      have hgl : w.heap.size + 1 + 1 < w4.heap.size := hwb4.lt
      have HW4 := Lib.hid hwb4
      have H4 := Lib.hid (And.intro h4 (And.intro hv4 g4))
      clear hlH h4 hv4 g4 hwb4 hM9 hH9 hna4 hnav hz hz' hnx
      have KF : ∀ w' : World, w'.cell? ⟨w.heap.size + 1 + 1, 0, none⟩ = some (.slice av M.length cv) → w'.cell? ⟨w.heap.size + 1 + 1, 0, none⟩ = some (.slice av M.length cv) := fun _ h => h
      go_wp2_with fail
      refine seqS_start (fun w' : World => w'.cell? ⟨w.heap.size + 1 + 1, 0, none⟩ = some (.slice av M.length cv)) 13 [false, false, false, false, false, false, false, false, false, false, false, false, false] (by kernel_rfl) rfl rfl z4g ?_
      refine seqS_take 0 (v := ?_) rfl (by kernel_rfl) (fun _ _ _ h => h) (Or.inl ⟨by rfl, fun w' hb => ?_⟩) ?_
      rotate_left
      · have kf := KF w' hb
        go_simp
        with_reducible rfl
      simp only [Act.put, List.setIfInBounds_toArray, List.set_cons_zero, List.set_cons_succ]
      refine seqS_take 1 (v := ?_) rfl (by kernel_rfl) (fun _ _ _ h => h) (Or.inl ⟨by rfl, fun w' hb => ?_⟩) ?_
      rotate_left
      · have kf := KF w' hb
        go_simp
        with_reducible rfl
      simp only [Act.put, List.setIfInBounds_toArray, List.set_cons_zero, List.set_cons_succ]
      refine seqS_take 2 (v := ?_) rfl (by kernel_rfl) (fun _ _ _ h => h) (Or.inl ⟨by rfl, fun w' hb => ?_⟩) ?_
      rotate_left
      · have kf := KF w' hb
        go_simp
        with_reducible rfl
      simp only [Act.put, List.setIfInBounds_toArray, List.set_cons_zero, List.set_cons_succ]
      refine seqS_take 3 (v := ?_) rfl (by kernel_rfl) (fun _ _ _ h => h) (Or.inl ⟨by rfl, fun w' hb => ?_⟩) ?_
      rotate_left
      · have kf := KF w' hb
        go_simp
        with_reducible rfl
      simp only [Act.put, List.setIfInBounds_toArray, List.set_cons_zero, List.set_cons_succ]
      refine seqS_take 5 (v := ?_) rfl (by kernel_rfl) (fun _ _ _ h => h) (Or.inl ⟨by rfl, fun w' hb => ?_⟩) ?_
      rotate_left
      · have kf := KF w' hb
        go_simp
        with_reducible rfl
      simp only [Act.put, List.setIfInBounds_toArray, List.set_cons_zero, List.set_cons_succ]
      refine seqS_take 6 (v := ?_) rfl (by kernel_rfl) (fun _ _ _ h => h) (Or.inl ⟨by rfl, fun w' hb => ?_⟩) ?_
      rotate_left
      · have kf := KF w' hb
        go_simp
        with_reducible rfl
      simp only [Act.put, List.setIfInBounds_toArray, List.set_cons_zero, List.set_cons_succ]
      refine seqS_take 7 (v := ?_) rfl (by kernel_rfl) (fun _ _ _ h => h) (Or.inl ⟨by rfl, fun w' hb => ?_⟩) ?_
      rotate_left
      · have kf := KF w' hb
        go_simp
        with_reducible rfl
      simp only [Act.put, List.setIfInBounds_toArray, List.set_cons_zero, List.set_cons_succ]
      refine seqS_take 8 (v := ?_) rfl (by kernel_rfl) (fun _ _ _ h => h) (Or.inl ⟨by rfl, fun w' hb => ?_⟩) ?_
      rotate_left
      · have kf := KF w' hb
        go_simp
        with_reducible rfl
      simp only [Act.put, List.setIfInBounds_toArray, List.set_cons_zero, List.set_cons_succ]
      refine seqS_do 4 rfl (by kernel_rfl) (fun K hK => ?_)
      go_simp
      refine hK.out _ _ _ (fun _ h => h) z4g ?_
      clear hK K
      simp only [List.set_cons_zero, List.set_cons_succ]
      refine seqS_do 9 rfl (by kernel_rfl) (fun K hK => ?_)
      go_simp
      have z5 : (w4.alloc (.cells #[.slice a4 H.length c4, .slice av M.length cv] 24)).drew.cell? ⟨w.heap.size + 1 + 1, 0, none⟩ = some (.slice av M.length cv) := by rw [World.cell?_drew, World.cell?_alloc_lt _ _ _ hgl]; exact z4g
      refine hK.out _ _ _ (fun _ h => h) z5 ?_
      clear hK K
      simp only [List.set_cons_zero, List.set_cons_succ]
      refine seqS_do 10 rfl (by kernel_rfl) (fun K hK => ?_)
      go_simp
      refine (Sum_any _ 2 [H, M] _ BB.out (by simp)).mono ?_
      rintro e w5 ⟨rfl, hb5⟩
      have hs5 : [H, M].flatten = H ++ M := by simp
      rw [hs5]
      have z6 : w5.cell? ⟨w.heap.size + 1 + 1, 0, none⟩ = some (.slice av M.length cv) := Below.cellSome hb5 z5
      refine hK.out _ _ _ (fun _ h => h) z6 ?_
      clear hK K
      simp only [List.set_cons_zero, List.set_cons_succ]
      obtain ⟨sm, hsm⟩ : ∃ sm, CrcM.sum (H ++ M) = sm := ⟨_, rfl⟩
      rw [hsm] at HE ⊢
      clear hsm hs5
      have hc3 := c32_lt sm
      have hcw : IntKind.u64.wrap (c32 sm) = c32 sm := by rw [IntKind.wrap_u64]; omega
      refine seqS_take 11 (v := ?_) rfl (by kernel_rfl) (fun _ _ _ h => h) (Or.inl ⟨by rfl, fun w' hb => ?_⟩) ?_
      rotate_left
      · have kf := KF w' hb
        go_simp
        with_reducible rfl
      simp only [Act.put, List.setIfInBounds_toArray, List.set_cons_zero, List.set_cons_succ]
      refine seqS_do 12 rfl (by kernel_rfl) (fun K hK => ?_)
      go_simp
      refine (putF sm.toNat 4 (room4 _ (by have := sm.isLt; omega)) _ hw (.slice a4 H.length c4) H w5 ((H4.out.1.below (below_alloc w4 _).drew).below hb5) (by have := HLH.out; omega) (Nat.le_trans (Nat.le_of_lt (by omega : w.heap.size < w4.heap.size)) (belT (below_alloc w4 _).drew hb5).size)).mono ?_
      rintro e w6 ⟨rfl, hs6⟩
      obtain ⟨v6, h6, hv6, g6⟩ := WStep.trans H4.out.2.1 H4.out.2.2 H4.out.1 (WStep.ext (belT (below_alloc w4 _).drew hb5) hs6)
      have hwb6 := HWB.out.g2 g6 hgh (by simp [Value.ownBlock]) HVH.out (fun q _ => by simp [Value.ownBlock])
      have z7 : w6.cell? ⟨w.heap.size + 1 + 1, 0, none⟩ = some (.slice av M.length cv) := cell_of_row _ _ 0 _ _ _ hwb6.cell
      refine hK.out _ _ _ (fun _ h => h) z7 ?_
      clear hK K
      simp only [List.set_cons_zero, List.set_cons_succ]
      refine seqS_end (by kernel_rfl) (fun hEnd => ?_)
      clear hEnd z6 z5 z4h z4g BB KF H4 hs6 hb5
      have hl6 : (H ++ be sm.toNat 4).length = 16 := by rw [List.length_append, be_length, HLH.out]
      obtain ⟨M6, hM6⟩ : ∃ M6, H ++ be sm.toNat 4 = M6 := ⟨_, rfl⟩
      have HE2 : Hid (encR ⟨k, x, p, o, l, u, n, r, t⟩ at_ = M6 ++ M) := by rw [Hid, HE.out]; exact congrArg (· ++ M) hM6
      rw [hM6] at h6 hl6
      clear hM6 HE
      have HL6 := Lib.hid hl6
      clear hl6
      obtain ⟨a6, c6, rfl⟩ := h6.own.sl
      have z7h : w6.cell? ⟨hw, 0, none⟩ = some (.slice a6 M6.length c6) := cell_of_row _ _ 0 _ _ _ h6.cell
      have hng : (Value.slice a6 M6.length c6).ownBlock ≠ some (w.heap.size + 1 + 1) := step_ne hv6 (by simp [Value.ownBlock]) (by simp; omega)
      have HNG := Lib.hid hng
      have HNN := Lib.hid (fun e => OwnB.nn (e ▸ hwb6.own) : av = none → cv = 0)
      have H6 := Lib.hid (And.intro h6 (And.intro hv6 g6))
      have HW6 := Lib.hid hwb6
      have hgl6 : w.heap.size + 1 + 1 < w6.heap.size := hwb6.lt
      have hhl6 : hw < w6.heap.size := h6.lt
      clear hng h6 hv6 g6 hwb6 hc3 hcw
      have KF : ∀ w' : World, (w'.cell? ⟨w.heap.size + 1 + 1, 0, none⟩ = some (.slice av M.length cv) ∧ w'.cell? ⟨hw, 0, none⟩ = some (.slice a6 M6.length c6)) → (w'.cell? ⟨w.heap.size + 1 + 1, 0, none⟩ = some (.slice av M.length cv) ∧ w'.cell? ⟨hw, 0, none⟩ = some (.slice a6 M6.length c6)) := fun _ h => h
      go_wp2_with fail
      refine seqS_start (fun w' : World => w'.cell? ⟨w.heap.size + 1 + 1, 0, none⟩ = some (.slice av M.length cv) ∧ w'.cell? ⟨hw, 0, none⟩ = some (.slice a6 M6.length c6)) 10 [false, false, false, false, false, false, false, false, false, false] (by kernel_rfl) rfl rfl ⟨z7, z7h⟩ ?_
      refine seqS_take 0 (v := ?_) rfl (by kernel_rfl) (fun _ _ _ h => h) (Or.inl ⟨by rfl, fun w' hb => ?_⟩) ?_
      rotate_left
      · have kf := KF w' hb
        go_simp
        with_reducible rfl
      simp only [Act.put, List.setIfInBounds_toArray, List.set_cons_zero, List.set_cons_succ]
      refine seqS_take 1 (v := ?_) rfl (by kernel_rfl) (fun _ _ _ h => h) (Or.inl ⟨by rfl, fun w' hb => ?_⟩) ?_
      rotate_left
      · have kf := KF w' hb
        go_simp
        with_reducible rfl
      simp only [Act.put, List.setIfInBounds_toArray, List.set_cons_zero, List.set_cons_succ]
      refine seqS_take 2 (v := ?_) rfl (by kernel_rfl) (fun _ _ _ h => h) (Or.inl ⟨by rfl, fun w' hb => ?_⟩) ?_
      rotate_left
      · have kf := KF w' hb
        go_simp
        with_reducible rfl
      simp only [Act.put, List.setIfInBounds_toArray, List.set_cons_zero, List.set_cons_succ]
      refine seqS_take 3 (v := ?_) rfl (by kernel_rfl) (fun _ _ _ h => h) (Or.inl ⟨by rfl, fun w' hb => ?_⟩) ?_
      rotate_left
      · have kf := KF w' hb
        go_simp
        with_reducible rfl
      simp only [Act.put, List.setIfInBounds_toArray, List.set_cons_zero, List.set_cons_succ]
      refine seqS_take 4 (v := ?_) rfl (by kernel_rfl) (fun _ _ _ h => h) (Or.inl ⟨by rfl, fun w' hb => ?_⟩) ?_
      rotate_left
      · have kf := KF w' hb
        go_simp
        with_reducible rfl
      simp only [Act.put, List.setIfInBounds_toArray, List.set_cons_zero, List.set_cons_succ]
      refine seqS_take 5 (v := ?_) rfl (by kernel_rfl) (fun _ _ _ h => h) (Or.inl ⟨by rfl, fun w' hb => ?_⟩) ?_
      rotate_left
      · have kf := KF w' hb
        go_simp
        with_reducible rfl
      simp only [Act.put, List.setIfInBounds_toArray, List.set_cons_zero, List.set_cons_succ]
      refine seqS_take 6 (v := ?_) rfl (by kernel_rfl) (fun _ _ _ h => h) (Or.inl ⟨by rfl, fun w' hb => ?_⟩) ?_
      rotate_left
      · have kf := KF w' hb
        go_simp
        with_reducible rfl
      simp only [Act.put, List.setIfInBounds_toArray, List.set_cons_zero, List.set_cons_succ]
      refine seqS_take 7 (v := ?_) rfl (by kernel_rfl) (fun _ _ _ h => h) (Or.inl ⟨by rfl, fun w' hb => ?_⟩) ?_
      rotate_left
      · have kf := KF w' hb
        go_simp
        with_reducible rfl
      simp only [Act.put, List.setIfInBounds_toArray, List.set_cons_zero, List.set_cons_succ]
      refine seqS_do 8 rfl (by kernel_rfl) (fun K hK => ?_)
      refine step_append_b_at rfl (.tmp 61) (.tmp 65) rfl w.heap.size (.slice a6 M6.length c6) M6 rfl (H6.out.1.own.below (Below.refl _ _).drew) av M M.length cv rfl rfl (HW6.out.own.bs.below (Below.refl _ _).drew) HNN.out (by have := HL6.out; omega) (show w.heap.size ≤ w6.heap.size by omega) ?_
      intro v7 w7 ho7 hg7 hs7
      have z8 : w7.cell? ⟨w.heap.size + 1 + 1, 0, none⟩ = some (.slice av M.length cv) := cell_of_row _ _ 0 _ _ _ ((hg7.block _ hgl6 (fun e => HNG.out e.symm)).trans HW6.out.cell)
      have z9 : w7.cell? ⟨hw, 0, none⟩ = some (.slice a6 M6.length c6) := cell_of_row _ _ 0 _ _ _ ((hg7.block _ hhl6 (fun e => H6.out.1.ne e.symm)).trans H6.out.1.cell)
      refine hK.out _ _ _ (fun _ h => h) ⟨z8, z9⟩ ?_
      clear hK K
      simp only [List.set_cons_zero, List.set_cons_succ]
      refine seqS_take 9 (v := ?_) rfl (by kernel_rfl) (fun _ _ _ h => h) (Or.inl ⟨by rfl, fun w' hb => ?_⟩) ?_
      rotate_left
      · have kf := KF w' hb
        go_simp
        with_reducible rfl
      simp only [Act.put, List.setIfInBounds_toArray, List.set_cons_zero, List.set_cons_succ]
      refine seqS_end (by kernel_rfl) (fun hEnd => ?_)
      go_wp2_with fail
      go_ret
      refine ⟨v7, rfl, by rw [HE2.out]; exact ho7, ?_⟩
      exact below_grown_own (HI.out.low.trans (((below_alloc wr _).mono HI.out.low.size).trans ((G2.below HWH.out H6.out.2.2).drew))) (show w.heap.size ≤ w6.heap.size by omega) (H6.out.1.own.below (Below.refl _ _).drew) hg7
end Go.Proofs.Ytokijkinlcdjeaa

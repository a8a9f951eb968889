/- A step of both readers. -/
import Derived.Test.YtcfcdnoebgdfeaaSteps
import Derived.Test.YtcfcdnoebgdfeaaSeq2
namespace Go.Proofs.Ytcfcdnoebgdfeaa
open Go.RowKit WireM

theorem RRd.kept {w w' : World} {base top g g' : Nat} {l : List UInt8} {p : Int} (h : RRd w base top g l p) (hg : w.grownBy w' (some g')) (hd : g' < base ∨ top ≤ g') : RRd w' base top g l p := by
  obtain ⟨a, n, c, hc, hn, hnc, hna, hbs, haw, hfl⟩ := h.cells
  have hu := h.up
  have hl := h.lt
  exact ⟨hu, hl, a, n, c, (hg.block _ (Array.getElem?_eq_some_iff.1 hc).1 (by simp; omega)).trans hc, hn, hnc, hna, hbs.grown hg (fun b o s e => by have := haw b o s e; omega), haw, hfl⟩
/-- a reader and the reference's reader of the same bytes -/
structure Two (w0 w : World) (B1 T1 g1 B2 T2 g2 : Nat) (l : List UInt8) (p q : Int) : Prop where
  below : Below w0.heap.size w0 w
  r : Rd w B1 T1 g1 l p
  r' : RRd w B2 T2 g2 l q
  o0 : w0.heap.size ≤ B1
  o1 : T1 ≤ B2
variable {w0 w w' : World} {B1 T1 g1 B2 T2 g2 : Nat} {l : List UInt8} {p q p' : Int}
theorem Two.s1 (h : Two w0 w B1 T1 g1 B2 T2 g2 l p q) (r : Rd w' B1 T1 g1 l p') (hg : w.grownBy w' (some g1)) : Two w0 w' B1 T1 g1 B2 T2 g2 l p' q := by
  have a1 := h.r.up; have a2 := h.r.lt; have a3 := h.r'.up; have a4 := h.r'.lt; have a5 := h.o0; have a6 := h.o1
  exact ⟨below_grow h.below h.below.size hg (by omega), r, h.r'.kept hg (by omega), h.o0, h.o1⟩
theorem Two.s2 (h : Two w0 w B1 T1 g1 B2 T2 g2 l p q) (r : RRd w' B2 T2 g2 l p') (hg : w.grownBy w' (some g2)) : Two w0 w' B1 T1 g1 B2 T2 g2 l p p' := by
  have a1 := h.r.up; have a2 := h.r.lt; have a3 := h.r'.up; have a4 := h.r'.lt; have a5 := h.o0; have a6 := h.o1
  exact ⟨below_grow h.below h.below.size hg (by omega), h.r.kept hg (by omega), r, h.o0, h.o1⟩
theorem Two.ext (h : Two w0 w B1 T1 g1 B2 T2 g2 l p q) (hb : Below w.heap.size w w') : Two w0 w' B1 T1 g1 B2 T2 g2 l p q :=
  ⟨belT h.below hb, h.r.below hb, h.r'.below hb, h.o0, h.o1⟩
theorem Two.ne (h : Two w0 w B1 T1 g1 B2 T2 g2 l p q) : g1 < w.heap.size ∧ g2 < w.heap.size ∧ g1 < B2 ∧ T1 ≤ g2 := by
  obtain ⟨_, _, h1, _⟩ := h.r.cells
  obtain ⟨_, _, _, h2, _⟩ := h.r'.cells
  have a2 := h.r.lt; have a3 := h.r'.up; have a6 := h.o1
  exact ⟨lt_of_block h1, lt_of_block h2, by omega, by omega⟩
theorem cell_kept {w w' : World} {g b o : Nat} {v : Value} (h : w.cell? ⟨b, o, none⟩ = some v) (hg : w.grownBy w' (some g)) (hne : b ≠ g) : w'.cell? ⟨b, o, none⟩ = some v := by
  rw [World.cell?_of_block (w := w) (hg.block b (block_lt_of_cell h) (by simpa using hne))]; exact h
theorem step_down (l : List UInt8) (p n : Int) : (p < 0 → stepAt l p n < 0) ∧ (p ≤ l.length → leftAt l (stepAt l p n) ≤ leftAt l p) ∧ (p ≤ l.length → stepAt l p n ≤ l.length) := by
  unfold stepAt leftAt
  by_cases h1 : p < 0
  · rw [if_pos h1, if_pos h1]; omega
  · rw [if_neg h1]
    by_cases h2 : 0 ≤ n ∧ p + n ≤ l.length
    · rw [if_pos h2, if_neg (by omega), if_neg h1]; omega
    · rw [if_neg h2, if_pos (by omega), if_neg h1]; omega
theorem blob_down (l : List UInt8) (p : Int) : (p < 0 → blobStep l p < 0) ∧ (p ≤ l.length → leftAt l (blobStep l p) ≤ leftAt l p ∧ blobStep l p ≤ l.length) := by
  rw [(blob_two l p).2]
  have h1 := step_down l p 2
  have h2 := step_down l (stepAt l p 2) (numAt l p 2)
  exact ⟨fun h => h2.1 (h1.1 h), fun h => ⟨Int.le_trans (h2.2.1 (h1.2.2 h)) (h1.2.1 h), h2.2.2 (h1.2.2 h)⟩⟩
def AlikePost (w0 : World) (B1 T1 g1 B2 T2 g2 : Nat) (l : List UInt8) (p : Int) (e : Ending) (w' : World) : Prop :=
  e = .returned (.bool true) ∧ ∃ p' : Int, p' ≤ l.length ∧ (p < 0 → p' < 0) ∧ leftAt l p' ≤ leftAt l p ∧ Two w0 w' B1 T1 g1 B2 T2 g2 l p' p'
theorem RNumber_at (base top g : Nat) (l : List UInt8) (p n q : Int) (N : Nat) (hq : stepAt l p (szOf n) = q) (hN : numAt l p n = N) (w : World) (h : RRd w base top g l p) (hl : l.length ≤ 140737488355328) (hp : p ≤ l.length) :
    Calls Try.prog 35 #[.pointer (some ⟨g, 0, none⟩), .int .i64 n] w fun e w' => e = .returned (.int .u64 (N : Int)) ∧ RRd w' base top g l q ∧ w.grownBy w' (some g) := by
  refine (RNumber_any base top g l p n w h hl hp).mono ?_
  rintro e w' ⟨h1, h3⟩
  rw [hN] at h1
  rw [hq] at h3
  exact ⟨h1, h3⟩
theorem RBytes_at (base top g : Nat) (l : List UInt8) (p n q : Int) (X : List UInt8) (hq : stepAt l p n = q) (hX : gotAt l p n = X) (w : World) (h : RRd w base top g l p) (hl : l.length ≤ 140737488355328) (hp : p ≤ l.length) :
    Calls Try.prog 37 #[.pointer (some ⟨g, 0, none⟩), .int .i64 n] w fun e w' => ∃ a c, e = .returned (.slice a X.length c) ∧ Bs w' a X ∧ RRd w' base top g l q ∧ w.grownBy w' (some g) := by
  refine (RBytes_any base top g l p n w h hl hp).mono ?_
  rintro e w' ⟨⟨a, c, h1, _, h2, _⟩, h3⟩
  rw [hX] at h1 h2
  rw [hq] at h3
  exact ⟨a, c, h1, h2, h3⟩
theorem RBlob_at (base top g : Nat) (l : List UInt8) (p q : Int) (X : List UInt8) (hq : blobStep l p = q) (hX : blobAt l p = X) (w : World) (h : RRd w base top g l p) (hl : l.length ≤ 140737488355328) (hp : p ≤ l.length) :
    Calls Try.prog 36 #[.pointer (some ⟨g, 0, none⟩)] w fun e w' => ∃ a c, e = .returned (.slice a X.length c) ∧ Bs w' a X ∧ RRd w' base top g l q ∧ w.grownBy w' (some g) := by
  refine (RBlob_any base top g l p w h hl hp).mono ?_
  rintro e w' ⟨⟨a, c, h1, _, h2, _⟩, h3⟩
  rw [hX] at h1 h2
  rw [hq] at h3
  exact ⟨a, c, h1, h2, h3⟩
theorem rBlob_at (base top g : Nat) (l : List UInt8) (p q : Int) (X : List UInt8) (hq : blobStep l p = q) (hX : blobAt l p = X) (w : World) (h : Rd w base top g l p) (hl : l.length ≤ 140737488355328) (hp : p ≤ l.length) :
    Calls Try.prog 34 #[.pointer (some ⟨g, 0, none⟩)] w fun e w' => ∃ a, e = .returned (.slice a X.length X.length) ∧ Got w' base top g a X ∧ Rd w' base top g l q ∧ w.grownBy w' (some g) := by
  refine (rBlob_any base top g l p w h hl hp).mono ?_
  rintro e w' ⟨⟨a, h1, h2⟩, h3⟩
  rw [hX] at h1 h2
  rw [hq] at h3
  exact ⟨a, h1, h2, h3⟩
set_option maxHeartbeats 1600000 in
theorem alike_one (T : Two w0 w B1 T1 g1 B2 T2 g2 l p p) (hl : l.length ≤ 140737488355328) (hp : p ≤ l.length) (n : Int) :
    Calls Try.prog 22 #[.pointer (some ⟨g1, 0, none⟩), .pointer (some ⟨g2, 0, none⟩), .agg #[.int .i64 1, .int .i64 n]] w (AlikePost w0 B1 T1 g1 B2 T2 g2 l p) := by
  obtain ⟨n1, n2, n3, n4⟩ := T.ne
  have hT := T.ext (below_alloc w (.cells #[.int .i64 1, .int .i64 n] 46))
  have hsd := step_down l p (szOf n)
  obtain ⟨q, hq⟩ : ∃ q, stepAt l p (szOf n) = q := ⟨_, rfl⟩
  obtain ⟨N, hN⟩ : ∃ N, numAt l p n = N := ⟨_, rfl⟩
  rw [hq] at hsd
  have C1 := Lib.hid (Number_at B1 T1 g1 l p n q N hq hN)
  have C2 := Lib.hid (RNumber_at B2 T2 g2 l p n q N hq hN)
  have HT := Lib.hid hT
  have HS := Lib.hid hsd
  have hNN : ((N : Int) == (N : Int)) = true := by simp
  clear hT hsd hq hN T
  go_enter Try.func22, Try.ntmps22
  go_wp2_with fail
  have KF : ∀ w' : World, w'.cell? ⟨w.heap.size, 1, none⟩ = some (.int .i64 n) → w'.cell? ⟨w.heap.size, 1, none⟩ = some (.int .i64 n) := fun _ h => h
  refine seqS_start (fun w' : World => w'.cell? ⟨w.heap.size, 1, none⟩ = some (.int .i64 n)) 10 [false, false, false, false, false, false, false, false, false, false] (by kernel_rfl) rfl rfl (by rw [World.cell?_drew, cell_of_row _ _ _ _ _ _ (heap_alloc_new _ _)]; rfl) ?_
  refine seqS_take 0 (v := ?_) rfl (by kernel_rfl) (fun _ _ _ h => h) (Or.inl ⟨by rfl, fun w' hb => ?_⟩) ?_
  rotate_left
  · have kf := KF w' hb
    go_simp
    with_reducible rfl
  simp only [Act.put, List.setIfInBounds_toArray, List.set_cons_zero, List.set_cons_succ]
  refine seqS_take 1 (v := ?_) rfl (by kernel_rfl) (fun _ _ _ h => h) (Or.inl ⟨by rfl, fun w' hb => ?_⟩) ?_
  rotate_left
  · have kf := KF w' hb
    go_simp
    with_reducible rfl
  simp only [Act.put, List.setIfInBounds_toArray, List.set_cons_zero, List.set_cons_succ]
  refine seqS_take 2 (v := ?_) rfl (by kernel_rfl) (fun _ _ _ h => h) (Or.inl ⟨by rfl, fun w' hb => ?_⟩) ?_
  rotate_left
  · have kf := KF w' hb
    go_simp
    with_reducible rfl
  simp only [Act.put, List.setIfInBounds_toArray, List.set_cons_zero, List.set_cons_succ]
  refine seqS_take 4 (v := ?_) rfl (by kernel_rfl) (fun _ _ _ h => h) (Or.inl ⟨by rfl, fun w' hb => ?_⟩) ?_
  rotate_left
  · have kf := KF w' hb
    go_simp
    with_reducible rfl
  simp only [Act.put, List.setIfInBounds_toArray, List.set_cons_zero, List.set_cons_succ]
  refine seqS_take 5 (v := ?_) rfl (by kernel_rfl) (fun _ _ _ h => h) (Or.inl ⟨by rfl, fun w' hb => ?_⟩) ?_
  rotate_left
  · have kf := KF w' hb
    go_simp
    with_reducible rfl
  simp only [Act.put, List.setIfInBounds_toArray, List.set_cons_zero, List.set_cons_succ]
  refine seqS_take 6 (v := ?_) rfl (by kernel_rfl) (fun _ _ _ h => h) (Or.inl ⟨by rfl, fun w' hb => ?_⟩) ?_
  rotate_left
  · have kf := KF w' hb
    go_simp
    with_reducible rfl
  simp only [Act.put, List.setIfInBounds_toArray, List.set_cons_zero, List.set_cons_succ]
  refine seqS_do 3 rfl (by kernel_rfl) (fun K hK => ?_)
  go_simp
  refine (C1.out _ (HT.out.ext (Below.refl _ _).drew).r hl hp).mono ?_
  rintro e w1 ⟨rfl, r1, h1⟩
  have T1' := (HT.out.ext (Below.refl _ _).drew).s1 r1 h1
  have c1 := cell_kept (b := w.heap.size) (o := 1) (by rw [World.cell?_drew, cell_of_row _ _ _ _ _ _ (heap_alloc_new _ _)]; rfl) h1 (by omega)
  refine hK.out (fun w' : World => w'.cell? ⟨w.heap.size, 1, none⟩ = some (.int .i64 n)) _ _ (fun _ h => h) c1 ?_
  clear hK K
  simp only [List.set_cons_zero, List.set_cons_succ]
  refine seqS_do 7 rfl (by kernel_rfl) (fun K hK => ?_)
  go_simp
  refine (C2.out _ T1'.r' hl hp).mono ?_
  rintro e w2 ⟨rfl, r2, h2⟩
  have T2' := T1'.s2 r2 h2
  refine hK.out (fun w' : World => w'.cell? ⟨w.heap.size, 1, none⟩ = some (.int .i64 n)) _ _ (fun _ h => h) (cell_kept c1 h2 (by omega)) ?_
  clear hK K
  simp only [List.set_cons_zero, List.set_cons_succ]
  refine seqS_take 8 (v := ?_) rfl (by kernel_rfl) (fun _ _ _ h => h) (Or.inl ⟨by rfl, fun w' hb => ?_⟩) ?_
  rotate_left
  · have kf := KF w' hb
    go_simp
    with_reducible rfl
  simp only [Act.put, List.setIfInBounds_toArray, List.set_cons_zero, List.set_cons_succ]
  refine seqS_take 9 (v := ?_) rfl (by kernel_rfl) (fun _ _ _ h => h) (Or.inl ⟨by rfl, fun w' hb => ?_⟩) ?_
  rotate_left
  · have kf := KF w' hb
    go_simp
    with_reducible rfl
  simp only [Act.put, List.setIfInBounds_toArray, List.set_cons_zero, List.set_cons_succ]
  refine seqS_end (by kernel_rfl) (fun hEnd => ?_)
  go_wp2_with fail
  go_ret
  exact ⟨rfl, q, HS.out.2.2 hp, HS.out.1, HS.out.2.1 hp, T2'⟩
set_option maxHeartbeats 1600000 in
theorem alike_two (T : Two w0 w B1 T1 g1 B2 T2 g2 l p p) (hl : l.length ≤ 140737488355328) (hp : p ≤ l.length) (n : Int) :
    Calls Try.prog 22 #[.pointer (some ⟨g1, 0, none⟩), .pointer (some ⟨g2, 0, none⟩), .agg #[.int .i64 2, .int .i64 n]] w (AlikePost w0 B1 T1 g1 B2 T2 g2 l p) := by
  obtain ⟨n1, n2, n3, n4⟩ := T.ne
  have hT := T.ext (below_alloc w (.cells #[.int .i64 2, .int .i64 n] 46))
  have hsd := blob_down l p
  obtain ⟨q, hq⟩ : ∃ q, blobStep l p = q := ⟨_, rfl⟩
  obtain ⟨X, hX⟩ : ∃ X, blobAt l p = X := ⟨_, rfl⟩
  rw [hq] at hsd
  have C1 := Lib.hid (rBlob_at B1 T1 g1 l p q X hq hX)
  have C2 := Lib.hid (RBlob_at B2 T2 g2 l p q X hq hX)
  have HT := Lib.hid hT
  have HS := Lib.hid (And.intro hsd.1 (And.intro (fun h => (hsd.2 h).1) (fun h => (hsd.2 h).2)))
  have hXX : ((str X).toList == (str X).toList) = true := by simp
  clear hT hsd hq hX T
  go_enter Try.func22, Try.ntmps22
  go_wp2_with fail
  have KF : ∀ w' : World, True → True := fun _ h => h
  refine seqS_start (fun _ : World => True) 8 [false, false, false, false, false, false, false, false] (by kernel_rfl) rfl rfl trivial ?_
  refine seqS_take 0 (v := ?_) rfl (by kernel_rfl) (fun _ _ _ h => h) (Or.inl ⟨by rfl, fun w' hb => ?_⟩) ?_
  rotate_left
  · have kf := KF w' hb
    go_simp
    with_reducible rfl
  simp only [Act.put, List.setIfInBounds_toArray, List.set_cons_zero, List.set_cons_succ]
  refine seqS_take 3 (v := ?_) rfl (by kernel_rfl) (fun _ _ _ h => h) (Or.inl ⟨by rfl, fun w' hb => ?_⟩) ?_
  rotate_left
  · have kf := KF w' hb
    go_simp
    with_reducible rfl
  simp only [Act.put, List.setIfInBounds_toArray, List.set_cons_zero, List.set_cons_succ]
  refine seqS_do 1 rfl (by kernel_rfl) (fun K hK => ?_)
  go_simp
  refine (C1.out _ (HT.out.ext (Below.refl _ _).drew).r hl hp).mono ?_
  rintro e w1 ⟨a1, rfl, G1, r1, h1⟩
  have T1' := (HT.out.ext (Below.refl _ _).drew).s1 r1 h1
  refine hK.out (fun w' : World => Bs w' a1 X) _ _ (fun _ _ => trivial) G1.bs ?_
  clear hK K
  simp only [List.set_cons_zero, List.set_cons_succ]
  replace KF : ∀ w' : World, Bs w' a1 X → (convert 23 9 (.slice a1 X.length X.length)).run Try.prog w' = .ok (.string (str X)) w' := fun w' h => conv_str a1 _ X w' h
  refine seqS_take 2 (v := ?_) rfl (by kernel_rfl) (fun _ _ _ h => h) (Or.inl ⟨by rfl, fun w' hb => ?_⟩) ?_
  rotate_left
  · have kf := KF w' hb
    go_simp
    with_reducible rfl
  simp only [Act.put, List.setIfInBounds_toArray, List.set_cons_zero, List.set_cons_succ]
  refine seqS_do 4 rfl (by kernel_rfl) (fun K hK => ?_)
  go_simp
  refine (C2.out _ T1'.r' hl hp).mono ?_
  rintro e w2 ⟨a2, c2, rfl, G2, r2, h2⟩
  have T2' := T1'.s2 r2 h2
  refine hK.out (fun w' : World => Bs w' a1 X ∧ Bs w' a2 X) _ _ (fun _ h => h.1) ⟨G1.bs.grown h2 (fun b o s e => by have := G1.away b o s e; omega), G2⟩ ?_
  clear hK K
  simp only [List.set_cons_zero, List.set_cons_succ]
  replace KF : ∀ w' : World, Bs w' a1 X ∧ Bs w' a2 X → (convert 23 9 (.slice a2 X.length c2)).run Try.prog w' = .ok (.string (str X)) w' := fun w' h => conv_str a2 _ X w' h.2
  refine seqS_take 5 (v := ?_) rfl (by kernel_rfl) (fun _ _ _ h => h) (Or.inl ⟨by rfl, fun w' hb => ?_⟩) ?_
  rotate_left
  · have kf := KF w' hb
    go_simp
    with_reducible rfl
  simp only [Act.put, List.setIfInBounds_toArray, List.set_cons_zero, List.set_cons_succ]
  refine seqS_take 6 (v := ?_) rfl (by kernel_rfl) (fun _ _ _ h => h) (Or.inl ⟨by rfl, fun w' hb => ?_⟩) ?_
  rotate_left
  · have kf := KF w' hb
    go_simp
    with_reducible rfl
  simp only [Act.put, List.setIfInBounds_toArray, List.set_cons_zero, List.set_cons_succ]
  refine seqS_take 7 (v := ?_) rfl (by kernel_rfl) (fun _ _ _ h => h) (Or.inl ⟨by rfl, fun w' hb => ?_⟩) ?_
  rotate_left
  · have kf := KF w' hb
    go_simp
    with_reducible rfl
  simp only [Act.put, List.setIfInBounds_toArray, List.set_cons_zero, List.set_cons_succ]
  refine seqS_end (by kernel_rfl) (fun hEnd => ?_)
  go_wp2_with fail
  go_ret
  exact ⟨rfl, q, HS.out.2.2 hp, HS.out.1, HS.out.2.1 hp, T2'⟩
set_option maxHeartbeats 1600000 in
theorem alike_three (T : Two w0 w B1 T1 g1 B2 T2 g2 l p p) (hl : l.length ≤ 140737488355328) (hp : p ≤ l.length) (n : Int) :
    Calls Try.prog 22 #[.pointer (some ⟨g1, 0, none⟩), .pointer (some ⟨g2, 0, none⟩), .agg #[.int .i64 3, .int .i64 n]] w (AlikePost w0 B1 T1 g1 B2 T2 g2 l p) := by
  obtain ⟨n1, n2, n3, n4⟩ := T.ne
  have hT := T.ext (below_alloc w (.cells #[.int .i64 3, .int .i64 n] 46))
  have hsd := step_down l p n
  obtain ⟨q, hq⟩ : ∃ q, stepAt l p n = q := ⟨_, rfl⟩
  obtain ⟨X, hX⟩ : ∃ X, gotAt l p n = X := ⟨_, rfl⟩
  rw [hq] at hsd
  have C1 := Lib.hid (Bytes_at B1 T1 g1 l p n q X hq hX)
  have C2 := Lib.hid (RBytes_at B2 T2 g2 l p n q X hq hX)
  have HT := Lib.hid hT
  have HS := Lib.hid hsd
  have hXX : ((str X).toList == (str X).toList) = true := by simp
  clear hT hsd hq hX T
  go_enter Try.func22, Try.ntmps22
  go_wp2_with fail
  have KF : ∀ w' : World, w'.cell? ⟨w.heap.size, 1, none⟩ = some (.int .i64 n) → w'.cell? ⟨w.heap.size, 1, none⟩ = some (.int .i64 n) := fun _ h => h
  refine seqS_start (fun w' : World => w'.cell? ⟨w.heap.size, 1, none⟩ = some (.int .i64 n)) 12 [false, false, false, false, false, false, false, false, false, false, false, false] (by kernel_rfl) rfl rfl (by rw [World.cell?_drew, cell_of_row _ _ _ _ _ _ (heap_alloc_new _ _)]; rfl) ?_
  refine seqS_take 0 (v := ?_) rfl (by kernel_rfl) (fun _ _ _ h => h) (Or.inl ⟨by rfl, fun w' hb => ?_⟩) ?_
  rotate_left
  · have kf := KF w' hb
    go_simp
    with_reducible rfl
  simp only [Act.put, List.setIfInBounds_toArray, List.set_cons_zero, List.set_cons_succ]
  refine seqS_take 1 (v := ?_) rfl (by kernel_rfl) (fun _ _ _ h => h) (Or.inl ⟨by rfl, fun w' hb => ?_⟩) ?_
  rotate_left
  · have kf := KF w' hb
    go_simp
    with_reducible rfl
  simp only [Act.put, List.setIfInBounds_toArray, List.set_cons_zero, List.set_cons_succ]
  refine seqS_take 2 (v := ?_) rfl (by kernel_rfl) (fun _ _ _ h => h) (Or.inl ⟨by rfl, fun w' hb => ?_⟩) ?_
  rotate_left
  · have kf := KF w' hb
    go_simp
    with_reducible rfl
  simp only [Act.put, List.setIfInBounds_toArray, List.set_cons_zero, List.set_cons_succ]
  refine seqS_take 5 (v := ?_) rfl (by kernel_rfl) (fun _ _ _ h => h) (Or.inl ⟨by rfl, fun w' hb => ?_⟩) ?_
  rotate_left
  · have kf := KF w' hb
    go_simp
    with_reducible rfl
  simp only [Act.put, List.setIfInBounds_toArray, List.set_cons_zero, List.set_cons_succ]
  refine seqS_take 6 (v := ?_) rfl (by kernel_rfl) (fun _ _ _ h => h) (Or.inl ⟨by rfl, fun w' hb => ?_⟩) ?_
  rotate_left
  · have kf := KF w' hb
    go_simp
    with_reducible rfl
  simp only [Act.put, List.setIfInBounds_toArray, List.set_cons_zero, List.set_cons_succ]
  refine seqS_take 7 (v := ?_) rfl (by kernel_rfl) (fun _ _ _ h => h) (Or.inl ⟨by rfl, fun w' hb => ?_⟩) ?_
  rotate_left
  · have kf := KF w' hb
    go_simp
    with_reducible rfl
  simp only [Act.put, List.setIfInBounds_toArray, List.set_cons_zero, List.set_cons_succ]
  refine seqS_do 3 rfl (by kernel_rfl) (fun K hK => ?_)
  go_simp
  refine (C1.out _ (HT.out.ext (Below.refl _ _).drew).r hl hp).mono ?_
  rintro e w1 ⟨a1, rfl, G1, r1, h1⟩
  have T1' := (HT.out.ext (Below.refl _ _).drew).s1 r1 h1
  have c1 := cell_kept (b := w.heap.size) (o := 1) (by rw [World.cell?_drew, cell_of_row _ _ _ _ _ _ (heap_alloc_new _ _)]; rfl) h1 (by omega)
  refine hK.out (fun w' : World => w'.cell? ⟨w.heap.size, 1, none⟩ = some (.int .i64 n) ∧ Bs w' a1 X) _ _ (fun _ h => h.1) ⟨c1, G1.bs⟩ ?_
  clear hK K
  simp only [List.set_cons_zero, List.set_cons_succ]
  replace KF : ∀ w' : World, w'.cell? ⟨w.heap.size, 1, none⟩ = some (.int .i64 n) ∧ Bs w' a1 X → w'.cell? ⟨w.heap.size, 1, none⟩ = some (.int .i64 n) ∧ (convert 23 9 (.slice a1 X.length X.length)).run Try.prog w' = .ok (.string (str X)) w' := fun w' h => ⟨h.1, conv_str a1 _ X w' h.2⟩
  refine seqS_take 4 (v := ?_) rfl (by kernel_rfl) (fun _ _ _ h => h) (Or.inl ⟨by rfl, fun w' hb => ?_⟩) ?_
  rotate_left
  · have kf := KF w' hb
    go_simp
    with_reducible rfl
  simp only [Act.put, List.setIfInBounds_toArray, List.set_cons_zero, List.set_cons_succ]
  refine seqS_do 8 rfl (by kernel_rfl) (fun K hK => ?_)
  go_simp
  refine (C2.out _ T1'.r' hl hp).mono ?_
  rintro e w2 ⟨a2, c2, rfl, G2, r2, h2⟩
  have T2' := T1'.s2 r2 h2
  refine hK.out (fun w' : World => (w'.cell? ⟨w.heap.size, 1, none⟩ = some (.int .i64 n) ∧ Bs w' a1 X) ∧ Bs w' a2 X) _ _ (fun _ h => h.1) ⟨⟨cell_kept c1 h2 (by omega), G1.bs.grown h2 (fun b o s e => by have := G1.away b o s e; omega)⟩, G2⟩ ?_
  clear hK K
  simp only [List.set_cons_zero, List.set_cons_succ]
  replace KF : ∀ w' : World, (w'.cell? ⟨w.heap.size, 1, none⟩ = some (.int .i64 n) ∧ Bs w' a1 X) ∧ Bs w' a2 X → (convert 23 9 (.slice a2 X.length c2)).run Try.prog w' = .ok (.string (str X)) w' := fun w' h => conv_str a2 _ X w' h.2
  refine seqS_take 9 (v := ?_) rfl (by kernel_rfl) (fun _ _ _ h => h) (Or.inl ⟨by rfl, fun w' hb => ?_⟩) ?_
  rotate_left
  · have kf := KF w' hb
    go_simp
    with_reducible rfl
  simp only [Act.put, List.setIfInBounds_toArray, List.set_cons_zero, List.set_cons_succ]
  refine seqS_take 10 (v := ?_) rfl (by kernel_rfl) (fun _ _ _ h => h) (Or.inl ⟨by rfl, fun w' hb => ?_⟩) ?_
  rotate_left
  · have kf := KF w' hb
    go_simp
    with_reducible rfl
  simp only [Act.put, List.setIfInBounds_toArray, List.set_cons_zero, List.set_cons_succ]
  refine seqS_take 11 (v := ?_) rfl (by kernel_rfl) (fun _ _ _ h => h) (Or.inl ⟨by rfl, fun w' hb => ?_⟩) ?_
  rotate_left
  · have kf := KF w' hb
    go_simp
    with_reducible rfl
  simp only [Act.put, List.setIfInBounds_toArray, List.set_cons_zero, List.set_cons_succ]
  refine seqS_end (by kernel_rfl) (fun hEnd => ?_)
  go_wp2_with fail
  go_ret
  exact ⟨rfl, q, HS.out.2.2 hp, HS.out.1, HS.out.2.1 hp, T2'⟩
theorem alike_other (T : Two w0 w B1 T1 g1 B2 T2 g2 l p p) (hp : p ≤ l.length) (k n : Int) (h1 : k ≠ 1) (h2 : k ≠ 2) (h3 : k ≠ 3) :
    Calls Try.prog 22 #[.pointer (some ⟨g1, 0, none⟩), .pointer (some ⟨g2, 0, none⟩), .agg #[.int .i64 k, .int .i64 n]] w (AlikePost w0 B1 T1 g1 B2 T2 g2 l p) := by
  have hT := T.ext (below_alloc w (.cells #[.int .i64 k, .int .i64 n] 46))
  have HT := Lib.hid hT
  have d1 : (k == 1) = false := by simpa using h1
  have d2 : (k == 2) = false := by simpa using h2
  have d3 : (k == 3) = false := by simpa using h3
  clear hT T h1 h2 h3
  go_enter Try.func22, Try.ntmps22
  go_wp2_with fail
  go_ret
  exact ⟨rfl, p, hp, fun h => h, Int.le_refl _, HT.out⟩
theorem alike_any (T : Two w0 w B1 T1 g1 B2 T2 g2 l p p) (hl : l.length ≤ 140737488355328) (hp : p ≤ l.length) (k n : Int) :
    Calls Try.prog 22 #[.pointer (some ⟨g1, 0, none⟩), .pointer (some ⟨g2, 0, none⟩), .agg #[.int .i64 k, .int .i64 n]] w (AlikePost w0 B1 T1 g1 B2 T2 g2 l p) := by
  by_cases h1 : k = 1
  · subst h1; exact alike_one T hl hp n
  · by_cases h2 : k = 2
    · subst h2; exact alike_two T hl hp n
    · by_cases h3 : k = 3
      · subst h3; exact alike_three T hl hp n
      · exact alike_other T hp k n h1 h2 h3
end Go.Proofs.Ytcfcdnoebgdfeaa

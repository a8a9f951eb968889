/- WireBlobs: the walk. -/
import Derived.Test.YtcfcdnoebgdfeaaRJoin
import Derived.Test.YtcfcdnoebgdfeaaOrders
import Derived.Test.YtcfcdnoebgdfeaaSeq
namespace Go.Proofs.Ytcfcdnoebgdfeaa
open Go.RowKit WireM

theorem blobL_length (l : List UInt8) : (blobL l).length = l.length + 2 := by simp [blobL, be_length]; omega
theorem be_inj {n m k : Nat} (hn : n < 256 ^ k) (hm : m < 256 ^ k) (h : be n k = be m k) : n = m := by
  have := congrArg val h
  rwa [val_be, val_be, Nat.mod_eq_of_lt hn, Nat.mod_eq_of_lt hm] at this
theorem blob_front (la lb : List UInt8) (ha : la.length ≤ 65535) (hb : lb.length ≤ 65535) : ((blobL lb).take (la.length + 2) = blobL la) ↔ la = lb := by
  unfold blobL
  rw [List.take_append, be_length, List.take_of_length_le (by rw [be_length]; omega), show la.length + 2 - 2 = la.length by omega]
  constructor
  · intro h
    have h1 := List.append_inj h (by rw [be_length, be_length])
    have h2 := be_inj (by omega) (by omega) h1.1
    rw [← h2, List.take_length] at h1
    exact h1.2.symm
  · rintro rfl
    rw [List.take_length]
/-- wire's Blob, where it is one -/
theorem wBlob_yes (a : Option Addr) (cap : Nat) (l : List UInt8) (w : World) (h : Bs w a l) (hna : a = none → cap = 0) (hl : l.length ≤ 65535) :
    Calls Try.prog 17 #[.slice a l.length cap] w fun e w' => (∃ g cx, e = .returned (.tuple #[.slice (some ⟨g, 0, none⟩) (l.length + 2) cx, .int .i64 0]) ∧ Bs w' (some ⟨g, 0, none⟩) (blobL l) ∧ l.length + 2 ≤ cx) ∧ Below w.heap.size w w' := by
  refine (Blob_any a cap l w h hna hl).mono ?_
  rintro e w' ⟨hb, v, rfl, ho⟩
  obtain ⟨g, cx, rfl, _, _, hc⟩ := ho.head (blobL_length l) (by omega)
  exact ⟨⟨g, cx, rfl, ho.bs, hc⟩, hb⟩
theorem Bs.tail2 {w : World} {g cx : Nat} {l : List UInt8} (h : Bs w (some ⟨g, 0, none⟩) (blobL l)) (hc : l.length + 2 ≤ cx) : Bs w (if cx = 2 then some ⟨g, 0, none⟩ else some ⟨g, 2, none⟩) l := by
  have := h.dropL (c := cx) 2 (by rw [blobL_length]; exact hc)
  have e : (blobL l).drop 2 = l := by unfold blobL; rw [List.drop_append, be_length, List.drop_of_length_le (by rw [be_length]; omega)]; rfl
  rw [e] at this
  simpa [Addr.add] using this
theorem Bs.head2 {w : World} {g : Nat} {l : List UInt8} (h : Bs w (some ⟨g, 0, none⟩) (blobL l)) : Bs w (some ⟨g, 0, none⟩) (be l.length 2) := by
  have := h.takeL 2
  have e : (blobL l).take 2 = be l.length 2 := by unfold blobL; rw [List.take_append, be_length, List.take_of_length_le (by rw [be_length]; omega)]; simp
  rwa [e] at this
theorem blobs_out (a b : Option Addr) (ca cb : Nat) (la lb : List UInt8) (w : World) (h : 70000 < la.length ∨ 70000 < lb.length) (h1 : la.length ≤ 9223372036854775807) (h2 : lb.length ≤ 9223372036854775807) :
    Calls Try.prog 5 #[.slice a la.length ca, .slice b lb.length cb] w fun e w' => e = .returned (.bool true) ∧ Below w.heap.size w w' := by
  rcases Nat.lt_or_ge 70000 la.length with h' | h'
  · clear h
    go_enter Try.func5, Try.ntmps5
    go_wp2_with (go_at_call 13; refine (known_any _).mono ?_; rintro e w1 ⟨rfl, hb1⟩)
    go_ret
    exact ⟨rfl, hb1⟩
  · have h'' : 70000 < lb.length := by omega
    clear h
    go_enter Try.func5, Try.ntmps5
    go_wp2_with (go_at_call 13; refine (known_any _).mono ?_; rintro e w1 ⟨rfl, hb1⟩)
    go_ret
    exact ⟨rfl, hb1⟩
/-- what the second call of Blob gives -/
def YBlob (lb : List UInt8) (w : World) (e : Ending) (w' : World) : Prop :=
  ∃ y ny cy f, e = .returned (.tuple #[.slice y ny cy, .int .i64 f]) ∧ Below w.heap.size w w' ∧ ((lb.length ≤ 65535 ∧ f = 0 ∧ ny = lb.length + 2 ∧ ny ≤ cy ∧ (∃ g, y = some ⟨g, 0, none⟩) ∧ Bs w' y (blobL lb)) ∨ (65535 < lb.length ∧ y = none ∧ ny = 0 ∧ cy = 0 ∧ f = 3))
theorem wBlob_all (b : Option Addr) (cap : Nat) (l : List UInt8) (w : World) (h : Bs w b l) (hna : b = none → cap = 0) (hl : l.length ≤ 9223372036854775807) : Calls Try.prog 17 #[.slice b l.length cap] w (YBlob l w) := by
  rcases Nat.lt_or_ge 65535 l.length with h' | h'
  · refine (Blob_long b cap l.length w h' hl).mono ?_
    rintro e w' ⟨rfl, rfl⟩
    exact ⟨none, 0, 0, 3, rfl, Below.refl _ _, .inr ⟨h', rfl, rfl, rfl, rfl⟩⟩
  · refine (wBlob_yes b cap l w h hna h').mono ?_
    rintro e w' ⟨⟨g, cx, rfl, hB, hc⟩, hb⟩
    exact ⟨_, _, _, _, rfl, hb, .inl ⟨h', rfl, rfl, hc, ⟨g, rfl⟩, hB⟩⟩
set_option maxHeartbeats 1600000 in
theorem blobs_long (a b : Option Addr) (ca cb : Nat) (la lb : List UInt8) (w : World) (hB : Bs w b lb) (hnb : b = none → cb = 0) (h0 : 65535 < la.length) (h1 : la.length ≤ 70000) (h2 : lb.length ≤ 70000) :
    Calls Try.prog 5 #[.slice a la.length ca, .slice b lb.length cb] w fun e w' => e = .returned (.bool true) ∧ Below w.heap.size w w' := by
  have GA := Blob_long a ca la.length w h0 (by omega)
  have GB := wBlob_all b cb lb w hB hnb (by omega)
  clear hB
  go_enter Try.func5, Try.ntmps5
  go_wp2_with fail
  refine GA.mono ?_
  rintro e w' ⟨rfl, rfl⟩
  go_wp2_with fail
  refine GB.mono ?_
  rintro e w1 ⟨y, ny, cy, f, rfl, hb1, _⟩
  clear GA GB
  go_wp2_with (first | (go_at_call 12; refine (num_any _ _).mono ?_; rintro e w' ⟨rfl, rfl⟩) | (go_at_call 13; refine (known_any _).mono ?_; rintro e w2 ⟨rfl, hb2⟩))
  go_ret
  exact ⟨rfl, belT hb1 hb2⟩
set_option maxHeartbeats 3200000 in
theorem blobs_in (a b : Option Addr) (ca cb : Nat) (la lb : List UInt8) (w : World) (hA : Bs w a la) (hB : Bs w b lb) (hna : a = none → ca = 0) (hnb : b = none → cb = 0) (h1 : la.length ≤ 65535) (h2 : lb.length ≤ 70000) :
    Calls Try.prog 5 #[.slice a la.length ca, .slice b lb.length cb] w fun e w' => e = .returned (.bool true) ∧ Below w.heap.size w w' := by
  have GA := wBlob_yes a ca la w hA hna h1
  have HGB := Lib.hid (fun w' (h : Below w.heap.size w w') => wBlob_all b cb lb w' (hB.below h) hnb (by omega))
  have HKA := Lib.hid (fun w' (h : Below w.heap.size w w') => conv_str a ca la w' (hA.below h))
  have HKB := Lib.hid (fun w' (h : Below w.heap.size w w') => conv_str b cb lb w' (hB.below h))
  have HRB := Lib.hid (fun w' (h : Below w.heap.size w w') => refBlob_any a ca la w' (hA.below h) hna h1)
  have hv : val (be la.length 2) = la.length := by rw [val_be]; exact Nat.mod_eq_of_lt (by omega)
  have HG2 := Lib.hid (fun g cx w' (h : Bs w' (some ⟨g, 0, none⟩) (blobL la)) => by
    have := refGet_any (some ⟨g, 0, none⟩) cx (be la.length 2) w' h.head2 (by rw [be_length]; omega)
    rw [be_length, hv] at this
    exact this)
  have HF := Lib.hid (fun (hb : lb.length ≤ 65535) => blob_front la lb h1 hb)
  have hw2 : IntKind.i64.wrap ((la.length : Int) + 2) = (la.length : Int) + 2 := by rw [IntKind.wrap_i64]; omega
  have hw3 : IntKind.u64.wrap (la.length : Int) = (la.length : Int) := by rw [IntKind.wrap_u64]; omega
  have HNB := Lib.hid hnb
  clear hA hB hv hnb hna
  go_enter Try.func5, Try.ntmps5
  go_wp2_with fail
  refine GA.mono ?_
  rintro e w1 ⟨⟨g, cx, rfl, hX, hcx⟩, hb1⟩
  clear GA
  go_wp2_with fail
  refine (HGB.out _ hb1).mono ?_
  rintro e w2 ⟨y, ny, cy, f, rfl, hb2, hy⟩
  have hX2 := hX.below hb2
  have hbb : Below w.heap.size w w2 := belT hb1 hb2
  have HX2 := Lib.hid hX2
  have HY := Lib.hid hy
  clear hX hX2 hy
  obtain ⟨D, hD⟩ : ∃ D, (if cx = 2 then some (⟨g, 0, none⟩ : Addr) else some ⟨g, 2, none⟩) = D := ⟨_, rfl⟩
  have KF : ∀ w', Below w2.drew.heap.size w2.drew w' → (convert 23 9 (.slice (some ⟨g, 0, none⟩) (la.length + 2) cx)).run Try.prog w' = .ok (.string (str (blobL la))) w' ∧ (convert 23 9 (.slice a la.length ca)).run Try.prog w' = .ok (.string (str la)) w' ∧ (convert 23 9 (.slice D la.length (cx - 2))).run Try.prog w' = .ok (.string (str la)) w' := fun w' h => by
    have hx : Bs w' (some ⟨g, 0, none⟩) (blobL la) := HX2.out.below (belT (Below.refl _ _).drew h)
    have ht := hx.tail2 hcx
    rw [hD] at ht
    exact ⟨conv_N _ cx _ _ (blobL_length _) w' hx, HKA.out w' (belT hbb (belT (Below.refl _ _).drew h)), conv_str D (cx - 2) la w' ht⟩
  have b2 : (2 : Int) ≤ (la.length : Int) + 2 := by omega
  have b3 : (2 : Int) ≤ (cx : Int) := by omega
  have r0 : ((la.length : Int) == (la.length : Int)) = true := by simp
  go_wp2_with fail
  refine seq_start 36 [false, false, false, false, false, false, false, false, false, false, false, false, false, false, false, false, false, false, false, false, false, false, false, false, false, false, false, false, false, false, false, false, false, false, false, false] (by kernel_rfl) rfl rfl ?_
  refine seq_take 0 (v := ?_) rfl (by kernel_rfl) (fun _ _ _ h => h) (Or.inl ⟨by rfl, fun w' hb => ?_⟩) ?_
  rotate_left
  · have kf := KF w' hb
    go_simp
    with_reducible rfl
  simp only [Act.put, List.setIfInBounds_toArray, List.set_cons_zero, List.set_cons_succ]
  refine seq_do 1 rfl (by kernel_rfl) (fun K hK => ?_)
  go_simp
  go_at_call 12
  refine (num_any _ _).mono ?_
  rintro e w' ⟨rfl, rfl⟩
  refine hK.out _ _ (Below.refl _ _) ?_
  clear hK K
  simp only [List.set_cons_zero, List.set_cons_succ]
  refine seq_take 2 (v := ?_) rfl (by kernel_rfl) (fun _ _ _ h => h) (Or.inl ⟨by rfl, fun w' hb => ?_⟩) ?_
  rotate_left
  · have kf := KF w' hb
    go_simp
    with_reducible rfl
  simp only [Act.put, List.setIfInBounds_toArray, List.set_cons_zero, List.set_cons_succ]
  refine seq_take 3 (v := ?_) rfl (by kernel_rfl) (fun _ _ _ h => h) (Or.inl ⟨by rfl, fun w' hb => ?_⟩) ?_
  rotate_left
  · have kf := KF w' hb
    go_simp
    with_reducible rfl
  simp only [Act.put, List.setIfInBounds_toArray, List.set_cons_zero, List.set_cons_succ]
  refine seq_take 4 (v := ?_) rfl (by kernel_rfl) (fun _ _ _ h => h) (Or.inl ⟨by rfl, fun w' hb => ?_⟩) ?_
  rotate_left
  · have kf := KF w' hb
    go_simp
    with_reducible rfl
  simp only [Act.put, List.setIfInBounds_toArray, List.set_cons_zero, List.set_cons_succ]
  refine seq_take 5 (v := ?_) rfl (by kernel_rfl) (fun _ _ _ h => h) (Or.inl ⟨by rfl, fun w' hb => ?_⟩) ?_
  rotate_left
  · have kf := KF w' hb
    go_simp
    with_reducible rfl
  simp only [Act.put, List.setIfInBounds_toArray, List.set_cons_zero, List.set_cons_succ]
  refine seq_take 6 (v := ?_) rfl (by kernel_rfl) (fun _ _ _ h => h) (Or.inl ⟨by rfl, fun w' hb => ?_⟩) ?_
  rotate_left
  · have kf := KF w' hb
    go_simp
    with_reducible rfl
  simp only [Act.put, List.setIfInBounds_toArray, List.set_cons_zero, List.set_cons_succ]
  refine seq_take 7 (v := ?_) rfl (by kernel_rfl) (fun _ _ _ h => h) (Or.inl ⟨by rfl, fun w' hb => ?_⟩) ?_
  rotate_left
  · have kf := KF w' hb
    go_simp
    with_reducible rfl
  simp only [Act.put, List.setIfInBounds_toArray, List.set_cons_zero, List.set_cons_succ]
  refine seq_take 8 (v := ?_) rfl (by kernel_rfl) (fun _ _ _ h => h) (Or.inl ⟨by rfl, fun w' hb => ?_⟩) ?_
  rotate_left
  · have kf := KF w' hb
    go_simp
    with_reducible rfl
  simp only [Act.put, List.setIfInBounds_toArray, List.set_cons_zero, List.set_cons_succ]
  refine seq_take 9 (v := ?_) rfl (by kernel_rfl) (fun _ _ _ h => h) (Or.inl ⟨by rfl, fun w' hb => ?_⟩) ?_
  rotate_left
  · have kf := KF w' hb
    go_simp
    with_reducible rfl
  simp only [Act.put, List.setIfInBounds_toArray, List.set_cons_zero, List.set_cons_succ]
  refine seq_take 10 (v := ?_) rfl (by kernel_rfl) (fun _ _ _ h => h) (Or.inl ⟨by rfl, fun w' hb => ?_⟩) ?_
  rotate_left
  · have kf := KF w' hb
    go_simp
    with_reducible rfl
  simp only [Act.put, List.setIfInBounds_toArray, List.set_cons_zero, List.set_cons_succ]
  refine seq_take 11 (v := ?_) rfl (by kernel_rfl) (fun _ _ _ h => h) (Or.inl ⟨by rfl, fun w' hb => ?_⟩) ?_
  rotate_left
  · have kf := KF w' hb
    go_simp
    with_reducible rfl
  simp only [Act.put, List.setIfInBounds_toArray, List.set_cons_zero, List.set_cons_succ]
  refine seq_take 12 (v := ?_) rfl (by kernel_rfl) (fun _ _ _ h => h) (Or.inl ⟨by rfl, fun w' hb => ?_⟩) ?_
  rotate_left
  · have kf := KF w' hb
    go_simp
    with_reducible rfl
  simp only [Act.put, List.setIfInBounds_toArray, List.set_cons_zero, List.set_cons_succ]
  refine seq_take 13 (v := ?_) rfl (by kernel_rfl) (fun _ _ _ h => h) (Or.inl ⟨by rfl, fun w' hb => ?_⟩) ?_
  rotate_left
  · have kf := KF w' hb
    go_simp
    with_reducible rfl
  simp only [Act.put, List.setIfInBounds_toArray, List.set_cons_zero, List.set_cons_succ]
  refine seq_take 14 (v := ?_) rfl (by kernel_rfl) (fun _ _ _ h => h) (Or.inl ⟨by rfl, fun w' hb => ?_⟩) ?_
  rotate_left
  · have kf := KF w' hb
    go_simp
    with_reducible rfl
  simp only [Act.put, List.setIfInBounds_toArray, List.set_cons_zero, List.set_cons_succ]
  refine seq_take 15 (v := ?_) rfl (by kernel_rfl) (fun _ _ _ h => h) (Or.inl ⟨by rfl, fun w' hb => ?_⟩) ?_
  rotate_left
  · have kf := KF w' hb
    go_simp
    with_reducible rfl
  simp only [Act.put, List.setIfInBounds_toArray, List.set_cons_zero, List.set_cons_succ]
  refine seq_take 16 (v := ?_) rfl (by kernel_rfl) (fun _ _ _ h => h) (Or.inl ⟨by rfl, fun w' hb => ?_⟩) ?_
  rotate_left
  · have kf := KF w' hb
    go_simp
    with_reducible rfl
  simp only [Act.put, List.setIfInBounds_toArray, List.set_cons_zero, List.set_cons_succ]
  refine seq_take 17 (v := ?_) rfl (by kernel_rfl) (fun _ _ _ h => h) (Or.inl ⟨by rfl, fun w' hb => ?_⟩) ?_
  rotate_left
  · have kf := KF w' hb
    go_simp
    with_reducible rfl
  simp only [Act.put, List.setIfInBounds_toArray, List.set_cons_zero, List.set_cons_succ]
  refine seq_take 18 (v := ?_) rfl (by kernel_rfl) (fun _ _ _ h => h) (Or.inl ⟨by rfl, fun w' hb => ?_⟩) ?_
  rotate_left
  · have kf := KF w' hb
    go_simp
    with_reducible rfl
  simp only [Act.put, List.setIfInBounds_toArray, List.set_cons_zero, List.set_cons_succ]
  refine seq_take 19 (v := ?_) rfl (by kernel_rfl) (fun _ _ _ h => h) (Or.inl ⟨by rfl, fun w' hb => ?_⟩) ?_
  rotate_left
  · have kf := KF w' hb
    go_simp
    with_reducible rfl
  simp only [Act.put, List.setIfInBounds_toArray, List.set_cons_zero, List.set_cons_succ]
  refine seq_take 20 (v := ?_) rfl (by kernel_rfl) (fun _ _ _ h => h) (Or.inl ⟨by rfl, fun w' hb => ?_⟩) ?_
  rotate_left
  · have kf := KF w' hb
    go_simp
    with_reducible rfl
  simp only [Act.put, List.setIfInBounds_toArray, List.set_cons_zero, List.set_cons_succ]
  refine seq_take 21 (v := ?_) rfl (by kernel_rfl) (fun _ _ _ h => h) (Or.inl ⟨by rfl, fun w' hb => ?_⟩) ?_
  rotate_left
  · have kf := KF w' hb
    go_simp
    with_reducible rfl
  simp only [Act.put, List.setIfInBounds_toArray, List.set_cons_zero, List.set_cons_succ]
  refine seq_take 23 (v := ?_) rfl (by kernel_rfl) (fun _ _ _ h => h) (Or.inl ⟨by rfl, fun w' hb => ?_⟩) ?_
  rotate_left
  · have kf := KF w' hb
    go_simp
    with_reducible rfl
  simp only [Act.put, List.setIfInBounds_toArray, List.set_cons_zero, List.set_cons_succ]
  refine seq_take 24 (v := ?_) rfl (by kernel_rfl) (fun _ _ _ h => h) (Or.inl ⟨by rfl, fun w' hb => ?_⟩) ?_
  rotate_left
  · have kf := KF w' hb
    go_simp
    with_reducible rfl
  simp only [Act.put, List.setIfInBounds_toArray, List.set_cons_zero, List.set_cons_succ]
  refine seq_take 25 (v := ?_) rfl (by kernel_rfl) (fun _ _ _ h => h) (Or.inl ⟨by rfl, fun w' hb => ?_⟩) ?_
  rotate_left
  · have kf := KF w' hb
    go_simp
    with_reducible rfl
  simp only [Act.put, List.setIfInBounds_toArray, List.set_cons_zero, List.set_cons_succ]
  refine seq_do 22 rfl (by kernel_rfl) (fun K hK => ?_)
  go_simp
  refine (HG2.out g cx _ (HX2.out.below (Below.refl _ _).drew)).mono ?_
  rintro e w3 ⟨rfl, hb3⟩
  refine hK.out _ _ hb3 ?_
  clear hK K
  simp only [List.set_cons_zero, List.set_cons_succ]
  replace KF : ∀ w', Below w3.heap.size w3 w' → (convert 23 9 (.slice (some ⟨g, 0, none⟩) (la.length + 2) cx)).run Try.prog w' = .ok (.string (str (blobL la))) w' ∧ (convert 23 9 (.slice a la.length ca)).run Try.prog w' = .ok (.string (str la)) w' ∧ (convert 23 9 (.slice D la.length (cx - 2))).run Try.prog w' = .ok (.string (str la)) w' := fun w' h => KF w' (belT hb3 h)
  refine seq_take 26 (v := ?_) rfl (by kernel_rfl) (fun _ _ _ h => h) (Or.inl ⟨by rfl, fun w' hb => ?_⟩) ?_
  rotate_left
  · have kf := KF w' hb
    go_simp
    with_reducible rfl
  simp only [Act.put, List.setIfInBounds_toArray, List.set_cons_zero, List.set_cons_succ]
  refine seq_take 27 (v := ?_) rfl (by kernel_rfl) (fun _ _ _ h => h) (Or.inl ⟨by rfl, fun w' hb => ?_⟩) ?_
  rotate_left
  · have kf := KF w' hb
    go_simp
    with_reducible rfl
  simp only [Act.put, List.setIfInBounds_toArray, List.set_cons_zero, List.set_cons_succ]
  refine seq_take 28 (v := ?_) rfl (by kernel_rfl) (fun _ _ _ h => h) (Or.inl ⟨by rfl, fun w' hb => ?_⟩) ?_
  rotate_left
  · have kf := KF w' hb
    go_simp
    with_reducible rfl
  simp only [Act.put, List.setIfInBounds_toArray, List.set_cons_zero, List.set_cons_succ]
  refine seq_take 29 (v := ?_) rfl (by kernel_rfl) (fun _ _ _ h => h) (Or.inl ⟨by rfl, fun w' hb => ?_⟩) ?_
  rotate_left
  · have kf := KF w' hb
    go_simp
    with_reducible rfl
  simp only [Act.put, List.setIfInBounds_toArray, List.set_cons_zero, List.set_cons_succ]
  refine seq_take 30 (v := ?_) rfl (by kernel_rfl) (fun _ _ _ h => h) (Or.inl ⟨by rfl, fun w' hb => ?_⟩) ?_
  rotate_left
  · have kf := KF w' hb
    go_simp
    with_reducible rfl
  simp only [Act.put, List.setIfInBounds_toArray, List.set_cons_zero, List.set_cons_succ]
  refine seq_take 31 (v := ?_) rfl (by kernel_rfl) (fun _ _ _ h => h) (Or.inl ⟨by rfl, fun w' hb => ?_⟩) ?_
  rotate_left
  · have kf := KF w' hb
    go_simp
    with_reducible rfl
  simp only [Act.put, List.setIfInBounds_toArray, List.set_cons_zero, List.set_cons_succ]
  refine seq_do 32 rfl (by kernel_rfl) (fun K hK => ?_)
  go_simp
  refine (HRB.out _ (belT hbb (belT (Below.refl _ _).drew hb3))).mono ?_
  rintro e w4 ⟨hb4, g4, rfl, hB4⟩
  refine hK.out _ _ hb4 ?_
  clear hK K
  simp only [List.set_cons_zero, List.set_cons_succ]
  replace KF : (∀ w', Below w4.heap.size w4 w' → (convert 23 9 (.slice (some ⟨g4, 0, none⟩) (la.length + 2) (la.length + 2))).run Try.prog w' = .ok (.string (str (blobL la))) w') := fun w' h => conv_N _ _ _ _ (blobL_length _) w' (hB4.below h)
  refine seq_take 33 (v := ?_) rfl (by kernel_rfl) (fun _ _ _ h => h) (Or.inl ⟨by rfl, fun w' hb => ?_⟩) ?_
  rotate_left
  · have kf := KF w' hb
    go_simp
    with_reducible rfl
  simp only [Act.put, List.setIfInBounds_toArray, List.set_cons_zero, List.set_cons_succ]
  refine seq_take 34 (v := ?_) rfl (by kernel_rfl) (fun _ _ _ h => h) (Or.inl ⟨by rfl, fun w' hb => ?_⟩) ?_
  rotate_left
  · have kf := KF w' hb
    go_simp
    with_reducible rfl
  simp only [Act.put, List.setIfInBounds_toArray, List.set_cons_zero, List.set_cons_succ]
  refine seq_take 35 (v := ?_) rfl (by kernel_rfl) (fun _ _ _ h => h) (Or.inl ⟨by rfl, fun w' hb => ?_⟩) ?_
  rotate_left
  · have kf := KF w' hb
    go_simp
    with_reducible rfl
  simp only [Act.put, List.setIfInBounds_toArray, List.set_cons_zero, List.set_cons_succ]
  refine seq_end (by kernel_rfl) ?_
  clear KF
  have hbb4 : Below w.heap.size w w4 := belT hbb (belT (Below.refl _ _).drew (belT hb3 hb4))
  have hb24 : Below w2.heap.size w2 w4 := belT (Below.refl _ _).drew (belT hb3 hb4)
  clear hb3 hb4 hb1 hb2 hcx hD
  rcases HY.out with ⟨q1, rfl, rfl, q4, ⟨g', rfl⟩, hY⟩ | ⟨q1, rfl, rfl, rfl, rfl⟩
  · have hY4 := hY.below hb24
    have hiff := HF.out q1
    have HY4 := Lib.hid hY4
    clear hY hY4 HY HF
    by_cases hlt : lb.length < la.length
    · clear hiff
      go_wp2_with (first | (go_at_call 12; refine (num_any _ _).mono ?_; rintro e w' ⟨rfl, rfl⟩) | (go_at_call 13; refine (known_any _).mono ?_; rintro e w5 ⟨rfl, hb5⟩))
      go_ret
      exact ⟨rfl, belT hbb4 hb5⟩
    · obtain ⟨z, hz1, hz2⟩ : ∃ z, ((str ((blobL lb).take (la.length + 2))).toList == (str (blobL la)).toList) = z ∧ ((str la).toList == (str lb).toList) = z :=
        ⟨_, rfl, by rw [str_beq, str_beq, decide_eq_decide]; exact hiff.symm⟩
      have hzz : (z == z) = true := by simp
      have hlI : (la.length : Int) + 2 ≤ (lb.length : Int) + 2 := by omega
      have b4 : (la.length : Int) + 2 ≤ (cy : Int) := by omega
      have b5 : (0 : Int) ≤ (la.length : Int) + 2 := by omega
      have b6 : ((la.length : Int) + 2).toNat = la.length + 2 := by omega
      clear hiff
      have KF : ∀ w', Below w4.drew.heap.size w4.drew w' → (convert 23 9 (.slice (some ⟨g, 0, none⟩) (la.length + 2) cx)).run Try.prog w' = .ok (.string (str (blobL la))) w' ∧ (convert 23 9 (.slice a la.length ca)).run Try.prog w' = .ok (.string (str la)) w' ∧ (convert 23 9 (.slice b lb.length cb)).run Try.prog w' = .ok (.string (str lb)) w' ∧ (convert 23 9 (.slice (some ⟨g', 0, none⟩) (la.length + 2) cy)).run Try.prog w' = .ok (.string (str ((blobL lb).take (la.length + 2)))) w' := fun w' h => by
        have h' := belT (Below.refl _ _).drew h
        exact ⟨conv_N _ cx _ _ (blobL_length _) w' (HX2.out.below (belT hb24 h')), HKA.out w' (belT hbb4 h'), HKB.out w' (belT hbb4 h'), conv_N _ cy _ _ (by rw [List.length_take, blobL_length]; omega) w' ((HY4.out.below h').takeL _)⟩
      clear HX2 HKA HKB HY4 HGB HRB HG2
      go_wp2_with (go_at_call 12; refine (num_any _ _).mono ?_; rintro e w' ⟨rfl, rfl⟩)
      refine seq_start 18 [false, false, false, false, false, false, false, false, false, false, false, false, false, false, false, false, false, false] (by kernel_rfl) rfl rfl ?_
      refine seq_take 0 (v := ?_) rfl (by kernel_rfl) (fun _ _ _ h => h) (Or.inl ⟨by rfl, fun w' hb => ?_⟩) ?_
      rotate_left
      · have kf := KF w' hb
        go_simp
        with_reducible rfl
      simp only [Act.put, List.setIfInBounds_toArray, List.set_cons_zero, List.set_cons_succ]
      refine seq_take 1 (v := ?_) rfl (by kernel_rfl) (fun _ _ _ h => h) (Or.inl ⟨by rfl, fun w' hb => ?_⟩) ?_
      rotate_left
      · have kf := KF w' hb
        go_simp
        with_reducible rfl
      simp only [Act.put, List.setIfInBounds_toArray, List.set_cons_zero, List.set_cons_succ]
      refine seq_take 2 (v := ?_) rfl (by kernel_rfl) (fun _ _ _ h => h) (Or.inl ⟨by rfl, fun w' hb => ?_⟩) ?_
      rotate_left
      · have kf := KF w' hb
        go_simp
        with_reducible rfl
      simp only [Act.put, List.setIfInBounds_toArray, List.set_cons_zero, List.set_cons_succ]
      refine seq_take 3 (v := ?_) rfl (by kernel_rfl) (fun _ _ _ h => h) (Or.inl ⟨by rfl, fun w' hb => ?_⟩) ?_
      rotate_left
      · have kf := KF w' hb
        go_simp
        with_reducible rfl
      simp only [Act.put, List.setIfInBounds_toArray, List.set_cons_zero, List.set_cons_succ]
      refine seq_take 4 (v := ?_) rfl (by kernel_rfl) (fun _ _ _ h => h) (Or.inl ⟨by rfl, fun w' hb => ?_⟩) ?_
      rotate_left
      · have kf := KF w' hb
        go_simp
        with_reducible rfl
      simp only [Act.put, List.setIfInBounds_toArray, List.set_cons_zero, List.set_cons_succ]
      refine seq_take 5 (v := ?_) rfl (by kernel_rfl) (fun _ _ _ h => h) (Or.inl ⟨by rfl, fun w' hb => ?_⟩) ?_
      rotate_left
      · have kf := KF w' hb
        go_simp
        with_reducible rfl
      simp only [Act.put, List.setIfInBounds_toArray, List.set_cons_zero, List.set_cons_succ]
      refine seq_take 6 (v := ?_) rfl (by kernel_rfl) (fun _ _ _ h => h) (Or.inl ⟨by rfl, fun w' hb => ?_⟩) ?_
      rotate_left
      · have kf := KF w' hb
        go_simp
        with_reducible rfl
      simp only [Act.put, List.setIfInBounds_toArray, List.set_cons_zero, List.set_cons_succ]
      refine seq_take 7 (v := ?_) rfl (by kernel_rfl) (fun _ _ _ h => h) (Or.inl ⟨by rfl, fun w' hb => ?_⟩) ?_
      rotate_left
      · have kf := KF w' hb
        go_simp
        with_reducible rfl
      simp only [Act.put, List.setIfInBounds_toArray, List.set_cons_zero, List.set_cons_succ]
      refine seq_take 8 (v := ?_) rfl (by kernel_rfl) (fun _ _ _ h => h) (Or.inl ⟨by rfl, fun w' hb => ?_⟩) ?_
      rotate_left
      · have kf := KF w' hb
        go_simp
        with_reducible rfl
      simp only [Act.put, List.setIfInBounds_toArray, List.set_cons_zero, List.set_cons_succ]
      refine seq_take 9 (v := ?_) rfl (by kernel_rfl) (fun _ _ _ h => h) (Or.inl ⟨by rfl, fun w' hb => ?_⟩) ?_
      rotate_left
      · have kf := KF w' hb
        go_simp
        with_reducible rfl
      simp only [Act.put, List.setIfInBounds_toArray, List.set_cons_zero, List.set_cons_succ]
      refine seq_take 10 (v := ?_) rfl (by kernel_rfl) (fun _ _ _ h => h) (Or.inl ⟨by rfl, fun w' hb => ?_⟩) ?_
      rotate_left
      · have kf := KF w' hb
        go_simp
        with_reducible rfl
      simp only [Act.put, List.setIfInBounds_toArray, List.set_cons_zero, List.set_cons_succ]
      refine seq_take 11 (v := ?_) rfl (by kernel_rfl) (fun _ _ _ h => h) (Or.inl ⟨by rfl, fun w' hb => ?_⟩) ?_
      rotate_left
      · have kf := KF w' hb
        go_simp
        with_reducible rfl
      simp only [Act.put, List.setIfInBounds_toArray, List.set_cons_zero, List.set_cons_succ]
      refine seq_take 12 (v := ?_) rfl (by kernel_rfl) (fun _ _ _ h => h) (Or.inl ⟨by rfl, fun w' hb => ?_⟩) ?_
      rotate_left
      · have kf := KF w' hb
        go_simp
        with_reducible rfl
      simp only [Act.put, List.setIfInBounds_toArray, List.set_cons_zero, List.set_cons_succ]
      refine seq_take 13 (v := ?_) rfl (by kernel_rfl) (fun _ _ _ h => h) (Or.inl ⟨by rfl, fun w' hb => ?_⟩) ?_
      rotate_left
      · have kf := KF w' hb
        go_simp
        with_reducible rfl
      simp only [Act.put, List.setIfInBounds_toArray, List.set_cons_zero, List.set_cons_succ]
      refine seq_take 14 (v := ?_) rfl (by kernel_rfl) (fun _ _ _ h => h) (Or.inl ⟨by rfl, fun w' hb => ?_⟩) ?_
      rotate_left
      · have kf := KF w' hb
        go_simp
        with_reducible rfl
      simp only [Act.put, List.setIfInBounds_toArray, List.set_cons_zero, List.set_cons_succ]
      refine seq_do 15 rfl (by kernel_rfl) (fun K hK => ?_)
      go_simp
      go_at_call 13
      refine (known_any _).mono ?_
      rintro e w5 ⟨rfl, hb5⟩
      refine hK.out _ _ hb5 ?_
      clear hK K
      simp only [List.set_cons_zero, List.set_cons_succ]
      replace KF := fun w' (h : Below w5.heap.size w5 w') => KF w' (belT hb5 h)
      refine seq_take 16 (v := ?_) rfl (by kernel_rfl) (fun _ _ _ h => h) (Or.inl ⟨by rfl, fun w' hb => ?_⟩) ?_
      rotate_left
      · have kf := KF w' hb
        go_simp
        with_reducible rfl
      simp only [Act.put, List.setIfInBounds_toArray, List.set_cons_zero, List.set_cons_succ]
      refine seq_take 17 (v := ?_) rfl (by kernel_rfl) (fun _ _ _ h => h) (Or.inl ⟨by rfl, fun w' hb => ?_⟩) ?_
      rotate_left
      · have kf := KF w' hb
        go_simp
        with_reducible rfl
      simp only [Act.put, List.setIfInBounds_toArray, List.set_cons_zero, List.set_cons_succ]
      refine seq_end (by kernel_rfl) ?_
      go_wp2_with fail
      go_ret
      exact ⟨rfl, belT hbb4 (belT (Below.refl _ _).drew hb5)⟩
  · clear HF HY
    go_wp2_with (first | (go_at_call 12; refine (num_any _ _).mono ?_; rintro e w' ⟨rfl, rfl⟩) | (go_at_call 13; refine (known_any _).mono ?_; rintro e w5 ⟨rfl, hb5⟩))
    go_ret
    exact ⟨rfl, belT hbb4 hb5⟩
theorem blobs_any (a b : Option Addr) (ca cb : Nat) (la lb : List UInt8) (w : World) (hA : Bs w a la) (hB : Bs w b lb) (hna : a = none → ca = 0) (hnb : b = none → cb = 0) (h1 : la.length ≤ 9223372036854775807) (h2 : lb.length ≤ 9223372036854775807) :
    Calls Try.prog 5 #[.slice a la.length ca, .slice b lb.length cb] w fun e w' => e = .returned (.bool true) ∧ Below w.heap.size w w' := by
  by_cases h : 70000 < la.length ∨ 70000 < lb.length
  · exact blobs_out a b ca cb la lb w h h1 h2
  · by_cases h' : la.length ≤ 65535
    · exact blobs_in a b ca cb la lb w hA hB hna hnb h' (by omega)
    · exact blobs_long a b ca cb la lb w hB hnb (by omega) (by omega) (by omega)
end Go.Proofs.Ytcfcdnoebgdfeaa

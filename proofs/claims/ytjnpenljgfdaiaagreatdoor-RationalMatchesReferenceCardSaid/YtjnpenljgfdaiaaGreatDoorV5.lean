/- package integer: two numbers out of two strings. -/
import Derived.Test.YtjnpenljgfdaiaaGreatDoorV4
namespace Go.Proofs.YtjnpenljgfdaiaaGreatDoor
open Go.RowKit Go.Shelf Lib

theorem two_set {w V : World} {B : Nat} (h1 : BlkT V B #[.bool false, .slice none 0 0] 90) (h2 : BlkT V (B + 1) #[.bool false, .slice none 0 0] 90) (hB : Below B w V) (b1 b2 : Bool) (a1 a2 : Option Addr) (n1 c1 n2 c2 : Nat) :
    BlkT ((((V.setCell ⟨B, 0, none⟩ (.bool b1)).setCell ⟨B, 1, none⟩ (.slice a1 n1 c1)).setCell ⟨B + 1, 0, none⟩ (.bool b2)).setCell ⟨B + 1, 1, none⟩ (.slice a2 n2 c2)) B #[.bool b1, .slice a1 n1 c1] 90 ∧
    BlkT ((((V.setCell ⟨B, 0, none⟩ (.bool b1)).setCell ⟨B, 1, none⟩ (.slice a1 n1 c1)).setCell ⟨B + 1, 0, none⟩ (.bool b2)).setCell ⟨B + 1, 1, none⟩ (.slice a2 n2 c2)) (B + 1) #[.bool b2, .slice a2 n2 c2] 90 ∧
    (∀ u l, IntsAt V u l → IntsAt ((((V.setCell ⟨B, 0, none⟩ (.bool b1)).setCell ⟨B, 1, none⟩ (.slice a1 n1 c1)).setCell ⟨B + 1, 0, none⟩ (.bool b2)).setCell ⟨B + 1, 1, none⟩ (.slice a2 n2 c2)) u l) ∧
    Below B w ((((V.setCell ⟨B, 0, none⟩ (.bool b1)).setCell ⟨B, 1, none⟩ (.slice a1 n1 c1)).setCell ⟨B + 1, 0, none⟩ (.bool b2)).setCell ⟨B + 1, 1, none⟩ (.slice a2 n2 c2)) := by
  have e1 := (h1.set 0 (.bool b1))
  have e2 := e1.set 1 (.slice a1 n1 c1)
  have e3 := e2.other (.bool b2) (a := ⟨B + 1, 0, none⟩) (by dsimp only; omega)
  have e4 := e3.other (.slice a2 n2 c2) (a := ⟨B + 1, 1, none⟩) (by dsimp only; omega)
  have k1 := (h2.other (.bool b1) (a := ⟨B, 0, none⟩) (by dsimp only; omega)).other (.slice a1 n1 c1) (a := ⟨B, 1, none⟩) (by dsimp only; omega)
  have k2 := k1.set 0 (.bool b2)
  have k3 := k2.set 1 (.slice a2 n2 c2)
  refine ⟨by simpa using e4, by simpa using k3, fun u l h => ?_, ((((hB.setCell (by dsimp only; omega) _).setCell (by dsimp only; omega) _).setCell (by dsimp only; omega) _).setCell (by dsimp only; omega) _)⟩
  exact IntsAt.setSlot (IntsAt.setSlot (IntsAt.setSlot (IntsAt.setSlot h h1 (i := 0) (by simp) _) e1 (i := 1) (by simp) _) k1 (i := 0) (by simp) _) k2 (i := 1) (by simp) _
set_option maxRecDepth 100000 in
set_option maxHeartbeats 1000000 in
theorem both_bad (a b : ByteArray) (w : World) (ha : a.size ≤ 9223372036854775807) (hb : b.size ≤ 9223372036854775807) (h : N3.ok2 a b = false) :
    Calls Tryz.prog 84 #[.string a, .string b] w fun e w' => e = .returned (.tuple #[.agg #[.bool false, .slice none 0 0], .agg #[.bool false, .slice none 0 0], .bool false]) ∧ Below w.heap.size w w' := by
  have h1 := Lib.hid (fun V => isValid_any a V ha)
  have h2 := Lib.hid (fun V => isValid_any b V hb)
  unfold N3.ok2 at h
  obtain ⟨W0, hW0⟩ : ∃ W0, (w.alloc (.cells #[.bool false, .slice none 0 0] 90)).alloc (.cells #[.bool false, .slice none 0 0] 90) = W0 := ⟨_, rfl⟩
  have hB0 : Below w.heap.size w W0 := by rw [← hW0]; exact ((Below.refl _ _).alloc (Nat.le_refl _) _).alloc (by simp) _
  have k1 : BlkT W0 w.heap.size #[.bool false, .slice none 0 0] 90 := by rw [← hW0]; exact (BlkT.newAt _ _ _ rfl).alloc _
  have k2 : BlkT W0 (w.heap.size + 1) #[.bool false, .slice none 0 0] 90 := by rw [← hW0]; exact BlkT.newAt _ _ _ (by simp)
  cases hva : N3.okS a with
  | false =>
    rw [hva] at h1
    clear hva h
    go_enter Tryz.func84, Tryz.ntmps84
    go_wp2_with fail
    refine (h1.out _).mono ?_
    rintro e W1 ⟨rfl, HB⟩
    have q1 := k1.below HB k1.lt
    have q2 := k2.below HB k2.lt
    have x1 := q1.cell 0
    have x2 := q1.cell 1
    have x3 := q2.cell 0
    have x4 := q2.cell 1
    simp at x1 x2 x3 x4
    have f1 := q1.frozen 0
    have f2 := q1.frozen 1
    have f3 := q2.frozen 0
    have f4 := q2.frozen 1
    have hB := hB0.trans (HB.mono hB0.size)
    clear hW0
    go_wp2_with fail
    obtain ⟨r1, r2, -, r4⟩ := two_set q1 q2 hB false false none none 0 0 0 0
    generalize World.setCell _ _ _ = WF at r1 r2 r4 ⊢
    have x1 := r1.cell 0
    have x2 := r1.cell 1
    have x3 := r2.cell 0
    have x4 := r2.cell 1
    simp at x1 x2 x3 x4
    refine bodyPost_ret (v := .tuple #[.agg #[.bool false, .slice none 0 0], .agg #[.bool false, .slice none 0 0], .bool false]) (by simp [results, Tryz.results84, go_sem, x1, x2, x3, x4]) rfl ?_
    exact ⟨rfl, r4⟩
  | true =>
    rw [hva, Bool.true_and] at h
    rw [hva] at h1
    rw [h] at h2
    clear hva h
    go_enter Tryz.func84, Tryz.ntmps84
    go_wp2_with fail
    refine (h1.out _).mono ?_
    rintro e W1 ⟨rfl, HB1⟩
    go_wp2_with fail
    refine (h2.out _).mono ?_
    rintro e W2 ⟨rfl, HB2⟩
    have HB := HB1.trans (HB2.mono HB1.size)
    have q1 := k1.below HB k1.lt
    have q2 := k2.below HB k2.lt
    have x1 := q1.cell 0
    have x2 := q1.cell 1
    have x3 := q2.cell 0
    have x4 := q2.cell 1
    simp at x1 x2 x3 x4
    have f1 := q1.frozen 0
    have f2 := q1.frozen 1
    have f3 := q2.frozen 0
    have f4 := q2.frozen 1
    have hB := hB0.trans (HB.mono hB0.size)
    clear hW0
    go_wp2_with fail
    obtain ⟨r1, r2, -, r4⟩ := two_set q1 q2 hB false false none none 0 0 0 0
    generalize World.setCell _ _ _ = WF at r1 r2 r4 ⊢
    have x1 := r1.cell 0
    have x2 := r1.cell 1
    have x3 := r2.cell 0
    have x4 := r2.cell 1
    simp at x1 x2 x3 x4
    refine bodyPost_ret (v := .tuple #[.agg #[.bool false, .slice none 0 0], .agg #[.bool false, .slice none 0 0], .bool false]) (by simp [results, Tryz.results84, go_sem, x1, x2, x3, x4]) rfl ?_
    exact ⟨rfl, r4⟩
set_option maxRecDepth 100000 in
set_option maxHeartbeats 1000000 in
theorem both_ok (a b : ByteArray) (w : World) (ha : a.size ≤ 9223372036854775807) (hb : b.size ≤ 9223372036854775807) (h : N3.ok2 a b = true) :
    Calls Tryz.prog 84 #[.string a, .string b] w fun e w' => ∃ b1 a1 n1 c1 b2 a2 n2 c2, e = .returned (.tuple #[.agg #[.bool b1, .slice a1 (N3.toG n1).length c1], .agg #[.bool b2, .slice a2 (N3.toG n2).length c2], .bool true]) ∧ NumAt w' (.slice a1 (N3.toG n1).length c1) n1 ∧ NumAt w' (.slice a2 (N3.toG n2).length c2) n2 ∧ N3.sgn b1 n1 = N3.iV a ∧ N3.sgn b2 n2 = N3.iV b ∧ (b1 = true → n1 ≠ 0) ∧ (b2 = true → n2 ≠ 0) ∧ Below w.heap.size w w' := by
  have h1 := Lib.hid (fun V => isValid_any a V ha)
  have h2 := Lib.hid (fun V => isValid_any b V hb)
  unfold N3.ok2 at h
  obtain ⟨W0, hW0⟩ : ∃ W0, (w.alloc (.cells #[.bool false, .slice none 0 0] 90)).alloc (.cells #[.bool false, .slice none 0 0] 90) = W0 := ⟨_, rfl⟩
  have hB0 : Below w.heap.size w W0 := by rw [← hW0]; exact ((Below.refl _ _).alloc (Nat.le_refl _) _).alloc (by simp) _
  have k1 : BlkT W0 w.heap.size #[.bool false, .slice none 0 0] 90 := by rw [← hW0]; exact (BlkT.newAt _ _ _ rfl).alloc _
  have k2 : BlkT W0 (w.heap.size + 1) #[.bool false, .slice none 0 0] 90 := by rw [← hW0]; exact BlkT.newAt _ _ _ (by simp)
  rw [Bool.and_eq_true] at h
  have h3 := Lib.hid (fun V => parse_any a V ha h.1)
  have h4 := Lib.hid (fun V => parse_any b V hb h.2)
  rw [h.1] at h1
  rw [h.2] at h2
  clear h
  go_enter Tryz.func84, Tryz.ntmps84
  go_wp2_with fail
  refine (h1.out _).mono ?_
  rintro e W1 ⟨rfl, HB1⟩
  go_wp2_with fail
  refine (h2.out _).mono ?_
  rintro e W2 ⟨rfl, HB2⟩
  go_wp2_with fail
  refine (h3.out _).mono ?_
  rintro e W3 ⟨b1, v1, n1, rfl, hn1, hs1, hz1, HB3⟩
  obtain ⟨a1, c1, rfl, q11, q12⟩ := (show IntsAt _ v1 _ from hn1).len
  go_wp2_with fail
  refine (h4.out _).mono ?_
  rintro e W4 ⟨b2, v2, n2, rfl, hn2, hs2, hz2, HB4⟩
  obtain ⟨a2, c2, rfl, q21, q22⟩ := (show IntsAt _ v2 _ from hn2).len
  have HZ1 := Lib.hid hz1
  have HZ2 := Lib.hid hz2
  clear hz1 hz2
  have HB12 := HB1.trans (HB2.mono HB1.size)
  have HB13 := HB12.trans (HB3.mono HB12.size)
  have HB := HB13.trans (HB4.mono HB13.size)
  have q1 := k1.below HB k1.lt
  have q2 := k2.below HB k2.lt
  have x1 := q1.cell 0
  have x2 := q1.cell 1
  have x3 := q2.cell 0
  have x4 := q2.cell 1
  simp at x1 x2 x3 x4
  have f1 := q1.frozen 0
  have f2 := q1.frozen 1
  have f3 := q2.frozen 0
  have f4 := q2.frozen 1
  have hB := hB0.trans (HB.mono hB0.size)
  clear hW0
  go_wp2_with fail
  obtain ⟨r1, r2, r3, r4⟩ := two_set q1 q2 hB b1 b2 a1 a2 (castL (N3.toG n1)).length c1 (castL (N3.toG n2)).length c2
  have hn1' := r3 _ _ (SliceOf.below hn1 HB4)
  have hn2' := r3 _ _ hn2
  generalize World.setCell _ _ _ = WF at r1 r2 r4 hn1' hn2' ⊢
  have x1 := r1.cell 0
  have x2 := r1.cell 1
  have x3 := r2.cell 0
  have x4 := r2.cell 1
  simp at x1 x2 x3 x4
  refine bodyPost_ret (v := .tuple #[.agg #[.bool b1, .slice a1 (castL (N3.toG n1)).length c1], .agg #[.bool b2, .slice a2 (castL (N3.toG n2)).length c2], .bool true]) (by simp [results, Tryz.results84, go_sem, x1, x2, x3, x4]) rfl ?_
  rw [castL_len] at hn1' ⊢
  rw [castL_len] at hn2' ⊢
  exact ⟨_, _, _, _, _, _, _, _, rfl, hn1', hn2', hs1, hs2, HZ1.out, HZ2.out, r4⟩
end Go.Proofs.YtjnpenljgfdaiaaGreatDoor

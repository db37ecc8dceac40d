/- package nadirref18: own; own of the laws. -/
import Derived.Test.YtmajkagmcdlncaaC6
namespace Go.Proofs.Ytmajkagmcdlncaa
open Go.RowKit
open L18 (Pass Slot noPass noSlot putV ownI passesV ownV)

theorem own_take {o : List Slot} {k : Nat} {s : Slot} (hk : k < o.length) (hs : o.getD k noSlot = s) : ownV (o.take (k + 1)) = putV (ownV (o.take k)) s.pass := by
  unfold ownV
  rw [passes_snoc hk hs, L18.own_snoc]
theorem put_len (l : List Int) (n : Int) : (putV l n).length ≤ l.length + 1 := by
  induction l with
  | nil => simp [putV]
  | cons x l ih =>
    rw [putV]
    split
    · simp; omega
    · split <;> simp
theorem own_len (o : List Slot) : (ownV o).length ≤ o.length := by
  have h : ∀ (x : List Int) (l : List Int), (x.foldl putV l).length ≤ l.length + x.length := by
    intro x
    induction x with
    | nil => intro l; simp
    | cons y x ih => intro l; rw [List.foldl_cons]; have := ih (putV l y); have := put_len l y; simp; omega
  unfold ownV ownI
  have := h (passesV o) []
  unfold passesV at this ⊢
  simpa using this
set_option maxRecDepth 100000 in
set_option maxHeartbeats 1000000 in
theorem own42 (v : Value) (od : OptD) (m : Nat) (w : World) (ho : OptV w v od) (hm : m ≤ od.slots.length) (hs1 : od.slots.length ≤ 1000) :
    Calls Try.prog 42 #[v, .int .i64 (m : Int)] w fun e w' => ∃ v', e = .returned v' ∧ IntsF w' v' (ownV (od.slots.take m)) ∧ Below w.heap.size w w' := by
  obtain ⟨vs, rfl, hs⟩ := ho
  obtain ⟨⟨i0, i1, i2, i3, i4, i5, i6, i7⟩, o⟩ := od
  dsimp only at hs hm hs1 ⊢
  obtain ⟨V, hV⟩ : ∃ V, V = w.alloc (.cells #[.int .i64 i0, .int .i64 i1, .int .i64 i2, .int .i64 i3, .int .i64 i4, .int .i64 i5, .int .i64 i6, .int .i64 i7, vs] 28) := ⟨_, rfl⟩
  have hB0 : Below w.heap.size w V := by rw [hV]; exact (Below.refl _ _).alloc (Nat.le_refl _) _
  have kb : Blk V w.heap.size #[.int .i64 i0, .int .i64 i1, .int .i64 i2, .int .i64 i3, .int .i64 i4, .int .i64 i5, .int .i64 i6, .int .i64 i7, vs] 28 := by rw [hV]; exact Blk.new w _ _
  have HK := Lib.hid (fun W (hW : Below V.heap.size V W) => (kb.below hW kb.lt).cell 8)
  have HS := Lib.hid (hs.later hB0)
  obtain ⟨a, cap, rfl, hle, hcm⟩ := hs.len
  unfold maxLen at hcm
  clear hs kb
  go_enter Try.func42, Try.ntmps42
  go_upto_region 1 with (fail)
  rw [← hV]
  clear hV
  go_wp2
  go_loopw [5, 6] (fun u5 u6 wr => ∃ k : Nat, k ≤ m ∧ u6 = .int .i64 k ∧ IntsF wr u5 (ownV (o.take k)) ∧ Below V.heap.size V wr) (fun _ u6 _ => (m - intOf u6).toNat)
  case atStart => exact ⟨0, by omega, rfl, IntsF.nil _, Below.refl _ _⟩
  case round =>
    obtain ⟨k, hk, rfl, hI, hBr⟩ := hrel
    by_cases hkl : k < m
    · have hko : k < o.length := by omega
      have i1 : (0 : Int) ≤ (k : Int) ∧ (k : Int) < (o.length : Int) := by omega
      obtain ⟨b, off, rfl, c0, c1, c2⟩ := (SlotsAt.later HS.out hBr).get (getD_some noSlot hko)
      generalize hsd : o.getD k noSlot = s at c0
      have HOT := Lib.hid (own_take hko hsd)
      have hol := own_len (o.take k)
      rw [List.length_take] at hol
      have hP := put34 _ _ s.pass _ hI (by omega)
      have k8 := HK.out _ hBr
      simp at k8
      clear hsd c1 c2 hI hol
      go_wp2_with fail
      refine hP.mono ?_
      rintro e w2 ⟨v2, rfl, hI2, hB2⟩
      go_wp2
      go_roundw
      case rel => exact ⟨k + 1, by omega, by go_num, by rw [HOT.out]; exact hI2, hBr.trans (hB2.mono hBr.size)⟩
      case measure => simp [intOf]; omega
    · obtain rfl : k = m := by omega
      go_wp2
      go_ret
      exact ⟨_, rfl, hI, hB0.trans (hBr.mono hB0.size)⟩
set_option maxRecDepth 100000 in
set_option maxHeartbeats 1000000 in
theorem own33 (v : Value) (od : OptD) (w : World) (ho : OptV w v od) (hs1 : od.slots.length ≤ 1000) :
    Calls Try.prog 33 #[v] w fun e w' => ∃ v', e = .returned v' ∧ IntsF w' v' (ownV od.slots) ∧ Below w.heap.size w w' := by
  obtain ⟨vs, rfl, hs⟩ := ho
  obtain ⟨⟨i0, i1, i2, i3, i4, i5, i6, i7⟩, o⟩ := od
  dsimp only at hs hs1 ⊢
  obtain ⟨V, hV⟩ : ∃ V, V = w.alloc (.cells #[.int .i64 i0, .int .i64 i1, .int .i64 i2, .int .i64 i3, .int .i64 i4, .int .i64 i5, .int .i64 i6, .int .i64 i7, vs] 28) := ⟨_, rfl⟩
  have hB0 : Below w.heap.size w V := by rw [hV]; exact (Below.refl _ _).alloc (Nat.le_refl _) _
  have kb : Blk V w.heap.size #[.int .i64 i0, .int .i64 i1, .int .i64 i2, .int .i64 i3, .int .i64 i4, .int .i64 i5, .int .i64 i6, .int .i64 i7, vs] 28 := by rw [hV]; exact Blk.new w _ _
  have HK := Lib.hid (fun W (hW : Below V.heap.size V W) => (kb.below hW kb.lt).cell 8)
  have HS := Lib.hid (hs.later hB0)
  obtain ⟨a, cap, rfl, hle, hcm⟩ := hs.len
  unfold maxLen at hcm
  clear hs kb
  go_enter Try.func33, Try.ntmps33
  go_upto_region 1 with (fail)
  rw [← hV]
  clear hV
  go_wp2
  go_loopw [3, 4] (fun u3 u4 wr => ∃ k : Nat, k ≤ o.length ∧ u4 = .int .i64 k ∧ IntsF wr u3 (ownV (o.take k)) ∧ Below V.heap.size V wr) (fun _ u4 _ => (o.length - intOf u4).toNat)
  case atStart => exact ⟨0, by omega, rfl, IntsF.nil _, Below.refl _ _⟩
  case round =>
    obtain ⟨k, hk, rfl, hI, hBr⟩ := hrel
    have k8 := HK.out _ hBr
    simp at k8
    by_cases hkl : k < o.length
    · have i1 : (0 : Int) ≤ (k : Int) ∧ (k : Int) < (o.length : Int) := by omega
      obtain ⟨b, off, rfl, c0, c1, c2⟩ := (SlotsAt.later HS.out hBr).get (getD_some noSlot hkl)
      generalize hsd : o.getD k noSlot = s at c0
      have HOT := Lib.hid (own_take hkl hsd)
      have hol := own_len (o.take k)
      rw [List.length_take] at hol
      have hP := put34 _ _ s.pass _ hI (by omega)
      clear hsd c1 c2 hI hol
      go_wp2_with fail
      refine hP.mono ?_
      rintro e w2 ⟨v2, rfl, hI2, hB2⟩
      go_wp2
      go_roundw
      case rel => exact ⟨k + 1, by omega, by go_num, by rw [HOT.out]; exact hI2, hBr.trans (hB2.mono hBr.size)⟩
      case measure => simp [intOf]; omega
    · obtain rfl : k = o.length := by omega
      rw [List.take_length] at hI
      go_wp2
      go_ret
      exact ⟨_, rfl, hI, hB0.trans (hBr.mono hB0.size)⟩
end Go.Proofs.Ytmajkagmcdlncaa

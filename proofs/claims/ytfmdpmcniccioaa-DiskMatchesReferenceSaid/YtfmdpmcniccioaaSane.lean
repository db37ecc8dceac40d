/- nadirlaw33.sane. -/
import Derived.Test.YtfmdpmcniccioaaD11
namespace Go.Proofs.Ytfmdpmcniccioaa
open Go.RowKit Go.Shelf Lib

def sD0 : DiskD := newD 4
def sD1 : DiskD := writeD sD0 0 ⟨#[97, 98]⟩
def sD2 : DiskD := writeD sD1 1 ⟨#[120, 121]⟩
def sD3 : DiskD := writeD sD2 3 ⟨#[122, 122]⟩
def sD4 : DiskD := crashD sD3 [1, 0] 1
def sD5 : DiskD := cutD sD4 1
def sD6 : DiskD := writeD sD5 3 ⟨#[113]⟩
theorem sane_facts : (writeE sD0 0 ⟨#[97, 98]⟩ = 0 ∧ writeE sD1 1 ⟨#[120, 121]⟩ = 0 ∧ writeE sD2 3 ⟨#[122, 122]⟩ = 330 ∧ readS sD3 0 4 = ⟨#[97, 120, 121, 0]⟩) ∧
    (sD3.pend.length = 2 ∧ readS sD4 0 4 = ⟨#[97, 120, 0, 0]⟩ ∧ readE sD4 0 4 = 0) ∧ (cutE sD4 1 = 0 ∧ writeE sD5 3 ⟨#[113]⟩ = 0 ∧ syncE sD6 = 331) := by
  refine ⟨⟨?_, ?_, ?_, ?_⟩, ⟨?_, ?_, ?_⟩, ?_, ?_, ?_⟩ <;> decide +kernel
theorem ints_blk2 {W : World} {B : Nat} {x y : Int} (hb : Blk W B #[.int .i64 x, .int .i64 y] 3) : IntsAt W (.slice (some ⟨B, 0, none⟩) 2 2) [x, y] :=
  ⟨_, 2, rfl, Nat.le_refl _, by unfold maxLen; omega, fun _ => ⟨B, 0, rfl, fun j z hj => by
    match j with
    | 0 => simp at hj; subst hj; exact hb.cell 0
    | 1 => simp at hj; subst hj; exact hb.cell 1
    | j + 2 => simp at hj⟩⟩
set_option maxRecDepth 100000 in
set_option maxHeartbeats 2000000 in
theorem sane_true (w : World) : Calls Try.prog 12 #[] w fun e w' => e = .returned (.bool true) ∧ Below w.heap.size w w' := by
  obtain ⟨⟨f1, f2, f3, f4⟩, ⟨f5, f6, f7⟩, f8, f9, f10⟩ := sane_facts
  have hn := new_own 4 w (by decide) (by decide)
  have H0 := Lib.hid (fun W B (h : Own w.heap.size W B 4 sD0) hb => write_own h hb (by decide) 0 ⟨#[97, 98]⟩)
  have H1 := Lib.hid (fun W B (h : Own w.heap.size W B 4 sD1) hb => write_own h hb (by decide +kernel) 1 ⟨#[120, 121]⟩)
  have H2 := Lib.hid (fun W B (h : Own w.heap.size W B 4 sD2) hb => write_own h hb (by decide +kernel) 3 ⟨#[122, 122]⟩)
  have H3 := Lib.hid (fun W B (h : Own w.heap.size W B 4 sD3) => read_f h 0 4)
  have H3p := Lib.hid (fun W B (h : Own w.heap.size W B 4 sD3) => pending_f h)
  have H3c := Lib.hid (fun W B (h : Own w.heap.size W B 4 sD3) hb vk hk => crash_own h hb vk [1, 0] hk (by decide) 1)
  have H4 := Lib.hid (fun W B (h : Own w.heap.size W B 4 sD4) => read_f h 0 4)
  have H4c := Lib.hid (fun W B (h : Own w.heap.size W B 4 sD4) hb => cut_own h hb 1 (by decide))
  have H5 := Lib.hid (fun W B (h : Own w.heap.size W B 4 sD5) hb => write_own h hb (by decide +kernel) 3 ⟨#[113]⟩)
  have H6 := Lib.hid (fun W B (h : Own w.heap.size W B 4 sD6) hb => sync_own h hb)
  rw [f1] at H0
  rw [f2] at H1
  rw [f3] at H2
  rw [f4] at H3
  rw [f5] at H3p
  rw [f6, f7] at H4
  rw [f8] at H4c
  rw [f9] at H5
  rw [f10] at H6
  clear f1 f2 f3 f4 f5 f6 f7 f8 f9 f10
  go_enter Try.func12, Try.ntmps12
  go_wp2_with fail
  refine hn.mono ?_
  rintro e w0 ⟨B, rfl, h0, b0⟩
  have hb0 := b0.size
  clear hn
  go_wp2_with fail
  refine (new_no 0 _ (.inl (by decide))).mono ?_
  rintro e wq ⟨rfl, rfl⟩
  go_wp2_with fail
  refine (H0.out w0 B h0 hb0).mono ?_
  rintro e w1 ⟨rfl, h1, c1⟩
  have b1 := b0.trans c1
  have hb1 := b1.size
  go_wp2_with fail
  refine (H1.out w1 B h1 hb1).mono ?_
  rintro e w2 ⟨rfl, h2, c2⟩
  have b2 := b1.trans c2
  have hb2 := b2.size
  go_wp2_with fail
  refine (H2.out w2 B h2 hb2).mono ?_
  rintro e w3 ⟨rfl, h3, c3⟩
  have b3 := b2.trans c3
  have hb3 := b3.size
  go_wp2_with fail
  refine (H3.out w3 B h3).mono ?_
  rintro e wq ⟨rfl, rfl⟩
  go_wp2_with fail
  refine (H3p.out w3 B h3).mono ?_
  rintro e wq ⟨rfl, rfl⟩
  have hA : Below w3.heap.size w3 (w3.alloc (.cells #[.int .i64 1, .int .i64 0] 3)) := (Below.refl _ _).alloc (Nat.le_refl _) _
  have h3' := OwnF.below h3 hA
  have b3' := b3.trans (hA.mono hb3)
  have kk := ints_blk2 (Blk.new w3 #[.int .i64 1, .int .i64 0] 3)
  have hcr := H3c.out _ B h3' b3'.size _ kk
  go_wp2_with fail
  refine hcr.mono ?_
  rintro e w4 ⟨rfl, h4, c4⟩
  have b4 := b3'.trans c4
  have hb4 := b4.size
  clear hcr kk h3'
  go_wp2_with fail
  refine (H4.out w4 B h4).mono ?_
  rintro e wq ⟨rfl, rfl⟩
  go_wp2_with fail
  refine (H4c.out w4 B h4 hb4).mono ?_
  rintro e w5 ⟨rfl, h5, c5⟩
  have b5 := b4.trans c5
  have hb5 := b5.size
  go_wp2_with fail
  refine (H5.out w5 B h5 hb5).mono ?_
  rintro e w6 ⟨rfl, h6, c6⟩
  have b6 := b5.trans c6
  have hb6 := b6.size
  go_wp2_with fail
  refine (H6.out w6 B h6 hb6).mono ?_
  rintro e w7 ⟨rfl, h7, c7⟩
  have b7 := b6.trans c7
  go_wp2_with fail
  refine (size_f h7).mono ?_
  rintro e wq ⟨rfl, rfl⟩
  go_wp2
  go_ret
  exact ⟨rfl, b7⟩
end Go.Proofs.Ytfmdpmcniccioaa

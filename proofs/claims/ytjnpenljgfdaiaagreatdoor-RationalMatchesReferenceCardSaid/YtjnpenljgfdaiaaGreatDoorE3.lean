/- package nadirlaw03: the chapter's examples. -/
import Derived.Test.YtjnpenljgfdaiaaGreatDoorE2
namespace Go.Proofs.YtjnpenljgfdaiaaGreatDoor
open Go.RowKit Go.Shelf Lib

theorem out_lit {x : Int} {s : ByteArray} (hs : N3.okS s = true) (hx : N3.iV s = x) : N3.outS (some x) = s ∧ N3.outE (some x) = 0 := by
  have h1 := N3.iV_lim hs
  rw [hx] at h1
  rw [N3.outS_some h1, N3.outE_some h1, ← hx, N3.S_iV hs]
  exact ⟨rfl, rfl⟩
theorem out_none : N3.outS none = ⟨#[]⟩ ∧ N3.outE none = 30 := ⟨rfl, rfl⟩

theorem ex_a (w : World) (he : EnvW w) : Calls Tryz.prog 34 #[.string ⟨#[57, 57, 57]⟩, .string ⟨#[49]⟩] w fun e w' => e = .returned (.tuple #[.string ⟨#[49, 48, 48, 48]⟩, .int .i64 0]) ∧ Below w.heap.size w w' := by
  have h := add_f ⟨#[57, 57, 57]⟩ ⟨#[49]⟩ w (by decide) (by decide) he
  have hq : N3.addO ⟨#[57, 57, 57]⟩ ⟨#[49]⟩ = some (N3.iV ⟨#[49, 48, 48, 48]⟩) := by unfold N3.addO; rw [if_pos (by decide +kernel)]; exact congrArg some (by decide +kernel)
  rw [hq, (out_lit (s := ⟨#[49, 48, 48, 48]⟩) (by decide +kernel) rfl).1, (out_lit (s := ⟨#[49, 48, 48, 48]⟩) (by decide +kernel) rfl).2] at h
  exact h
theorem ex_b (w : World) (he : EnvW w) : Calls Tryz.prog 36 #[.string ⟨#[49]⟩, .string ⟨#[49, 48, 48, 48]⟩] w fun e w' => e = .returned (.tuple #[.string ⟨#[45, 57, 57, 57]⟩, .int .i64 0]) ∧ Below w.heap.size w w' := by
  have h := sub_f ⟨#[49]⟩ ⟨#[49, 48, 48, 48]⟩ w (by decide) (by decide) he
  have hq : N3.subO ⟨#[49]⟩ ⟨#[49, 48, 48, 48]⟩ = some (N3.iV ⟨#[45, 57, 57, 57]⟩) := by unfold N3.subO; rw [if_pos (by decide +kernel)]; exact congrArg some (by decide +kernel)
  rw [hq, (out_lit (s := ⟨#[45, 57, 57, 57]⟩) (by decide +kernel) rfl).1, (out_lit (s := ⟨#[45, 57, 57, 57]⟩) (by decide +kernel) rfl).2] at h
  exact h
theorem ex_c (w : World) (he : EnvW w) : Calls Tryz.prog 35 #[.string ⟨#[45, 49, 50]⟩, .string ⟨#[49, 50]⟩] w fun e w' => e = .returned (.tuple #[.string ⟨#[45, 49, 52, 52]⟩, .int .i64 0]) ∧ Below w.heap.size w w' := by
  have h := mul_f ⟨#[45, 49, 50]⟩ ⟨#[49, 50]⟩ w (by decide) (by decide) he
  have hq : N3.mulO ⟨#[45, 49, 50]⟩ ⟨#[49, 50]⟩ = some (N3.iV ⟨#[45, 49, 52, 52]⟩) := by unfold N3.mulO; rw [if_pos (by decide +kernel)]; exact congrArg some (by decide +kernel)
  rw [hq, (out_lit (s := ⟨#[45, 49, 52, 52]⟩) (by decide +kernel) rfl).1, (out_lit (s := ⟨#[45, 49, 52, 52]⟩) (by decide +kernel) rfl).2] at h
  exact h
theorem ex_d1 (w : World) (he : EnvW w) : Calls Tryz.prog 37 #[.string ⟨#[45, 55]⟩, .string ⟨#[50]⟩] w fun e w' => e = .returned (.tuple #[.string ⟨#[45, 52]⟩, .string ⟨#[49]⟩, .int .i64 0]) ∧ Below w.heap.size w w' := by
  have h := div_f ⟨#[45, 55]⟩ ⟨#[50]⟩ w (by decide) (by decide) he
  have hq : N3.quoO ⟨#[45, 55]⟩ ⟨#[50]⟩ = some (N3.iV ⟨#[45, 52]⟩) := by unfold N3.quoO; rw [show N3.okDiv ⟨#[45, 55]⟩ ⟨#[50]⟩ = true from by decide +kernel]; exact congrArg some (by decide +kernel)
  have hr : N3.remO ⟨#[45, 55]⟩ ⟨#[50]⟩ = some (N3.iV ⟨#[49]⟩) := by unfold N3.remO; rw [show N3.okDiv ⟨#[45, 55]⟩ ⟨#[50]⟩ = true from by decide +kernel]; exact congrArg some (by decide +kernel)
  rw [hq, hr, (out_lit (s := ⟨#[45, 52]⟩) (by decide +kernel) rfl).1, (out_lit (s := ⟨#[45, 52]⟩) (by decide +kernel) rfl).2, (out_lit (s := ⟨#[49]⟩) (by decide +kernel) rfl).1] at h
  exact h
theorem ex_d2 (w : World) (he : EnvW w) : Calls Tryz.prog 37 #[.string ⟨#[45, 55]⟩, .string ⟨#[45, 50]⟩] w fun e w' => e = .returned (.tuple #[.string ⟨#[52]⟩, .string ⟨#[49]⟩, .int .i64 0]) ∧ Below w.heap.size w w' := by
  have h := div_f ⟨#[45, 55]⟩ ⟨#[45, 50]⟩ w (by decide) (by decide) he
  have hq : N3.quoO ⟨#[45, 55]⟩ ⟨#[45, 50]⟩ = some (N3.iV ⟨#[52]⟩) := by unfold N3.quoO; rw [show N3.okDiv ⟨#[45, 55]⟩ ⟨#[45, 50]⟩ = true from by decide +kernel]; exact congrArg some (by decide +kernel)
  have hr : N3.remO ⟨#[45, 55]⟩ ⟨#[45, 50]⟩ = some (N3.iV ⟨#[49]⟩) := by unfold N3.remO; rw [show N3.okDiv ⟨#[45, 55]⟩ ⟨#[45, 50]⟩ = true from by decide +kernel]; exact congrArg some (by decide +kernel)
  rw [hq, hr, (out_lit (s := ⟨#[52]⟩) (by decide +kernel) rfl).1, (out_lit (s := ⟨#[52]⟩) (by decide +kernel) rfl).2, (out_lit (s := ⟨#[49]⟩) (by decide +kernel) rfl).1] at h
  exact h
theorem ex_g (w : World) (he : EnvW w) : Calls Tryz.prog 40 #[.string ⟨#[49, 50]⟩, .string ⟨#[45, 49, 56]⟩] w fun e w' => e = .returned (.tuple #[.string ⟨#[54]⟩, .int .i64 0]) ∧ Below w.heap.size w w' := by
  have h := gcd_f ⟨#[49, 50]⟩ ⟨#[45, 49, 56]⟩ w (by decide) (by decide) he
  have hq : N3.gcdO ⟨#[49, 50]⟩ ⟨#[45, 49, 56]⟩ = some (N3.iV ⟨#[54]⟩) := by unfold N3.gcdO; rw [if_pos (by decide +kernel)]; exact congrArg some (by decide +kernel)
  rw [hq, (out_lit (s := ⟨#[54]⟩) (by decide +kernel) rfl).1, (out_lit (s := ⟨#[54]⟩) (by decide +kernel) rfl).2] at h
  exact h
theorem ex_r1 (w : World) (he : EnvW w) : Calls Tryz.prog 41 #[.string ⟨#[57, 57]⟩] w fun e w' => e = .returned (.tuple #[.string ⟨#[57]⟩, .int .i64 0]) ∧ Below w.heap.size w w' := by
  have h := root_f ⟨#[57, 57]⟩ w (by decide) he
  have hq : N3.rootO ⟨#[57, 57]⟩ = some (N3.iV ⟨#[57]⟩) := by unfold N3.rootO; rw [if_pos (by decide +kernel), show (N3.iV ⟨#[57, 57]⟩).natAbs = 99 from by decide +kernel, N3.rootN_eq (r := 9) ⟨by decide, by decide⟩]; exact congrArg some (by decide +kernel)
  rw [hq, (out_lit (s := ⟨#[57]⟩) (by decide +kernel) rfl).1, (out_lit (s := ⟨#[57]⟩) (by decide +kernel) rfl).2] at h
  exact h
theorem ex_r2 (w : World) (he : EnvW w) : Calls Tryz.prog 41 #[.string ⟨#[45, 49]⟩] w fun e w' => e = .returned (.tuple #[.string ⟨#[]⟩, .int .i64 30]) ∧ Below w.heap.size w w' := by
  have h := root_f ⟨#[45, 49]⟩ w (by decide) he
  have hq : N3.rootO ⟨#[45, 49]⟩ = none := by unfold N3.rootO; rw [if_neg (by decide +kernel)]
  rw [hq, out_none.1, out_none.2] at h
  exact h
theorem ex_a2 (w : World) (he : EnvW w) : Calls Tryz.prog 34 #[.string ⟨#[48, 48, 55]⟩, .string ⟨#[49]⟩] w fun e w' => e = .returned (.tuple #[.string ⟨#[]⟩, .int .i64 30]) ∧ Below w.heap.size w w' := by
  have h := add_f ⟨#[48, 48, 55]⟩ ⟨#[49]⟩ w (by decide) (by decide) he
  have hq : N3.addO ⟨#[48, 48, 55]⟩ ⟨#[49]⟩ = none := by unfold N3.addO; rw [if_neg (by decide +kernel)]
  rw [hq, out_none.1, out_none.2] at h
  exact h
theorem ex_v1 (w : World) : Calls Tryz.prog 39 #[.string ⟨#[45, 55]⟩] w fun e w' => e = .returned (.bool true) ∧ Below w.heap.size w w' := by
  have h := valid_f ⟨#[45, 55]⟩ w (by decide)
  rw [show N3.okS ⟨#[45, 55]⟩ = true from by decide +kernel] at h
  exact h
theorem ex_v2 (w : World) : Calls Tryz.prog 39 #[.string ⟨#[45, 48]⟩] w fun e w' => e = .returned (.bool false) ∧ Below w.heap.size w w' := by
  have h := valid_f ⟨#[45, 48]⟩ w (by decide)
  rw [show N3.okS ⟨#[45, 48]⟩ = false from by decide +kernel] at h
  exact h
theorem ex_v3 (w : World) : Calls Tryz.prog 39 #[.string ⟨#[]⟩] w fun e w' => e = .returned (.bool false) ∧ Below w.heap.size w w' := by
  have h := valid_f ⟨#[]⟩ w (by decide)
  rw [show N3.okS ⟨#[]⟩ = false from by decide +kernel] at h
  exact h
theorem ex_c2 (w : World) : Calls Tryz.prog 38 #[.string ⟨#[45, 56]⟩, .string ⟨#[45, 55]⟩] w fun e w' => e = .returned (.int .i64 (-1)) ∧ Below w.heap.size w w' := by
  have h := compare_f ⟨#[45, 56]⟩ ⟨#[45, 55]⟩ w (by decide) (by decide)
  rw [show N3.cmpS ⟨#[45, 56]⟩ ⟨#[45, 55]⟩ = -1 from by decide +kernel] at h
  exact h
set_option maxRecDepth 100000 in
set_option maxHeartbeats 2000000 in
theorem sane_true (w : World) (he : EnvW w) : Calls Tryz.prog 32 #[] w fun e w' => e = .returned (.bool true) ∧ Below w.heap.size w w' := by
  have HE := Lib.hid he
  clear he
  go_enter Tryz.func32, Tryz.ntmps32
  go_wp2_with fail
  refine (ex_a _ HE.out).mono ?_
  rintro e W1 ⟨rfl, hb1⟩
  have hB1 := hb1
  go_wp2_with fail
  refine (ex_b _ (HE.out.below hB1)).mono ?_
  rintro e W2 ⟨rfl, hb2⟩
  have hB2 := hB1.trans (hb2.mono hB1.size)
  go_wp2_with fail
  refine (ex_c _ (HE.out.below hB2)).mono ?_
  rintro e W3 ⟨rfl, hb3⟩
  have hB3 := hB2.trans (hb3.mono hB2.size)
  go_wp2_with fail
  refine (ex_d1 _ (HE.out.below hB3)).mono ?_
  rintro e W4 ⟨rfl, hb4⟩
  have hB4 := hB3.trans (hb4.mono hB3.size)
  go_wp2_with fail
  refine (ex_d2 _ (HE.out.below hB4)).mono ?_
  rintro e W5 ⟨rfl, hb5⟩
  have hB5 := hB4.trans (hb5.mono hB4.size)
  go_wp2_with fail
  refine (ex_g _ (HE.out.below hB5)).mono ?_
  rintro e W6 ⟨rfl, hb6⟩
  have hB6 := hB5.trans (hb6.mono hB5.size)
  go_wp2_with fail
  refine (ex_r1 _ (HE.out.below hB6)).mono ?_
  rintro e W7 ⟨rfl, hb7⟩
  have hB7 := hB6.trans (hb7.mono hB6.size)
  go_wp2_with fail
  refine (ex_r2 _ (HE.out.below hB7)).mono ?_
  rintro e W8 ⟨rfl, hb8⟩
  have hB8 := hB7.trans (hb8.mono hB7.size)
  go_wp2_with fail
  refine (ex_a2 _ (HE.out.below hB8)).mono ?_
  rintro e W9 ⟨rfl, hb9⟩
  have hB9 := hB8.trans (hb9.mono hB8.size)
  go_wp2_with fail
  refine (ex_v1 _).mono ?_
  rintro e W10 ⟨rfl, hb10⟩
  have hB10 := hB9.trans (hb10.mono hB9.size)
  go_wp2_with fail
  refine (ex_v2 _).mono ?_
  rintro e W11 ⟨rfl, hb11⟩
  have hB11 := hB10.trans (hb11.mono hB10.size)
  go_wp2_with fail
  refine (ex_v3 _).mono ?_
  rintro e W12 ⟨rfl, hb12⟩
  have hB12 := hB11.trans (hb12.mono hB11.size)
  go_wp2_with fail
  refine (ex_c2 _).mono ?_
  rintro e W13 ⟨rfl, hb13⟩
  have hB13 := hB12.trans (hb13.mono hB12.size)
  go_wp2_with fail
  go_ret
  exact ⟨rfl, hB13⟩
end Go.Proofs.YtjnpenljgfdaiaaGreatDoor

import Derived.Test.YtgjihgdomicijaaDoorT7
import Derived.Test.YtgjihgdomicijaaDoorT8
namespace Go.Proofs.YtgjihgdomicijaaDoor
open Go.RowKit

theorem sane1 (w : World) : Calls Tryd.prog 12 #[.int .i64 (-64)] w fun e w' => e = .returned (.tuple #[.string ⟨#[127]⟩, .int .i64 0]) ∧ Below w.heap.size w w' :=
  (put_yes (-64) w (by decide) (by decide)).mono fun _ _ ⟨he, hw⟩ => ⟨by rw [he, show strOfNums (enc (zig (-64))) = ⟨#[127]⟩ from by decide +kernel], hw⟩
theorem sane2 (w : World) : Calls Tryd.prog 12 #[.int .i64 64] w fun e w' => e = .returned (.tuple #[.string ⟨#[128, 1]⟩, .int .i64 0]) ∧ Below w.heap.size w w' :=
  (put_yes 64 w (by decide) (by decide)).mono fun _ _ ⟨he, hw⟩ => ⟨by rw [he, show strOfNums (enc (zig 64)) = ⟨#[128, 1]⟩ from by decide +kernel], hw⟩
theorem sane3 (w : World) : Calls Tryd.prog 15 #[.string ⟨#[97, 172, 2, 98]⟩, .int .i64 1] w fun e w' => e = .returned (.tuple #[.int .i64 150, .int .i64 3, .int .i64 0]) ∧ w = w' :=
  (int_any ⟨#[97, 172, 2, 98]⟩ 1 w (by decide) (by decide)).mono fun _ _ ⟨he, hw⟩ => ⟨by rw [he, show intS ⟨#[97, 172, 2, 98]⟩ 1 = (150, 3, 0) from by decide +kernel]; rfl, hw⟩
theorem sane4 (w : World) : Calls Tryd.prog 15 #[.string ⟨#[128, 0]⟩, .int .i64 0] w fun e w' => e = .returned (.tuple #[.int .i64 0, .int .i64 0, .int .i64 10]) ∧ w = w' :=
  (int_any ⟨#[128, 0]⟩ 0 w (by decide) (by decide)).mono fun _ _ ⟨he, hw⟩ => ⟨by rw [he, show intS ⟨#[128, 0]⟩ 0 = (0, 0, 10) from by decide +kernel]; rfl, hw⟩
theorem sane5 (w : World) : Calls Tryd.prog 19 #[.string ⟨#[97, 98]⟩] w fun e w' => e = .returned (.tuple #[.string ⟨#[4, 97, 98]⟩, .int .i64 0]) ∧ Below w.heap.size w w' :=
  (puts_yes ⟨#[97, 98]⟩ w (by decide)).mono fun _ _ ⟨he, hw⟩ => ⟨by rw [he, show strS ⟨#[97, 98]⟩ = .tuple #[.string ⟨#[4, 97, 98]⟩, .int .i64 0] from by
    unfold strS; rw [show strOfNums (enc (zig (⟨#[97, 98]⟩ : ByteArray).size)) ++ ⟨#[97, 98]⟩ = ⟨#[4, 97, 98]⟩ from by decide +kernel]], hw⟩
theorem sane6 (w : World) : Calls Tryd.prog 17 #[.string ⟨#[4, 97, 98, 99]⟩, .int .i64 0] w fun e w' => e = .returned (.tuple #[.string ⟨#[97, 98]⟩, .int .i64 3, .int .i64 0]) ∧ w = w' :=
  (str_any ⟨#[4, 97, 98, 99]⟩ 0 w (by decide) (by decide)).mono fun _ _ ⟨he, hw⟩ => ⟨by
    rw [he, show intS ⟨#[4, 97, 98, 99]⟩ 0 = (2, 1, 0) from by decide +kernel]
    unfold strI
    rw [if_neg (by decide), if_neg (by decide), show (⟨#[4, 97, 98, 99]⟩ : ByteArray).extract (1 : Int).toNat ((1 : Int) + 2).toNat = ⟨#[97, 98]⟩ from by decide +kernel]
    rfl, hw⟩
theorem sane7 (w : World) : Calls Tryd.prog 17 #[.string ⟨#[4, 97]⟩, .int .i64 0] w fun e w' => e = .returned (.tuple #[.string ⟨#[]⟩, .int .i64 0, .int .i64 10]) ∧ w = w' :=
  (str_any ⟨#[4, 97]⟩ 0 w (by decide) (by decide)).mono fun _ _ ⟨he, hw⟩ => ⟨by
    rw [he, show intS ⟨#[4, 97]⟩ 0 = (2, 1, 0) from by decide +kernel]
    unfold strI
    rw [if_neg (by decide), if_pos (by decide)], hw⟩
theorem sane8 (w : World) : Calls Tryd.prog 12 #[.int .i64 4611686018427387904] w fun e w' => e = .returned (.tuple #[.string ⟨#[]⟩, .int .i64 10]) ∧ w = w' := put_no _ w (by decide)
theorem sane9 (w : World) : Calls Tryd.prog 15 #[.string ⟨#[]⟩, .int .i64 1] w fun e w' => e = .returned (.tuple #[.int .i64 0, .int .i64 0, .int .i64 2]) ∧ w = w' :=
  int_arg ⟨#[]⟩ 1 w (by decide) (by decide) (by decide) (by decide)
theorem sane10 (w : World) (hN : Nib w) : Calls Tryd.prog 21 #[.string ⟨#[49, 50, 51, 52, 53, 54, 55, 56, 57]⟩] w fun e w' => e = .returned (.int .i64 3808858755) ∧ w = w' :=
  (sum_any ⟨#[49, 50, 51, 52, 53, 54, 55, 56, 57]⟩ w (by decide) hN).mono fun _ _ ⟨he, hw⟩ => ⟨by rw [he, show sumS ⟨#[49, 50, 51, 52, 53, 54, 55, 56, 57]⟩ = 3808858755 from by decide +kernel], hw⟩

set_option maxRecDepth 100000 in
set_option maxHeartbeats 1000000 in
theorem sane_any (w : World) (hN : Nib w) : Calls Tryd.prog 10 #[] w fun e w' => e = .returned (.bool true) ∧ Below w.heap.size w w' := by
  have HN := Lib.hid hN
  clear hN
  go_enter Tryd.func10, Tryd.ntmps10
  go_wp2_with fail
  refine (sane1 _).mono ?_
  rintro e w1 ⟨rfl, h1⟩
  go_wp2_with fail
  refine (sane2 _).mono ?_
  rintro e w2 ⟨rfl, h2⟩
  go_wp2_with fail
  refine (sane3 _).mono ?_
  rintro e w3 ⟨rfl, rfl⟩
  go_wp2_with fail
  refine (sane4 _).mono ?_
  rintro e w4 ⟨rfl, rfl⟩
  go_wp2_with fail
  refine (sane5 _).mono ?_
  rintro e w5 ⟨rfl, h5⟩
  go_wp2_with fail
  refine (sane6 _).mono ?_
  rintro e w6 ⟨rfl, rfl⟩
  go_wp2_with fail
  refine (sane7 _).mono ?_
  rintro e w7 ⟨rfl, rfl⟩
  go_wp2_with fail
  refine (sane8 _).mono ?_
  rintro e w8 ⟨rfl, rfl⟩
  go_wp2_with fail
  refine (sane9 _).mono ?_
  rintro e w9 ⟨rfl, rfl⟩
  have hB := (h1.trans (h2.mono h1.size)).trans (h5.mono (Nat.le_trans h1.size h2.size))
  go_wp2_with fail
  refine (sane10 _ (HN.out.below hB)).mono ?_
  rintro e w10 ⟨rfl, rfl⟩
  go_wp2
  go_ret
  exact ⟨rfl, hB⟩
end Go.Proofs.YtgjihgdomicijaaDoor

/- nadirlaw03: IntegerMachine. -/
import Derived.Test.YtjnpenljgfdaiaaGreatDoorLK
namespace Go.Proofs.YtjnpenljgfdaiaaGreatDoor
open Go.RowKit Go.Shelf Lib

theorem i32_bd {x : Int} (h : (Lit.int .i32 x).wf = true) : -2147483648 ≤ x ∧ x ≤ 2147483647 := by
  simp [Lit.wf, IntKind.min, IntKind.max, IntKind.signed, IntKind.bits] at h
  exact ⟨by omega, by omega⟩
set_option maxRecDepth 100000 in
set_option maxHeartbeats 4000000 in
theorem machine_zlt (x y : Int) (w : World) (l0 : -2147483648 ≤ x) (u0 : x ≤ 2147483647) (l1 : -2147483648 ≤ y) (u1 : y ≤ 2147483647) (he : EnvW w) (hd : y = 0) (ho : x < y) :
    Calls Tryz.prog 12 #[.int .i32 x, .int .i32 y] w fun e w' => e = .returned (.bool true) ∧ Below w.heap.size w w' := by
  subst hd
  have HE := Lib.hid he
  have F0 := Lib.hid (fun V (_ : EnvW V) => sane_true V ‹EnvW V›)
  have hbig : (9223372036854775808 : Nat) < N3.lim := by decide
  have lx : x.natAbs < N3.lim := by omega
  have FX := Lib.hid (fun V (hV : EnvW V) => fromInt_f x (by omega) (by omega) V hV)
  have FY := Lib.hid (fun V (hV : EnvW V) => fromInt_f 0 (by omega) (by omega) V hV)
  have T := Lib.hid (fun V (hV : EnvW V) => toInt_s (x := x) (by omega) (by omega) V hV)
  have A := Lib.hid (fun V (hV : EnvW V) => by have k := add_s lx lim0 (by rw [Int.add_zero]; exact lx) V hV; rw [Int.add_zero] at k; exact k)
  have B := Lib.hid (fun V (hV : EnvW V) => by have k := sub_s lx lim0 (by rw [Int.sub_zero]; exact lx) V hV; rw [Int.sub_zero] at k; exact k)
  have P := Lib.hid (fun V (hV : EnvW V) => by have k := mul_s lx lim0 (by rw [Int.mul_zero]; exact lim0) V hV; rw [Int.mul_zero] at k; exact k)
  have ec : N3.cmpI x 0 = (-1) := by unfold N3.cmpI; (repeat' split) <;> omega
  have C := Lib.hid (fun V (hV : EnvW V) => by have k := compare_s lx lim0 V; rw [ec] at k; exact k)
  have D := Lib.hid (fun V (hV : EnvW V) => div_zero lx lim0 rfl V hV)
  generalize N3.S x = sx at *
  generalize N3.S 0 = sy at *
  clear he hbig lx ec
  go_enter Tryz.func12, Tryz.ntmps12
  go_wp2_with omega
  refine (F0.out _ HE.out).mono ?_
  rintro e W1 ⟨rfl, hb1⟩
  have hB1 := hb1
  go_wp2_with omega
  refine (FX.out _ (HE.out.below hB1)).mono ?_
  rintro e W2 ⟨rfl, hb2⟩
  have hB2 := hB1.trans (hb2.mono hB1.size)
  go_wp2_with omega
  refine (FY.out _ (HE.out.below hB2)).mono ?_
  rintro e W3 ⟨rfl, hb3⟩
  have hB3 := hB2.trans (hb3.mono hB2.size)
  go_wp2_with omega
  refine (T.out _ (HE.out.below hB3)).mono ?_
  rintro e W4 ⟨rfl, hb4⟩
  have hB4 := hB3.trans (hb4.mono hB3.size)
  go_wp2_with omega
  refine (A.out _ (HE.out.below hB4)).mono ?_
  rintro e W5 ⟨rfl, hb5⟩
  have hB5 := hB4.trans (hb5.mono hB4.size)
  go_wp2_with omega
  refine (B.out _ (HE.out.below hB5)).mono ?_
  rintro e W6 ⟨rfl, hb6⟩
  have hB6 := hB5.trans (hb6.mono hB5.size)
  go_wp2_with omega
  refine (P.out _ (HE.out.below hB6)).mono ?_
  rintro e W7 ⟨rfl, hb7⟩
  have hB7 := hB6.trans (hb7.mono hB6.size)
  go_wp2_with omega
  refine (FX.out _ (HE.out.below hB7)).mono ?_
  rintro e W8 ⟨rfl, hb8⟩
  have hB8 := hB7.trans (hb8.mono hB7.size)
  go_wp2_with omega
  refine (FX.out _ (HE.out.below hB8)).mono ?_
  rintro e W9 ⟨rfl, hb9⟩
  have hB9 := hB8.trans (hb9.mono hB8.size)
  go_wp2_with omega
  refine (FY.out _ (HE.out.below hB9)).mono ?_
  rintro e W10 ⟨rfl, hb10⟩
  have hB10 := hB9.trans (hb10.mono hB9.size)
  go_wp2_with omega
  refine (C.out _ (HE.out.below hB10)).mono ?_
  rintro e W11 ⟨rfl, hb11⟩
  have hB11 := hB10.trans (hb11.mono hB10.size)
  go_wp2_with omega
  refine (D.out _ (HE.out.below hB11)).mono ?_
  rintro e W12 ⟨rfl, hb12⟩
  have hB12 := hB11.trans (hb12.mono hB11.size)
  go_wp2_with omega
  go_ret
  exact ⟨rfl, hB12⟩
set_option maxRecDepth 100000 in
set_option maxHeartbeats 4000000 in
theorem machine_zeq (x y : Int) (w : World) (l0 : -2147483648 ≤ x) (u0 : x ≤ 2147483647) (l1 : -2147483648 ≤ y) (u1 : y ≤ 2147483647) (he : EnvW w) (hd : y = 0) (ho : x = y) :
    Calls Tryz.prog 12 #[.int .i32 x, .int .i32 y] w fun e w' => e = .returned (.bool true) ∧ Below w.heap.size w w' := by
  subst hd
  subst ho
  have HE := Lib.hid he
  have F0 := Lib.hid (fun V (_ : EnvW V) => sane_true V ‹EnvW V›)
  have hbig : (9223372036854775808 : Nat) < N3.lim := by decide
  have lx := lim0
  have FX := Lib.hid (fun V (hV : EnvW V) => fromInt_f 0 (by omega) (by omega) V hV)
  have FY := Lib.hid (fun V (hV : EnvW V) => fromInt_f 0 (by omega) (by omega) V hV)
  have T := Lib.hid (fun V (hV : EnvW V) => toInt_s (x := 0) (by omega) (by omega) V hV)
  have A := Lib.hid (fun V (hV : EnvW V) => by have k := add_s lx lim0 (by rw [Int.add_zero]; exact lx) V hV; rw [Int.add_zero] at k; exact k)
  have B := Lib.hid (fun V (hV : EnvW V) => by have k := sub_s lx lim0 (by rw [Int.sub_zero]; exact lx) V hV; rw [Int.sub_zero] at k; exact k)
  have P := Lib.hid (fun V (hV : EnvW V) => by have k := mul_s lx lim0 (by rw [Int.mul_zero]; exact lim0) V hV; rw [Int.mul_zero] at k; exact k)
  have ec : N3.cmpI 0 0 = 0 := by unfold N3.cmpI; (repeat' split) <;> omega
  have C := Lib.hid (fun V (hV : EnvW V) => by have k := compare_s lx lim0 V; rw [ec] at k; exact k)
  have D := Lib.hid (fun V (hV : EnvW V) => div_zero lx lim0 rfl V hV)
  generalize N3.S 0 = sy at *
  clear he hbig lx ec
  go_enter Tryz.func12, Tryz.ntmps12
  go_wp2_with omega
  refine (F0.out _ HE.out).mono ?_
  rintro e W1 ⟨rfl, hb1⟩
  have hB1 := hb1
  go_wp2_with omega
  refine (FX.out _ (HE.out.below hB1)).mono ?_
  rintro e W2 ⟨rfl, hb2⟩
  have hB2 := hB1.trans (hb2.mono hB1.size)
  go_wp2_with omega
  refine (FY.out _ (HE.out.below hB2)).mono ?_
  rintro e W3 ⟨rfl, hb3⟩
  have hB3 := hB2.trans (hb3.mono hB2.size)
  go_wp2_with omega
  refine (T.out _ (HE.out.below hB3)).mono ?_
  rintro e W4 ⟨rfl, hb4⟩
  have hB4 := hB3.trans (hb4.mono hB3.size)
  go_wp2_with omega
  refine (A.out _ (HE.out.below hB4)).mono ?_
  rintro e W5 ⟨rfl, hb5⟩
  have hB5 := hB4.trans (hb5.mono hB4.size)
  go_wp2_with omega
  refine (B.out _ (HE.out.below hB5)).mono ?_
  rintro e W6 ⟨rfl, hb6⟩
  have hB6 := hB5.trans (hb6.mono hB5.size)
  go_wp2_with omega
  refine (P.out _ (HE.out.below hB6)).mono ?_
  rintro e W7 ⟨rfl, hb7⟩
  have hB7 := hB6.trans (hb7.mono hB6.size)
  go_wp2_with omega
  refine (FX.out _ (HE.out.below hB7)).mono ?_
  rintro e W8 ⟨rfl, hb8⟩
  have hB8 := hB7.trans (hb8.mono hB7.size)
  go_wp2_with omega
  refine (FX.out _ (HE.out.below hB8)).mono ?_
  rintro e W9 ⟨rfl, hb9⟩
  have hB9 := hB8.trans (hb9.mono hB8.size)
  go_wp2_with omega
  refine (FY.out _ (HE.out.below hB9)).mono ?_
  rintro e W10 ⟨rfl, hb10⟩
  have hB10 := hB9.trans (hb10.mono hB9.size)
  go_wp2_with omega
  refine (C.out _ (HE.out.below hB10)).mono ?_
  rintro e W11 ⟨rfl, hb11⟩
  have hB11 := hB10.trans (hb11.mono hB10.size)
  go_wp2_with omega
  refine (D.out _ (HE.out.below hB11)).mono ?_
  rintro e W12 ⟨rfl, hb12⟩
  have hB12 := hB11.trans (hb12.mono hB11.size)
  go_wp2_with omega
  go_ret
  exact ⟨rfl, hB12⟩
set_option maxRecDepth 100000 in
set_option maxHeartbeats 4000000 in
theorem machine_zgt (x y : Int) (w : World) (l0 : -2147483648 ≤ x) (u0 : x ≤ 2147483647) (l1 : -2147483648 ≤ y) (u1 : y ≤ 2147483647) (he : EnvW w) (hd : y = 0) (ho : y < x) :
    Calls Tryz.prog 12 #[.int .i32 x, .int .i32 y] w fun e w' => e = .returned (.bool true) ∧ Below w.heap.size w w' := by
  subst hd
  have HE := Lib.hid he
  have F0 := Lib.hid (fun V (_ : EnvW V) => sane_true V ‹EnvW V›)
  have hbig : (9223372036854775808 : Nat) < N3.lim := by decide
  have lx : x.natAbs < N3.lim := by omega
  have FX := Lib.hid (fun V (hV : EnvW V) => fromInt_f x (by omega) (by omega) V hV)
  have FY := Lib.hid (fun V (hV : EnvW V) => fromInt_f 0 (by omega) (by omega) V hV)
  have T := Lib.hid (fun V (hV : EnvW V) => toInt_s (x := x) (by omega) (by omega) V hV)
  have A := Lib.hid (fun V (hV : EnvW V) => by have k := add_s lx lim0 (by rw [Int.add_zero]; exact lx) V hV; rw [Int.add_zero] at k; exact k)
  have B := Lib.hid (fun V (hV : EnvW V) => by have k := sub_s lx lim0 (by rw [Int.sub_zero]; exact lx) V hV; rw [Int.sub_zero] at k; exact k)
  have P := Lib.hid (fun V (hV : EnvW V) => by have k := mul_s lx lim0 (by rw [Int.mul_zero]; exact lim0) V hV; rw [Int.mul_zero] at k; exact k)
  have ec : N3.cmpI x 0 = 1 := by unfold N3.cmpI; (repeat' split) <;> omega
  have C := Lib.hid (fun V (hV : EnvW V) => by have k := compare_s lx lim0 V; rw [ec] at k; exact k)
  have D := Lib.hid (fun V (hV : EnvW V) => div_zero lx lim0 rfl V hV)
  generalize N3.S x = sx at *
  generalize N3.S 0 = sy at *
  clear he hbig lx ec
  go_enter Tryz.func12, Tryz.ntmps12
  go_wp2_with omega
  refine (F0.out _ HE.out).mono ?_
  rintro e W1 ⟨rfl, hb1⟩
  have hB1 := hb1
  go_wp2_with omega
  refine (FX.out _ (HE.out.below hB1)).mono ?_
  rintro e W2 ⟨rfl, hb2⟩
  have hB2 := hB1.trans (hb2.mono hB1.size)
  go_wp2_with omega
  refine (FY.out _ (HE.out.below hB2)).mono ?_
  rintro e W3 ⟨rfl, hb3⟩
  have hB3 := hB2.trans (hb3.mono hB2.size)
  go_wp2_with omega
  refine (T.out _ (HE.out.below hB3)).mono ?_
  rintro e W4 ⟨rfl, hb4⟩
  have hB4 := hB3.trans (hb4.mono hB3.size)
  go_wp2_with omega
  refine (A.out _ (HE.out.below hB4)).mono ?_
  rintro e W5 ⟨rfl, hb5⟩
  have hB5 := hB4.trans (hb5.mono hB4.size)
  go_wp2_with omega
  refine (B.out _ (HE.out.below hB5)).mono ?_
  rintro e W6 ⟨rfl, hb6⟩
  have hB6 := hB5.trans (hb6.mono hB5.size)
  go_wp2_with omega
  refine (P.out _ (HE.out.below hB6)).mono ?_
  rintro e W7 ⟨rfl, hb7⟩
  have hB7 := hB6.trans (hb7.mono hB6.size)
  go_wp2_with omega
  refine (FX.out _ (HE.out.below hB7)).mono ?_
  rintro e W8 ⟨rfl, hb8⟩
  have hB8 := hB7.trans (hb8.mono hB7.size)
  go_wp2_with omega
  refine (FX.out _ (HE.out.below hB8)).mono ?_
  rintro e W9 ⟨rfl, hb9⟩
  have hB9 := hB8.trans (hb9.mono hB8.size)
  go_wp2_with omega
  refine (FY.out _ (HE.out.below hB9)).mono ?_
  rintro e W10 ⟨rfl, hb10⟩
  have hB10 := hB9.trans (hb10.mono hB9.size)
  go_wp2_with omega
  refine (C.out _ (HE.out.below hB10)).mono ?_
  rintro e W11 ⟨rfl, hb11⟩
  have hB11 := hB10.trans (hb11.mono hB10.size)
  go_wp2_with omega
  refine (D.out _ (HE.out.below hB11)).mono ?_
  rintro e W12 ⟨rfl, hb12⟩
  have hB12 := hB11.trans (hb12.mono hB11.size)
  go_wp2_with omega
  go_ret
  exact ⟨rfl, hB12⟩
set_option maxRecDepth 100000 in
set_option maxHeartbeats 4000000 in
theorem machine_clt (x y : Int) (w : World) (l0 : -2147483648 ≤ x) (u0 : x ≤ 2147483647) (l1 : -2147483648 ≤ y) (u1 : y ≤ 2147483647) (he : EnvW w) (hd : y ≠ 0 ∧ (0 ≤ x ∨ y ∣ x)) (ho : x < y) :
    Calls Tryz.prog 12 #[.int .i32 x, .int .i32 y] w fun e w' => e = .returned (.bool true) ∧ Below w.heap.size w w' := by
  have HE := Lib.hid he
  have F0 := Lib.hid (fun V (_ : EnvW V) => sane_true V ‹EnvW V›)
  have hu := And.intro l1 u1
  clear hu
  have hbig : (9223372036854775808 : Nat) < N3.lim := by decide
  have lx : x.natAbs < N3.lim := by omega
  have ly : y.natAbs < N3.lim := by omega
  have hp : (x * y).natAbs ≤ 2147483648 * 2147483648 := by rw [Int.natAbs_mul]; exact Nat.mul_le_mul (by omega) (by omega)
  have p0 : -9223372036854775808 ≤ x * y := by omega
  have p1 : x * y ≤ 9223372036854775807 := by omega
  have la : (x + y).natAbs < N3.lim := by omega
  have ls : (x - y).natAbs < N3.lim := by omega
  have lp : (x * y).natAbs < N3.lim := by omega
  have FX := Lib.hid (fun V (hV : EnvW V) => fromInt_f x (by omega) (by omega) V hV)
  have FY := Lib.hid (fun V (hV : EnvW V) => fromInt_f y (by omega) (by omega) V hV)
  have T := Lib.hid (fun V (hV : EnvW V) => toInt_s (x := x) (by omega) (by omega) V hV)
  have A := Lib.hid (fun V (hV : EnvW V) => add_s lx ly la V hV)
  have B := Lib.hid (fun V (hV : EnvW V) => sub_s lx ly ls V hV)
  have P := Lib.hid (fun V (hV : EnvW V) => mul_s lx ly lp V hV)
  have FA := Lib.hid (fun V (hV : EnvW V) => fromInt_f (x + y) (by omega) (by omega) V hV)
  have FB := Lib.hid (fun V (hV : EnvW V) => fromInt_f (x - y) (by omega) (by omega) V hV)
  have FP := Lib.hid (fun V (hV : EnvW V) => fromInt_f (x * y) p0 p1 V hV)
  have ec : N3.cmpI x y = (-1) := by unfold N3.cmpI; (repeat' split) <;> omega
  have C := Lib.hid (fun V (hV : EnvW V) => by have k := compare_s lx ly V; rw [ec] at k; exact k)
  have hy : y ≠ 0 := by omega
  have e1 := Int.tdiv_eq_ediv (a := x) (b := y)
  have e2 := Int.tmod_eq_emod (a := x) (b := y)
  rw [if_pos hd.2] at e1 e2
  have m0 := Int.emod_nonneg x hy
  have m1 := N3.mod_natAbs_lt (x := x) hy
  have m2 := N3.div_natAbs_le x y
  generalize hq : x.tdiv y = q0 at e1
  generalize hr : x.tmod y = r0 at e2
  have f1 : x / y = q0 := by omega
  have f2 : x % y = r0 := by omega
  rw [f1] at m2
  rw [f2] at m0 m1
  have D := Lib.hid (fun V (hV : EnvW V) => by have k := div_s lx ly hy V hV; rw [f1, f2] at k; exact k)
  have FQ := Lib.hid (fun V (hV : EnvW V) => fromInt_f (q0) (by omega) (by omega) V hV)
  have FR := Lib.hid (fun V (hV : EnvW V) => fromInt_f (r0) (by omega) (by omega) V hV)
  have c1 : ¬ r0 < 0 := by omega
  have z1 : -4294967296 ≤ q0 := by omega
  have z2 : q0 ≤ 4294967296 := by omega
  have z3 : -4294967296 ≤ r0 := by omega
  have z4 : r0 ≤ 4294967296 := by omega
  generalize N3.S (x + y) = sa at *
  generalize N3.S (x - y) = sb at *
  generalize N3.S (x * y) = sp at *
  generalize N3.S x = sx at *
  generalize N3.S y = sy at *
  generalize N3.S (q0) = sq at *
  generalize N3.S (r0) = sr at *
  clear he hbig lx ly hp la ls lp ec e1 e2 f1 f2 m0 m1 m2 hd
  go_enter Tryz.func12, Tryz.ntmps12
  go_wp2_with omega
  refine (F0.out _ HE.out).mono ?_
  rintro e W1 ⟨rfl, hb1⟩
  have hB1 := hb1
  go_wp2_with omega
  refine (FX.out _ (HE.out.below hB1)).mono ?_
  rintro e W2 ⟨rfl, hb2⟩
  have hB2 := hB1.trans (hb2.mono hB1.size)
  go_wp2_with omega
  refine (FY.out _ (HE.out.below hB2)).mono ?_
  rintro e W3 ⟨rfl, hb3⟩
  have hB3 := hB2.trans (hb3.mono hB2.size)
  go_wp2_with omega
  refine (T.out _ (HE.out.below hB3)).mono ?_
  rintro e W4 ⟨rfl, hb4⟩
  have hB4 := hB3.trans (hb4.mono hB3.size)
  go_wp2_with omega
  refine (A.out _ (HE.out.below hB4)).mono ?_
  rintro e W5 ⟨rfl, hb5⟩
  have hB5 := hB4.trans (hb5.mono hB4.size)
  go_wp2_with omega
  refine (B.out _ (HE.out.below hB5)).mono ?_
  rintro e W6 ⟨rfl, hb6⟩
  have hB6 := hB5.trans (hb6.mono hB5.size)
  go_wp2_with omega
  refine (P.out _ (HE.out.below hB6)).mono ?_
  rintro e W7 ⟨rfl, hb7⟩
  have hB7 := hB6.trans (hb7.mono hB6.size)
  go_wp2_with omega
  refine (FA.out _ (HE.out.below hB7)).mono ?_
  rintro e W8 ⟨rfl, hb8⟩
  have hB8 := hB7.trans (hb8.mono hB7.size)
  go_wp2_with omega
  refine (FB.out _ (HE.out.below hB8)).mono ?_
  rintro e W9 ⟨rfl, hb9⟩
  have hB9 := hB8.trans (hb9.mono hB8.size)
  go_wp2_with omega
  refine (FP.out _ (HE.out.below hB9)).mono ?_
  rintro e W10 ⟨rfl, hb10⟩
  have hB10 := hB9.trans (hb10.mono hB9.size)
  go_wp2_with omega
  refine (C.out _ (HE.out.below hB10)).mono ?_
  rintro e W11 ⟨rfl, hb11⟩
  have hB11 := hB10.trans (hb11.mono hB10.size)
  go_wp2_with omega
  refine (D.out _ (HE.out.below hB11)).mono ?_
  rintro e W12 ⟨rfl, hb12⟩
  have hB12 := hB11.trans (hb12.mono hB11.size)
  go_wp2_with omega
  refine (FQ.out _ (HE.out.below hB12)).mono ?_
  rintro e W13 ⟨rfl, hb13⟩
  have hB13 := hB12.trans (hb13.mono hB12.size)
  go_wp2_with omega
  refine (FR.out _ (HE.out.below hB13)).mono ?_
  rintro e W14 ⟨rfl, hb14⟩
  have hB14 := hB13.trans (hb14.mono hB13.size)
  go_wp2_with omega
  go_ret
  exact ⟨rfl, hB14⟩
set_option maxRecDepth 100000 in
set_option maxHeartbeats 4000000 in
theorem machine_ceq (x y : Int) (w : World) (l0 : -2147483648 ≤ x) (u0 : x ≤ 2147483647) (l1 : -2147483648 ≤ y) (u1 : y ≤ 2147483647) (he : EnvW w) (hd : y ≠ 0 ∧ (0 ≤ x ∨ y ∣ x)) (ho : x = y) :
    Calls Tryz.prog 12 #[.int .i32 x, .int .i32 y] w fun e w' => e = .returned (.bool true) ∧ Below w.heap.size w w' := by
  have HE := Lib.hid he
  have F0 := Lib.hid (fun V (_ : EnvW V) => sane_true V ‹EnvW V›)
  have hu := And.intro l1 u1
  clear hu
  have hbig : (9223372036854775808 : Nat) < N3.lim := by decide
  have lx : x.natAbs < N3.lim := by omega
  have ly : y.natAbs < N3.lim := by omega
  have hp : (x * y).natAbs ≤ 2147483648 * 2147483648 := by rw [Int.natAbs_mul]; exact Nat.mul_le_mul (by omega) (by omega)
  have p0 : -9223372036854775808 ≤ x * y := by omega
  have p1 : x * y ≤ 9223372036854775807 := by omega
  have la : (x + y).natAbs < N3.lim := by omega
  have ls : (x - y).natAbs < N3.lim := by omega
  have lp : (x * y).natAbs < N3.lim := by omega
  have FX := Lib.hid (fun V (hV : EnvW V) => fromInt_f x (by omega) (by omega) V hV)
  have FY := Lib.hid (fun V (hV : EnvW V) => fromInt_f y (by omega) (by omega) V hV)
  have T := Lib.hid (fun V (hV : EnvW V) => toInt_s (x := x) (by omega) (by omega) V hV)
  have A := Lib.hid (fun V (hV : EnvW V) => add_s lx ly la V hV)
  have B := Lib.hid (fun V (hV : EnvW V) => sub_s lx ly ls V hV)
  have P := Lib.hid (fun V (hV : EnvW V) => mul_s lx ly lp V hV)
  have FA := Lib.hid (fun V (hV : EnvW V) => fromInt_f (x + y) (by omega) (by omega) V hV)
  have FB := Lib.hid (fun V (hV : EnvW V) => fromInt_f (x - y) (by omega) (by omega) V hV)
  have FP := Lib.hid (fun V (hV : EnvW V) => fromInt_f (x * y) p0 p1 V hV)
  have o1 : ¬ x < y := by omega
  have o2 : ¬ y < x := by omega
  have ec : N3.cmpI x y = 0 := by unfold N3.cmpI; (repeat' split) <;> omega
  have C := Lib.hid (fun V (hV : EnvW V) => by have k := compare_s lx ly V; rw [ec] at k; exact k)
  have hy : y ≠ 0 := by omega
  have e1 := Int.tdiv_eq_ediv (a := x) (b := y)
  have e2 := Int.tmod_eq_emod (a := x) (b := y)
  rw [if_pos hd.2] at e1 e2
  have m0 := Int.emod_nonneg x hy
  have m1 := N3.mod_natAbs_lt (x := x) hy
  have m2 := N3.div_natAbs_le x y
  generalize hq : x.tdiv y = q0 at e1
  generalize hr : x.tmod y = r0 at e2
  have f1 : x / y = q0 := by omega
  have f2 : x % y = r0 := by omega
  rw [f1] at m2
  rw [f2] at m0 m1
  have D := Lib.hid (fun V (hV : EnvW V) => by have k := div_s lx ly hy V hV; rw [f1, f2] at k; exact k)
  have FQ := Lib.hid (fun V (hV : EnvW V) => fromInt_f (q0) (by omega) (by omega) V hV)
  have FR := Lib.hid (fun V (hV : EnvW V) => fromInt_f (r0) (by omega) (by omega) V hV)
  have c1 : ¬ r0 < 0 := by omega
  have z1 : -4294967296 ≤ q0 := by omega
  have z2 : q0 ≤ 4294967296 := by omega
  have z3 : -4294967296 ≤ r0 := by omega
  have z4 : r0 ≤ 4294967296 := by omega
  generalize N3.S (x + y) = sa at *
  generalize N3.S (x - y) = sb at *
  generalize N3.S (x * y) = sp at *
  generalize N3.S x = sx at *
  generalize N3.S y = sy at *
  generalize N3.S (q0) = sq at *
  generalize N3.S (r0) = sr at *
  clear he hbig lx ly hp la ls lp ec e1 e2 f1 f2 m0 m1 m2 hd
  clear ho
  go_enter Tryz.func12, Tryz.ntmps12
  go_wp2_with omega
  refine (F0.out _ HE.out).mono ?_
  rintro e W1 ⟨rfl, hb1⟩
  have hB1 := hb1
  go_wp2_with omega
  refine (FX.out _ (HE.out.below hB1)).mono ?_
  rintro e W2 ⟨rfl, hb2⟩
  have hB2 := hB1.trans (hb2.mono hB1.size)
  go_wp2_with omega
  refine (FY.out _ (HE.out.below hB2)).mono ?_
  rintro e W3 ⟨rfl, hb3⟩
  have hB3 := hB2.trans (hb3.mono hB2.size)
  go_wp2_with omega
  refine (T.out _ (HE.out.below hB3)).mono ?_
  rintro e W4 ⟨rfl, hb4⟩
  have hB4 := hB3.trans (hb4.mono hB3.size)
  go_wp2_with omega
  refine (A.out _ (HE.out.below hB4)).mono ?_
  rintro e W5 ⟨rfl, hb5⟩
  have hB5 := hB4.trans (hb5.mono hB4.size)
  go_wp2_with omega
  refine (B.out _ (HE.out.below hB5)).mono ?_
  rintro e W6 ⟨rfl, hb6⟩
  have hB6 := hB5.trans (hb6.mono hB5.size)
  go_wp2_with omega
  refine (P.out _ (HE.out.below hB6)).mono ?_
  rintro e W7 ⟨rfl, hb7⟩
  have hB7 := hB6.trans (hb7.mono hB6.size)
  go_wp2_with omega
  refine (FA.out _ (HE.out.below hB7)).mono ?_
  rintro e W8 ⟨rfl, hb8⟩
  have hB8 := hB7.trans (hb8.mono hB7.size)
  go_wp2_with omega
  refine (FB.out _ (HE.out.below hB8)).mono ?_
  rintro e W9 ⟨rfl, hb9⟩
  have hB9 := hB8.trans (hb9.mono hB8.size)
  go_wp2_with omega
  refine (FP.out _ (HE.out.below hB9)).mono ?_
  rintro e W10 ⟨rfl, hb10⟩
  have hB10 := hB9.trans (hb10.mono hB9.size)
  go_wp2_with omega
  refine (C.out _ (HE.out.below hB10)).mono ?_
  rintro e W11 ⟨rfl, hb11⟩
  have hB11 := hB10.trans (hb11.mono hB10.size)
  go_wp2_with omega
  refine (D.out _ (HE.out.below hB11)).mono ?_
  rintro e W12 ⟨rfl, hb12⟩
  have hB12 := hB11.trans (hb12.mono hB11.size)
  go_wp2_with omega
  refine (FQ.out _ (HE.out.below hB12)).mono ?_
  rintro e W13 ⟨rfl, hb13⟩
  have hB13 := hB12.trans (hb13.mono hB12.size)
  go_wp2_with omega
  refine (FR.out _ (HE.out.below hB13)).mono ?_
  rintro e W14 ⟨rfl, hb14⟩
  have hB14 := hB13.trans (hb14.mono hB13.size)
  go_wp2_with omega
  go_ret
  exact ⟨rfl, hB14⟩
set_option maxRecDepth 100000 in
set_option maxHeartbeats 4000000 in
theorem machine_cgt (x y : Int) (w : World) (l0 : -2147483648 ≤ x) (u0 : x ≤ 2147483647) (l1 : -2147483648 ≤ y) (u1 : y ≤ 2147483647) (he : EnvW w) (hd : y ≠ 0 ∧ (0 ≤ x ∨ y ∣ x)) (ho : y < x) :
    Calls Tryz.prog 12 #[.int .i32 x, .int .i32 y] w fun e w' => e = .returned (.bool true) ∧ Below w.heap.size w w' := by
  have HE := Lib.hid he
  have F0 := Lib.hid (fun V (_ : EnvW V) => sane_true V ‹EnvW V›)
  have hu := And.intro l1 u1
  clear hu
  have hbig : (9223372036854775808 : Nat) < N3.lim := by decide
  have lx : x.natAbs < N3.lim := by omega
  have ly : y.natAbs < N3.lim := by omega
  have hp : (x * y).natAbs ≤ 2147483648 * 2147483648 := by rw [Int.natAbs_mul]; exact Nat.mul_le_mul (by omega) (by omega)
  have p0 : -9223372036854775808 ≤ x * y := by omega
  have p1 : x * y ≤ 9223372036854775807 := by omega
  have la : (x + y).natAbs < N3.lim := by omega
  have ls : (x - y).natAbs < N3.lim := by omega
  have lp : (x * y).natAbs < N3.lim := by omega
  have FX := Lib.hid (fun V (hV : EnvW V) => fromInt_f x (by omega) (by omega) V hV)
  have FY := Lib.hid (fun V (hV : EnvW V) => fromInt_f y (by omega) (by omega) V hV)
  have T := Lib.hid (fun V (hV : EnvW V) => toInt_s (x := x) (by omega) (by omega) V hV)
  have A := Lib.hid (fun V (hV : EnvW V) => add_s lx ly la V hV)
  have B := Lib.hid (fun V (hV : EnvW V) => sub_s lx ly ls V hV)
  have P := Lib.hid (fun V (hV : EnvW V) => mul_s lx ly lp V hV)
  have FA := Lib.hid (fun V (hV : EnvW V) => fromInt_f (x + y) (by omega) (by omega) V hV)
  have FB := Lib.hid (fun V (hV : EnvW V) => fromInt_f (x - y) (by omega) (by omega) V hV)
  have FP := Lib.hid (fun V (hV : EnvW V) => fromInt_f (x * y) p0 p1 V hV)
  have ec : N3.cmpI x y = 1 := by unfold N3.cmpI; (repeat' split) <;> omega
  have C := Lib.hid (fun V (hV : EnvW V) => by have k := compare_s lx ly V; rw [ec] at k; exact k)
  have hy : y ≠ 0 := by omega
  have e1 := Int.tdiv_eq_ediv (a := x) (b := y)
  have e2 := Int.tmod_eq_emod (a := x) (b := y)
  rw [if_pos hd.2] at e1 e2
  have m0 := Int.emod_nonneg x hy
  have m1 := N3.mod_natAbs_lt (x := x) hy
  have m2 := N3.div_natAbs_le x y
  generalize hq : x.tdiv y = q0 at e1
  generalize hr : x.tmod y = r0 at e2
  have f1 : x / y = q0 := by omega
  have f2 : x % y = r0 := by omega
  rw [f1] at m2
  rw [f2] at m0 m1
  have D := Lib.hid (fun V (hV : EnvW V) => by have k := div_s lx ly hy V hV; rw [f1, f2] at k; exact k)
  have FQ := Lib.hid (fun V (hV : EnvW V) => fromInt_f (q0) (by omega) (by omega) V hV)
  have FR := Lib.hid (fun V (hV : EnvW V) => fromInt_f (r0) (by omega) (by omega) V hV)
  have c1 : ¬ r0 < 0 := by omega
  have z1 : -4294967296 ≤ q0 := by omega
  have z2 : q0 ≤ 4294967296 := by omega
  have z3 : -4294967296 ≤ r0 := by omega
  have z4 : r0 ≤ 4294967296 := by omega
  generalize N3.S (x + y) = sa at *
  generalize N3.S (x - y) = sb at *
  generalize N3.S (x * y) = sp at *
  generalize N3.S x = sx at *
  generalize N3.S y = sy at *
  generalize N3.S (q0) = sq at *
  generalize N3.S (r0) = sr at *
  clear he hbig lx ly hp la ls lp ec e1 e2 f1 f2 m0 m1 m2 hd
  go_enter Tryz.func12, Tryz.ntmps12
  go_wp2_with omega
  refine (F0.out _ HE.out).mono ?_
  rintro e W1 ⟨rfl, hb1⟩
  have hB1 := hb1
  go_wp2_with omega
  refine (FX.out _ (HE.out.below hB1)).mono ?_
  rintro e W2 ⟨rfl, hb2⟩
  have hB2 := hB1.trans (hb2.mono hB1.size)
  go_wp2_with omega
  refine (FY.out _ (HE.out.below hB2)).mono ?_
  rintro e W3 ⟨rfl, hb3⟩
  have hB3 := hB2.trans (hb3.mono hB2.size)
  go_wp2_with omega
  refine (T.out _ (HE.out.below hB3)).mono ?_
  rintro e W4 ⟨rfl, hb4⟩
  have hB4 := hB3.trans (hb4.mono hB3.size)
  go_wp2_with omega
  refine (A.out _ (HE.out.below hB4)).mono ?_
  rintro e W5 ⟨rfl, hb5⟩
  have hB5 := hB4.trans (hb5.mono hB4.size)
  go_wp2_with omega
  refine (B.out _ (HE.out.below hB5)).mono ?_
  rintro e W6 ⟨rfl, hb6⟩
  have hB6 := hB5.trans (hb6.mono hB5.size)
  go_wp2_with omega
  refine (P.out _ (HE.out.below hB6)).mono ?_
  rintro e W7 ⟨rfl, hb7⟩
  have hB7 := hB6.trans (hb7.mono hB6.size)
  go_wp2_with omega
  refine (FA.out _ (HE.out.below hB7)).mono ?_
  rintro e W8 ⟨rfl, hb8⟩
  have hB8 := hB7.trans (hb8.mono hB7.size)
  go_wp2_with omega
  refine (FB.out _ (HE.out.below hB8)).mono ?_
  rintro e W9 ⟨rfl, hb9⟩
  have hB9 := hB8.trans (hb9.mono hB8.size)
  go_wp2_with omega
  refine (FP.out _ (HE.out.below hB9)).mono ?_
  rintro e W10 ⟨rfl, hb10⟩
  have hB10 := hB9.trans (hb10.mono hB9.size)
  go_wp2_with omega
  refine (C.out _ (HE.out.below hB10)).mono ?_
  rintro e W11 ⟨rfl, hb11⟩
  have hB11 := hB10.trans (hb11.mono hB10.size)
  go_wp2_with omega
  refine (D.out _ (HE.out.below hB11)).mono ?_
  rintro e W12 ⟨rfl, hb12⟩
  have hB12 := hB11.trans (hb12.mono hB11.size)
  go_wp2_with omega
  refine (FQ.out _ (HE.out.below hB12)).mono ?_
  rintro e W13 ⟨rfl, hb13⟩
  have hB13 := hB12.trans (hb13.mono hB12.size)
  go_wp2_with omega
  refine (FR.out _ (HE.out.below hB13)).mono ?_
  rintro e W14 ⟨rfl, hb14⟩
  have hB14 := hB13.trans (hb14.mono hB13.size)
  go_wp2_with omega
  go_ret
  exact ⟨rfl, hB14⟩
set_option maxRecDepth 100000 in
set_option maxHeartbeats 4000000 in
theorem machine_plt (x y : Int) (w : World) (l0 : -2147483648 ≤ x) (u0 : x ≤ 2147483647) (l1 : -2147483648 ≤ y) (u1 : y ≤ 2147483647) (he : EnvW w) (hd : 0 < y ∧ ¬ (0 ≤ x ∨ y ∣ x)) (ho : x < y) :
    Calls Tryz.prog 12 #[.int .i32 x, .int .i32 y] w fun e w' => e = .returned (.bool true) ∧ Below w.heap.size w w' := by
  have HE := Lib.hid he
  have F0 := Lib.hid (fun V (_ : EnvW V) => sane_true V ‹EnvW V›)
  have hu := And.intro l1 u1
  clear hu
  have hbig : (9223372036854775808 : Nat) < N3.lim := by decide
  have lx : x.natAbs < N3.lim := by omega
  have ly : y.natAbs < N3.lim := by omega
  have hp : (x * y).natAbs ≤ 2147483648 * 2147483648 := by rw [Int.natAbs_mul]; exact Nat.mul_le_mul (by omega) (by omega)
  have p0 : -9223372036854775808 ≤ x * y := by omega
  have p1 : x * y ≤ 9223372036854775807 := by omega
  have la : (x + y).natAbs < N3.lim := by omega
  have ls : (x - y).natAbs < N3.lim := by omega
  have lp : (x * y).natAbs < N3.lim := by omega
  have FX := Lib.hid (fun V (hV : EnvW V) => fromInt_f x (by omega) (by omega) V hV)
  have FY := Lib.hid (fun V (hV : EnvW V) => fromInt_f y (by omega) (by omega) V hV)
  have T := Lib.hid (fun V (hV : EnvW V) => toInt_s (x := x) (by omega) (by omega) V hV)
  have A := Lib.hid (fun V (hV : EnvW V) => add_s lx ly la V hV)
  have B := Lib.hid (fun V (hV : EnvW V) => sub_s lx ly ls V hV)
  have P := Lib.hid (fun V (hV : EnvW V) => mul_s lx ly lp V hV)
  have FA := Lib.hid (fun V (hV : EnvW V) => fromInt_f (x + y) (by omega) (by omega) V hV)
  have FB := Lib.hid (fun V (hV : EnvW V) => fromInt_f (x - y) (by omega) (by omega) V hV)
  have FP := Lib.hid (fun V (hV : EnvW V) => fromInt_f (x * y) p0 p1 V hV)
  have ec : N3.cmpI x y = (-1) := by unfold N3.cmpI; (repeat' split) <;> omega
  have C := Lib.hid (fun V (hV : EnvW V) => by have k := compare_s lx ly V; rw [ec] at k; exact k)
  have hy : y ≠ 0 := by omega
  have e1 := Int.tdiv_eq_ediv (a := x) (b := y)
  have e2 := Int.tmod_eq_emod (a := x) (b := y)
  rw [if_neg hd.2] at e1 e2
  have m0 := Int.emod_nonneg x hy
  have m1 := N3.mod_natAbs_lt (x := x) hy
  have m2 := N3.div_natAbs_le x y
  rw [Int.sign_eq_one_of_pos hd.1] at e1
  generalize hq : x.tdiv y = q0 at e1
  generalize hr : x.tmod y = r0 at e2
  have f1 : x / y = q0 - 1 := by omega
  have f2 : x % y = r0 + y := by omega
  rw [f1] at m2
  rw [f2] at m0 m1
  have D := Lib.hid (fun V (hV : EnvW V) => by have k := div_s lx ly hy V hV; rw [f1, f2] at k; exact k)
  have FQ := Lib.hid (fun V (hV : EnvW V) => fromInt_f (q0 - 1) (by omega) (by omega) V hV)
  have FR := Lib.hid (fun V (hV : EnvW V) => fromInt_f (r0 + y) (by omega) (by omega) V hV)
  have c1 : r0 < 0 := by omega
  have c2 : 0 < y := hd.1
  have c3 : ¬ r0 + y < 0 := by omega
  have z1 : -4294967296 ≤ q0 := by omega
  have z2 : q0 ≤ 4294967296 := by omega
  have z3 : -4294967296 ≤ r0 := by omega
  have z4 : r0 ≤ 4294967296 := by omega
  generalize N3.S (x + y) = sa at *
  generalize N3.S (x - y) = sb at *
  generalize N3.S (x * y) = sp at *
  generalize N3.S x = sx at *
  generalize N3.S y = sy at *
  generalize N3.S (q0 - 1) = sq at *
  generalize N3.S (r0 + y) = sr at *
  clear he hbig lx ly hp la ls lp ec e1 e2 f1 f2 m0 m1 m2 hd
  go_enter Tryz.func12, Tryz.ntmps12
  go_wp2_with omega
  refine (F0.out _ HE.out).mono ?_
  rintro e W1 ⟨rfl, hb1⟩
  have hB1 := hb1
  go_wp2_with omega
  refine (FX.out _ (HE.out.below hB1)).mono ?_
  rintro e W2 ⟨rfl, hb2⟩
  have hB2 := hB1.trans (hb2.mono hB1.size)
  go_wp2_with omega
  refine (FY.out _ (HE.out.below hB2)).mono ?_
  rintro e W3 ⟨rfl, hb3⟩
  have hB3 := hB2.trans (hb3.mono hB2.size)
  go_wp2_with omega
  refine (T.out _ (HE.out.below hB3)).mono ?_
  rintro e W4 ⟨rfl, hb4⟩
  have hB4 := hB3.trans (hb4.mono hB3.size)
  go_wp2_with omega
  refine (A.out _ (HE.out.below hB4)).mono ?_
  rintro e W5 ⟨rfl, hb5⟩
  have hB5 := hB4.trans (hb5.mono hB4.size)
  go_wp2_with omega
  refine (B.out _ (HE.out.below hB5)).mono ?_
  rintro e W6 ⟨rfl, hb6⟩
  have hB6 := hB5.trans (hb6.mono hB5.size)
  go_wp2_with omega
  refine (P.out _ (HE.out.below hB6)).mono ?_
  rintro e W7 ⟨rfl, hb7⟩
  have hB7 := hB6.trans (hb7.mono hB6.size)
  go_wp2_with omega
  refine (FA.out _ (HE.out.below hB7)).mono ?_
  rintro e W8 ⟨rfl, hb8⟩
  have hB8 := hB7.trans (hb8.mono hB7.size)
  go_wp2_with omega
  refine (FB.out _ (HE.out.below hB8)).mono ?_
  rintro e W9 ⟨rfl, hb9⟩
  have hB9 := hB8.trans (hb9.mono hB8.size)
  go_wp2_with omega
  refine (FP.out _ (HE.out.below hB9)).mono ?_
  rintro e W10 ⟨rfl, hb10⟩
  have hB10 := hB9.trans (hb10.mono hB9.size)
  go_wp2_with omega
  refine (C.out _ (HE.out.below hB10)).mono ?_
  rintro e W11 ⟨rfl, hb11⟩
  have hB11 := hB10.trans (hb11.mono hB10.size)
  go_wp2_with omega
  refine (D.out _ (HE.out.below hB11)).mono ?_
  rintro e W12 ⟨rfl, hb12⟩
  have hB12 := hB11.trans (hb12.mono hB11.size)
  go_wp2_with omega
  refine (FQ.out _ (HE.out.below hB12)).mono ?_
  rintro e W13 ⟨rfl, hb13⟩
  have hB13 := hB12.trans (hb13.mono hB12.size)
  go_wp2_with omega
  refine (FR.out _ (HE.out.below hB13)).mono ?_
  rintro e W14 ⟨rfl, hb14⟩
  have hB14 := hB13.trans (hb14.mono hB13.size)
  go_wp2_with omega
  go_ret
  exact ⟨rfl, hB14⟩
set_option maxRecDepth 100000 in
set_option maxHeartbeats 4000000 in
theorem machine_nlt (x y : Int) (w : World) (l0 : -2147483648 ≤ x) (u0 : x ≤ 2147483647) (l1 : -2147483648 ≤ y) (u1 : y ≤ 2147483647) (he : EnvW w) (hd : y < 0 ∧ ¬ (0 ≤ x ∨ y ∣ x)) (ho : x < y) :
    Calls Tryz.prog 12 #[.int .i32 x, .int .i32 y] w fun e w' => e = .returned (.bool true) ∧ Below w.heap.size w w' := by
  have HE := Lib.hid he
  have F0 := Lib.hid (fun V (_ : EnvW V) => sane_true V ‹EnvW V›)
  have hu := And.intro l1 u1
  clear hu
  have hbig : (9223372036854775808 : Nat) < N3.lim := by decide
  have lx : x.natAbs < N3.lim := by omega
  have ly : y.natAbs < N3.lim := by omega
  have hp : (x * y).natAbs ≤ 2147483648 * 2147483648 := by rw [Int.natAbs_mul]; exact Nat.mul_le_mul (by omega) (by omega)
  have p0 : -9223372036854775808 ≤ x * y := by omega
  have p1 : x * y ≤ 9223372036854775807 := by omega
  have la : (x + y).natAbs < N3.lim := by omega
  have ls : (x - y).natAbs < N3.lim := by omega
  have lp : (x * y).natAbs < N3.lim := by omega
  have FX := Lib.hid (fun V (hV : EnvW V) => fromInt_f x (by omega) (by omega) V hV)
  have FY := Lib.hid (fun V (hV : EnvW V) => fromInt_f y (by omega) (by omega) V hV)
  have T := Lib.hid (fun V (hV : EnvW V) => toInt_s (x := x) (by omega) (by omega) V hV)
  have A := Lib.hid (fun V (hV : EnvW V) => add_s lx ly la V hV)
  have B := Lib.hid (fun V (hV : EnvW V) => sub_s lx ly ls V hV)
  have P := Lib.hid (fun V (hV : EnvW V) => mul_s lx ly lp V hV)
  have FA := Lib.hid (fun V (hV : EnvW V) => fromInt_f (x + y) (by omega) (by omega) V hV)
  have FB := Lib.hid (fun V (hV : EnvW V) => fromInt_f (x - y) (by omega) (by omega) V hV)
  have FP := Lib.hid (fun V (hV : EnvW V) => fromInt_f (x * y) p0 p1 V hV)
  have ec : N3.cmpI x y = (-1) := by unfold N3.cmpI; (repeat' split) <;> omega
  have C := Lib.hid (fun V (hV : EnvW V) => by have k := compare_s lx ly V; rw [ec] at k; exact k)
  have hy : y ≠ 0 := by omega
  have e1 := Int.tdiv_eq_ediv (a := x) (b := y)
  have e2 := Int.tmod_eq_emod (a := x) (b := y)
  rw [if_neg hd.2] at e1 e2
  have m0 := Int.emod_nonneg x hy
  have m1 := N3.mod_natAbs_lt (x := x) hy
  have m2 := N3.div_natAbs_le x y
  rw [Int.sign_eq_neg_one_of_neg hd.1] at e1
  generalize hq : x.tdiv y = q0 at e1
  generalize hr : x.tmod y = r0 at e2
  have f1 : x / y = q0 + 1 := by omega
  have f2 : x % y = r0 - y := by omega
  rw [f1] at m2
  rw [f2] at m0 m1
  have D := Lib.hid (fun V (hV : EnvW V) => by have k := div_s lx ly hy V hV; rw [f1, f2] at k; exact k)
  have FQ := Lib.hid (fun V (hV : EnvW V) => fromInt_f (q0 + 1) (by omega) (by omega) V hV)
  have FR := Lib.hid (fun V (hV : EnvW V) => fromInt_f (r0 - y) (by omega) (by omega) V hV)
  have c1 : r0 < 0 := by omega
  have c2 : ¬ 0 < y := by omega
  have z1 : -4294967296 ≤ q0 := by omega
  have z2 : q0 ≤ 4294967296 := by omega
  have z3 : -4294967296 ≤ r0 := by omega
  have z4 : r0 ≤ 4294967296 := by omega
  generalize N3.S (x + y) = sa at *
  generalize N3.S (x - y) = sb at *
  generalize N3.S (x * y) = sp at *
  generalize N3.S x = sx at *
  generalize N3.S y = sy at *
  generalize N3.S (q0 + 1) = sq at *
  generalize N3.S (r0 - y) = sr at *
  clear he hbig lx ly hp la ls lp ec e1 e2 f1 f2 m0 m1 m2 hd
  go_enter Tryz.func12, Tryz.ntmps12
  go_wp2_with omega
  refine (F0.out _ HE.out).mono ?_
  rintro e W1 ⟨rfl, hb1⟩
  have hB1 := hb1
  go_wp2_with omega
  refine (FX.out _ (HE.out.below hB1)).mono ?_
  rintro e W2 ⟨rfl, hb2⟩
  have hB2 := hB1.trans (hb2.mono hB1.size)
  go_wp2_with omega
  refine (FY.out _ (HE.out.below hB2)).mono ?_
  rintro e W3 ⟨rfl, hb3⟩
  have hB3 := hB2.trans (hb3.mono hB2.size)
  go_wp2_with omega
  refine (T.out _ (HE.out.below hB3)).mono ?_
  rintro e W4 ⟨rfl, hb4⟩
  have hB4 := hB3.trans (hb4.mono hB3.size)
  go_wp2_with omega
  refine (A.out _ (HE.out.below hB4)).mono ?_
  rintro e W5 ⟨rfl, hb5⟩
  have hB5 := hB4.trans (hb5.mono hB4.size)
  go_wp2_with omega
  refine (B.out _ (HE.out.below hB5)).mono ?_
  rintro e W6 ⟨rfl, hb6⟩
  have hB6 := hB5.trans (hb6.mono hB5.size)
  go_wp2_with omega
  refine (P.out _ (HE.out.below hB6)).mono ?_
  rintro e W7 ⟨rfl, hb7⟩
  have hB7 := hB6.trans (hb7.mono hB6.size)
  go_wp2_with omega
  refine (FA.out _ (HE.out.below hB7)).mono ?_
  rintro e W8 ⟨rfl, hb8⟩
  have hB8 := hB7.trans (hb8.mono hB7.size)
  go_wp2_with omega
  refine (FB.out _ (HE.out.below hB8)).mono ?_
  rintro e W9 ⟨rfl, hb9⟩
  have hB9 := hB8.trans (hb9.mono hB8.size)
  go_wp2_with omega
  refine (FP.out _ (HE.out.below hB9)).mono ?_
  rintro e W10 ⟨rfl, hb10⟩
  have hB10 := hB9.trans (hb10.mono hB9.size)
  go_wp2_with omega
  refine (C.out _ (HE.out.below hB10)).mono ?_
  rintro e W11 ⟨rfl, hb11⟩
  have hB11 := hB10.trans (hb11.mono hB10.size)
  go_wp2_with omega
  refine (D.out _ (HE.out.below hB11)).mono ?_
  rintro e W12 ⟨rfl, hb12⟩
  have hB12 := hB11.trans (hb12.mono hB11.size)
  go_wp2_with omega
  refine (FQ.out _ (HE.out.below hB12)).mono ?_
  rintro e W13 ⟨rfl, hb13⟩
  have hB13 := hB12.trans (hb13.mono hB12.size)
  go_wp2_with omega
  refine (FR.out _ (HE.out.below hB13)).mono ?_
  rintro e W14 ⟨rfl, hb14⟩
  have hB14 := hB13.trans (hb14.mono hB13.size)
  go_wp2_with omega
  go_ret
  exact ⟨rfl, hB14⟩
set_option maxRecDepth 100000 in
set_option maxHeartbeats 4000000 in
theorem machine_ngt (x y : Int) (w : World) (l0 : -2147483648 ≤ x) (u0 : x ≤ 2147483647) (l1 : -2147483648 ≤ y) (u1 : y ≤ 2147483647) (he : EnvW w) (hd : y < 0 ∧ ¬ (0 ≤ x ∨ y ∣ x)) (ho : y < x) :
    Calls Tryz.prog 12 #[.int .i32 x, .int .i32 y] w fun e w' => e = .returned (.bool true) ∧ Below w.heap.size w w' := by
  have HE := Lib.hid he
  have F0 := Lib.hid (fun V (_ : EnvW V) => sane_true V ‹EnvW V›)
  have hu := And.intro l1 u1
  clear hu
  have hbig : (9223372036854775808 : Nat) < N3.lim := by decide
  have lx : x.natAbs < N3.lim := by omega
  have ly : y.natAbs < N3.lim := by omega
  have hp : (x * y).natAbs ≤ 2147483648 * 2147483648 := by rw [Int.natAbs_mul]; exact Nat.mul_le_mul (by omega) (by omega)
  have p0 : -9223372036854775808 ≤ x * y := by omega
  have p1 : x * y ≤ 9223372036854775807 := by omega
  have la : (x + y).natAbs < N3.lim := by omega
  have ls : (x - y).natAbs < N3.lim := by omega
  have lp : (x * y).natAbs < N3.lim := by omega
  have FX := Lib.hid (fun V (hV : EnvW V) => fromInt_f x (by omega) (by omega) V hV)
  have FY := Lib.hid (fun V (hV : EnvW V) => fromInt_f y (by omega) (by omega) V hV)
  have T := Lib.hid (fun V (hV : EnvW V) => toInt_s (x := x) (by omega) (by omega) V hV)
  have A := Lib.hid (fun V (hV : EnvW V) => add_s lx ly la V hV)
  have B := Lib.hid (fun V (hV : EnvW V) => sub_s lx ly ls V hV)
  have P := Lib.hid (fun V (hV : EnvW V) => mul_s lx ly lp V hV)
  have FA := Lib.hid (fun V (hV : EnvW V) => fromInt_f (x + y) (by omega) (by omega) V hV)
  have FB := Lib.hid (fun V (hV : EnvW V) => fromInt_f (x - y) (by omega) (by omega) V hV)
  have FP := Lib.hid (fun V (hV : EnvW V) => fromInt_f (x * y) p0 p1 V hV)
  have ec : N3.cmpI x y = 1 := by unfold N3.cmpI; (repeat' split) <;> omega
  have C := Lib.hid (fun V (hV : EnvW V) => by have k := compare_s lx ly V; rw [ec] at k; exact k)
  have hy : y ≠ 0 := by omega
  have e1 := Int.tdiv_eq_ediv (a := x) (b := y)
  have e2 := Int.tmod_eq_emod (a := x) (b := y)
  rw [if_neg hd.2] at e1 e2
  have m0 := Int.emod_nonneg x hy
  have m1 := N3.mod_natAbs_lt (x := x) hy
  have m2 := N3.div_natAbs_le x y
  rw [Int.sign_eq_neg_one_of_neg hd.1] at e1
  generalize hq : x.tdiv y = q0 at e1
  generalize hr : x.tmod y = r0 at e2
  have f1 : x / y = q0 + 1 := by omega
  have f2 : x % y = r0 - y := by omega
  rw [f1] at m2
  rw [f2] at m0 m1
  have D := Lib.hid (fun V (hV : EnvW V) => by have k := div_s lx ly hy V hV; rw [f1, f2] at k; exact k)
  have FQ := Lib.hid (fun V (hV : EnvW V) => fromInt_f (q0 + 1) (by omega) (by omega) V hV)
  have FR := Lib.hid (fun V (hV : EnvW V) => fromInt_f (r0 - y) (by omega) (by omega) V hV)
  have c1 : r0 < 0 := by omega
  have c2 : ¬ 0 < y := by omega
  have z1 : -4294967296 ≤ q0 := by omega
  have z2 : q0 ≤ 4294967296 := by omega
  have z3 : -4294967296 ≤ r0 := by omega
  have z4 : r0 ≤ 4294967296 := by omega
  generalize N3.S (x + y) = sa at *
  generalize N3.S (x - y) = sb at *
  generalize N3.S (x * y) = sp at *
  generalize N3.S x = sx at *
  generalize N3.S y = sy at *
  generalize N3.S (q0 + 1) = sq at *
  generalize N3.S (r0 - y) = sr at *
  clear he hbig lx ly hp la ls lp ec e1 e2 f1 f2 m0 m1 m2 hd
  go_enter Tryz.func12, Tryz.ntmps12
  go_wp2_with omega
  refine (F0.out _ HE.out).mono ?_
  rintro e W1 ⟨rfl, hb1⟩
  have hB1 := hb1
  go_wp2_with omega
  refine (FX.out _ (HE.out.below hB1)).mono ?_
  rintro e W2 ⟨rfl, hb2⟩
  have hB2 := hB1.trans (hb2.mono hB1.size)
  go_wp2_with omega
  refine (FY.out _ (HE.out.below hB2)).mono ?_
  rintro e W3 ⟨rfl, hb3⟩
  have hB3 := hB2.trans (hb3.mono hB2.size)
  go_wp2_with omega
  refine (T.out _ (HE.out.below hB3)).mono ?_
  rintro e W4 ⟨rfl, hb4⟩
  have hB4 := hB3.trans (hb4.mono hB3.size)
  go_wp2_with omega
  refine (A.out _ (HE.out.below hB4)).mono ?_
  rintro e W5 ⟨rfl, hb5⟩
  have hB5 := hB4.trans (hb5.mono hB4.size)
  go_wp2_with omega
  refine (B.out _ (HE.out.below hB5)).mono ?_
  rintro e W6 ⟨rfl, hb6⟩
  have hB6 := hB5.trans (hb6.mono hB5.size)
  go_wp2_with omega
  refine (P.out _ (HE.out.below hB6)).mono ?_
  rintro e W7 ⟨rfl, hb7⟩
  have hB7 := hB6.trans (hb7.mono hB6.size)
  go_wp2_with omega
  refine (FA.out _ (HE.out.below hB7)).mono ?_
  rintro e W8 ⟨rfl, hb8⟩
  have hB8 := hB7.trans (hb8.mono hB7.size)
  go_wp2_with omega
  refine (FB.out _ (HE.out.below hB8)).mono ?_
  rintro e W9 ⟨rfl, hb9⟩
  have hB9 := hB8.trans (hb9.mono hB8.size)
  go_wp2_with omega
  refine (FP.out _ (HE.out.below hB9)).mono ?_
  rintro e W10 ⟨rfl, hb10⟩
  have hB10 := hB9.trans (hb10.mono hB9.size)
  go_wp2_with omega
  refine (C.out _ (HE.out.below hB10)).mono ?_
  rintro e W11 ⟨rfl, hb11⟩
  have hB11 := hB10.trans (hb11.mono hB10.size)
  go_wp2_with omega
  refine (D.out _ (HE.out.below hB11)).mono ?_
  rintro e W12 ⟨rfl, hb12⟩
  have hB12 := hB11.trans (hb12.mono hB11.size)
  go_wp2_with omega
  refine (FQ.out _ (HE.out.below hB12)).mono ?_
  rintro e W13 ⟨rfl, hb13⟩
  have hB13 := hB12.trans (hb13.mono hB12.size)
  go_wp2_with omega
  refine (FR.out _ (HE.out.below hB13)).mono ?_
  rintro e W14 ⟨rfl, hb14⟩
  have hB14 := hB13.trans (hb14.mono hB13.size)
  go_wp2_with omega
  go_ret
  exact ⟨rfl, hB14⟩
theorem law_machine (x y : Int) (w : World) (l0 : -2147483648 ≤ x) (u0 : x ≤ 2147483647) (l1 : -2147483648 ≤ y) (u1 : y ≤ 2147483647) (he : EnvW w) :
    Calls Tryz.prog 12 #[.int .i32 x, .int .i32 y] w fun e w' => e = .returned (.bool true) ∧ Below w.heap.size w w' := by
  by_cases hy : y = 0
  · rcases Int.lt_trichotomy x y with h | h | h
    · exact machine_zlt x y w l0 u0 l1 u1 he hy h
    · exact machine_zeq x y w l0 u0 l1 u1 he hy h
    · exact machine_zgt x y w l0 u0 l1 u1 he hy h
  · by_cases hc : 0 ≤ x ∨ y ∣ x
    · rcases Int.lt_trichotomy x y with h | h | h
      · exact machine_clt x y w l0 u0 l1 u1 he ⟨hy, hc⟩ h
      · exact machine_ceq x y w l0 u0 l1 u1 he ⟨hy, hc⟩ h
      · exact machine_cgt x y w l0 u0 l1 u1 he ⟨hy, hc⟩ h
    · rcases Int.lt_or_le 0 y with hp | hn
      · exact machine_plt x y w l0 u0 l1 u1 he ⟨hp, hc⟩ (by omega)
      · rcases Int.lt_trichotomy x y with h | h | h
        · exact machine_nlt x y w l0 u0 l1 u1 he ⟨by omega, hc⟩ h
        · exact absurd (.inr (h ▸ Int.dvd_refl _)) hc
        · exact machine_ngt x y w l0 u0 l1 u1 he ⟨by omega, hc⟩ h
end Go.Proofs.YtjnpenljgfdaiaaGreatDoor

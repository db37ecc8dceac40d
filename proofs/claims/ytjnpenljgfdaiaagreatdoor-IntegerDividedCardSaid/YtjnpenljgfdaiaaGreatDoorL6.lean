/- nadirlaw03: IntegerDivided. -/
import Derived.Test.YtjnpenljgfdaiaaGreatDoorLK
namespace Go.Proofs.YtjnpenljgfdaiaaGreatDoor
open Go.RowKit Go.Shelf Lib

theorem S_ne6 {x y : Int} (h : x ≠ y) : ((N3.S x).toList == (N3.S y).toList) = false := beq_eq_false_iff_ne.2 fun k => h (N3.S_inj (Go.WideShapes.bytes_inj (by rw [← ByteArray.toList_eq, ← ByteArray.toList_eq, k])))
theorem S_nz6 {x : Int} (h : x ≠ 0) : ((N3.S x).toList == [48]) = false := by have k := S_ne6 h; rw [S_zero, ByteArray.toList_eq ⟨#[48]⟩] at k; exact k
set_option maxRecDepth 100000 in
set_option maxHeartbeats 4000000 in
theorem divided_zero (a b : ByteArray) (x y : Int) (w : World) (he : EnvW w) (bx : x.natAbs < 10 ^ 90) (by' : y.natAbs < 10 ^ 60) (h : y = 0)
    (Mx : ∀ V, EnvW V → Calls Tryz.prog 33 #[.string a, .int .i64 90] V fun e w' => e = .returned (.string (N3.S x)) ∧ Below V.heap.size V w')
    (My : ∀ V, EnvW V → Calls Tryz.prog 33 #[.string b, .int .i64 60] V fun e w' => e = .returned (.string (N3.S y)) ∧ Below V.heap.size V w') :
    Calls Tryz.prog 6 #[.string a, .string b] w fun e w' => e = .returned (.bool true) ∧ Below w.heap.size w w' := by
  have HE := Lib.hid he
  have F0 := Lib.hid (fun V (_ : EnvW V) => sane_true V ‹EnvW V›)
  have M1 := Lib.hid Mx
  have M2 := Lib.hid My
  have lx := N3.lim_of bx (by decide)
  have ly := N3.lim_of by' (by decide)
  subst h
  clear M2
  have M2 := Lib.hid (fun V (hV : EnvW V) => by have k := My V hV; rw [S_zero] at k; exact k)
  have D := Lib.hid (fun V (hV : EnvW V) => by have k := div_zero lx ly rfl V hV; rw [S_zero] at k; exact k)
  generalize N3.S x = sx at *
  clear he bx by' lx ly Mx My
  go_enter Tryz.func6, Tryz.ntmps6
  go_wp2_with fail
  refine (F0.out _ HE.out).mono ?_
  rintro e W1 ⟨rfl, hb1⟩
  have hB1 := hb1
  go_wp2_with fail
  refine (M1.out _ (HE.out.below hB1)).mono ?_
  rintro e W2 ⟨rfl, hb2⟩
  have hB2 := hB1.trans (hb2.mono hB1.size)
  go_wp2_with fail
  refine (M2.out _ (HE.out.below hB2)).mono ?_
  rintro e W3 ⟨rfl, hb3⟩
  have hB3 := hB2.trans (hb3.mono hB2.size)
  go_wp2_with fail
  refine (D.out _ (HE.out.below hB3)).mono ?_
  rintro e W4 ⟨rfl, hb4⟩
  have hB4 := hB3.trans (hb4.mono hB3.size)
  go_wp2_with fail
  go_ret
  exact ⟨rfl, hB4⟩
set_option maxRecDepth 100000 in
set_option maxHeartbeats 4000000 in
theorem divided_pos (a b : ByteArray) (x y : Int) (w : World) (he : EnvW w) (bx : x.natAbs < 10 ^ 90) (by' : y.natAbs < 10 ^ 60) (h : 0 < y)
    (Mx : ∀ V, EnvW V → Calls Tryz.prog 33 #[.string a, .int .i64 90] V fun e w' => e = .returned (.string (N3.S x)) ∧ Below V.heap.size V w')
    (My : ∀ V, EnvW V → Calls Tryz.prog 33 #[.string b, .int .i64 60] V fun e w' => e = .returned (.string (N3.S y)) ∧ Below V.heap.size V w') :
    Calls Tryz.prog 6 #[.string a, .string b] w fun e w' => e = .returned (.bool true) ∧ Below w.heap.size w w' := by
  have HE := Lib.hid he
  have F0 := Lib.hid (fun V (_ : EnvW V) => sane_true V ‹EnvW V›)
  have M1 := Lib.hid Mx
  have M2 := Lib.hid My
  have lx := N3.lim_of bx (by decide)
  have ly := N3.lim_of by' (by decide)
  have hy : y ≠ 0 := by omega
  have e0 := Int.mul_ediv_add_emod x y
  have hr0 := Int.emod_nonneg x hy
  have hr1 := N3.mod_natAbs_lt (x := x) hy
  have e1 : x / y * y = x - x % y := by rw [Int.mul_comm]; omega
  have e2 : 10 ^ 91 = 10 ^ 90 * 10 := by decide
  have e3 : 10 ^ 60 < 10 ^ 90 := by decide
  have bp : (x / y * y).natAbs < 10 ^ 91 := by rw [e1]; omega
  have lp := N3.lim_of bp (by decide)
  have lr : (x % y).natAbs < N3.lim := Nat.lt_trans hr1 ly
  have lq : (x / y).natAbs < N3.lim := Nat.lt_of_le_of_lt (N3.div_natAbs_le _ _) lx
  have mxy := N3.natAbs_lt (k := 150) bx by' (by decide)
  have lm := N3.lim_of mxy (by decide)
  have e4 : x / y * y + x % y = x := by omega
  have e5 : x * y / y = x := Int.mul_ediv_cancel _ hy
  have e6 : x * y % y = 0 := Int.mul_emod_left _ _
  have hs := S_nz6 hy
  have hv := valid_s lr
  have D := Lib.hid (fun V (hV : EnvW V) => div_s lx ly hy V hV)
  have P := Lib.hid (fun V (hV : EnvW V) => mul_s lq ly lp V hV)
  have A := Lib.hid (fun V (hV : EnvW V) => by have h := add_s lp lr (by rw [e4]; exact lx) V hV; rw [e4] at h; exact h)
  have U := Lib.hid (fun V (hV : EnvW V) => by have h := mul_s ly lim1 (by rw [Int.mul_one]; exact ly) V hV; rw [Int.mul_one, S_one] at h; exact h)
  have ec : N3.cmpI y 0 = 1 := by unfold N3.cmpI; (repeat' split) <;> omega
  have C0 := Lib.hid (fun V (hV : EnvW V) => by have h := compare_s ly lim0 V; rw [ec, S_zero] at h; exact h)
  have M := Lib.hid (fun V (hV : EnvW V) => mul_s lx ly lm V hV)
  have B := Lib.hid (fun V (hV : EnvW V) => by have h := div_s lm ly hy V hV; rw [e5, e6, S_zero] at h; exact h)
  have k0 : 0 ≤ N3.cmpI (x % y) 0 := by unfold N3.cmpI; (repeat' split) <;> omega
  have k1 : N3.cmpI (x % y) y = -1 := by unfold N3.cmpI; (repeat' split) <;> omega
  have C1 := Lib.hid (fun V (hV : EnvW V) => by have h := compare_s lr lim0 V; rw [S_zero] at h; exact h)
  have C2 := Lib.hid (fun V (hV : EnvW V) => by have h := compare_s lr ly V; rw [k1] at h; exact h)
  have V1 := Lib.hid (fun V (hV : EnvW V) => hv V)
  generalize N3.S x = sx at *
  generalize N3.S y = sy at *
  generalize N3.S (x / y) = sq at *
  generalize N3.S (x % y) = sr at *
  generalize N3.S (x / y * y) = sp at *
  generalize N3.S (x * y) = sm at *
  generalize N3.cmpI (x % y) 0 = c0 at *
  clear hv he bx by' h lx ly hy e0 hr0 hr1 e1 e2 e3 bp lp lr lq mxy lm e4 e5 e6 ec k1 Mx My
  go_enter Tryz.func6, Tryz.ntmps6
  go_wp2_with fail
  refine (F0.out _ HE.out).mono ?_
  rintro e W1 ⟨rfl, hb1⟩
  have hB1 := hb1
  go_wp2_with fail
  refine (M1.out _ (HE.out.below hB1)).mono ?_
  rintro e W2 ⟨rfl, hb2⟩
  have hB2 := hB1.trans (hb2.mono hB1.size)
  go_wp2_with fail
  refine (M2.out _ (HE.out.below hB2)).mono ?_
  rintro e W3 ⟨rfl, hb3⟩
  have hB3 := hB2.trans (hb3.mono hB2.size)
  go_wp2_with fail
  refine (D.out _ (HE.out.below hB3)).mono ?_
  rintro e W4 ⟨rfl, hb4⟩
  have hB4 := hB3.trans (hb4.mono hB3.size)
  go_wp2_with fail
  refine (P.out _ (HE.out.below hB4)).mono ?_
  rintro e W5 ⟨rfl, hb5⟩
  have hB5 := hB4.trans (hb5.mono hB4.size)
  go_wp2_with fail
  refine (A.out _ (HE.out.below hB5)).mono ?_
  rintro e W6 ⟨rfl, hb6⟩
  have hB6 := hB5.trans (hb6.mono hB5.size)
  go_wp2_with fail
  refine (U.out _ (HE.out.below hB6)).mono ?_
  rintro e W7 ⟨rfl, hb7⟩
  have hB7 := hB6.trans (hb7.mono hB6.size)
  go_wp2_with fail
  refine (C0.out _ (HE.out.below hB7)).mono ?_
  rintro e W8 ⟨rfl, hb8⟩
  have hB8 := hB7.trans (hb8.mono hB7.size)
  go_wp2_with fail
  refine (M.out _ (HE.out.below hB8)).mono ?_
  rintro e W9 ⟨rfl, hb9⟩
  have hB9 := hB8.trans (hb9.mono hB8.size)
  go_wp2_with fail
  refine (B.out _ (HE.out.below hB9)).mono ?_
  rintro e W10 ⟨rfl, hb10⟩
  have hB10 := hB9.trans (hb10.mono hB9.size)
  go_wp2_with fail
  refine (C1.out _ (HE.out.below hB10)).mono ?_
  rintro e W11 ⟨rfl, hb11⟩
  have hB11 := hB10.trans (hb11.mono hB10.size)
  go_wp2_with fail
  refine (C2.out _ (HE.out.below hB11)).mono ?_
  rintro e W12 ⟨rfl, hb12⟩
  have hB12 := hB11.trans (hb12.mono hB11.size)
  go_wp2_with fail
  refine (V1.out _ (HE.out.below hB12)).mono ?_
  rintro e W13 ⟨rfl, hb13⟩
  have hB13 := hB12.trans (hb13.mono hB12.size)
  go_wp2_with fail
  go_ret
  exact ⟨rfl, hB13⟩
set_option maxRecDepth 100000 in
set_option maxHeartbeats 4000000 in
theorem divided_neg (a b : ByteArray) (x y : Int) (w : World) (he : EnvW w) (bx : x.natAbs < 10 ^ 90) (by' : y.natAbs < 10 ^ 60) (h : y < 0)
    (Mx : ∀ V, EnvW V → Calls Tryz.prog 33 #[.string a, .int .i64 90] V fun e w' => e = .returned (.string (N3.S x)) ∧ Below V.heap.size V w')
    (My : ∀ V, EnvW V → Calls Tryz.prog 33 #[.string b, .int .i64 60] V fun e w' => e = .returned (.string (N3.S y)) ∧ Below V.heap.size V w') :
    Calls Tryz.prog 6 #[.string a, .string b] w fun e w' => e = .returned (.bool true) ∧ Below w.heap.size w w' := by
  have HE := Lib.hid he
  have F0 := Lib.hid (fun V (_ : EnvW V) => sane_true V ‹EnvW V›)
  have M1 := Lib.hid Mx
  have M2 := Lib.hid My
  have lx := N3.lim_of bx (by decide)
  have ly := N3.lim_of by' (by decide)
  have hy : y ≠ 0 := by omega
  have e0 := Int.mul_ediv_add_emod x y
  have hr0 := Int.emod_nonneg x hy
  have hr1 := N3.mod_natAbs_lt (x := x) hy
  have e1 : x / y * y = x - x % y := by rw [Int.mul_comm]; omega
  have e2 : 10 ^ 91 = 10 ^ 90 * 10 := by decide
  have e3 : 10 ^ 60 < 10 ^ 90 := by decide
  have bp : (x / y * y).natAbs < 10 ^ 91 := by rw [e1]; omega
  have lp := N3.lim_of bp (by decide)
  have lr : (x % y).natAbs < N3.lim := Nat.lt_trans hr1 ly
  have lq : (x / y).natAbs < N3.lim := Nat.lt_of_le_of_lt (N3.div_natAbs_le _ _) lx
  have mxy := N3.natAbs_lt (k := 150) bx by' (by decide)
  have lm := N3.lim_of mxy (by decide)
  have e4 : x / y * y + x % y = x := by omega
  have e5 : x * y / y = x := Int.mul_ediv_cancel _ hy
  have e6 : x * y % y = 0 := Int.mul_emod_left _ _
  have hs := S_nz6 hy
  have hv := valid_s lr
  have D := Lib.hid (fun V (hV : EnvW V) => div_s lx ly hy V hV)
  have P := Lib.hid (fun V (hV : EnvW V) => mul_s lq ly lp V hV)
  have A := Lib.hid (fun V (hV : EnvW V) => by have h := add_s lp lr (by rw [e4]; exact lx) V hV; rw [e4] at h; exact h)
  have U := Lib.hid (fun V (hV : EnvW V) => by have h := mul_s ly lim1 (by rw [Int.mul_one]; exact ly) V hV; rw [Int.mul_one, S_one] at h; exact h)
  have ec : N3.cmpI y 0 = (-1) := by unfold N3.cmpI; (repeat' split) <;> omega
  have C0 := Lib.hid (fun V (hV : EnvW V) => by have h := compare_s ly lim0 V; rw [ec, S_zero] at h; exact h)
  have Z := Lib.hid (fun V (hV : EnvW V) => by have h := sub_s lim0 ly (by omega) V hV; rw [S_zero] at h; exact h)
  have lz : (0 - y).natAbs < N3.lim := by omega
  have M := Lib.hid (fun V (hV : EnvW V) => mul_s lx ly lm V hV)
  have B := Lib.hid (fun V (hV : EnvW V) => by have h := div_s lm ly hy V hV; rw [e5, e6, S_zero] at h; exact h)
  have k0 : 0 ≤ N3.cmpI (x % y) 0 := by unfold N3.cmpI; (repeat' split) <;> omega
  have k1 : N3.cmpI (x % y) (0 - y) = -1 := by unfold N3.cmpI; (repeat' split) <;> omega
  have C1 := Lib.hid (fun V (hV : EnvW V) => by have h := compare_s lr lim0 V; rw [S_zero] at h; exact h)
  have C2 := Lib.hid (fun V (hV : EnvW V) => by have h := compare_s lr lz V; rw [k1] at h; exact h)
  have V1 := Lib.hid (fun V (hV : EnvW V) => hv V)
  generalize N3.S x = sx at *
  generalize N3.S y = sy at *
  generalize N3.S (x / y) = sq at *
  generalize N3.S (x % y) = sr at *
  generalize N3.S (x / y * y) = sp at *
  generalize N3.S (x * y) = sm at *
  generalize N3.S (0 - y) = sz at *
  generalize N3.cmpI (x % y) 0 = c0 at *
  clear hv he bx by' h lx ly hy e0 hr0 hr1 e1 e2 e3 bp lp lr lq mxy lm e4 e5 e6 ec k1 Mx My lz
  go_enter Tryz.func6, Tryz.ntmps6
  go_wp2_with fail
  refine (F0.out _ HE.out).mono ?_
  rintro e W1 ⟨rfl, hb1⟩
  have hB1 := hb1
  go_wp2_with fail
  refine (M1.out _ (HE.out.below hB1)).mono ?_
  rintro e W2 ⟨rfl, hb2⟩
  have hB2 := hB1.trans (hb2.mono hB1.size)
  go_wp2_with fail
  refine (M2.out _ (HE.out.below hB2)).mono ?_
  rintro e W3 ⟨rfl, hb3⟩
  have hB3 := hB2.trans (hb3.mono hB2.size)
  go_wp2_with fail
  refine (D.out _ (HE.out.below hB3)).mono ?_
  rintro e W4 ⟨rfl, hb4⟩
  have hB4 := hB3.trans (hb4.mono hB3.size)
  go_wp2_with fail
  refine (P.out _ (HE.out.below hB4)).mono ?_
  rintro e W5 ⟨rfl, hb5⟩
  have hB5 := hB4.trans (hb5.mono hB4.size)
  go_wp2_with fail
  refine (A.out _ (HE.out.below hB5)).mono ?_
  rintro e W6 ⟨rfl, hb6⟩
  have hB6 := hB5.trans (hb6.mono hB5.size)
  go_wp2_with fail
  refine (U.out _ (HE.out.below hB6)).mono ?_
  rintro e W7 ⟨rfl, hb7⟩
  have hB7 := hB6.trans (hb7.mono hB6.size)
  go_wp2_with fail
  refine (C0.out _ (HE.out.below hB7)).mono ?_
  rintro e W8 ⟨rfl, hb8⟩
  have hB8 := hB7.trans (hb8.mono hB7.size)
  go_wp2_with fail
  refine (Z.out _ (HE.out.below hB8)).mono ?_
  rintro e W9 ⟨rfl, hb9⟩
  have hB9 := hB8.trans (hb9.mono hB8.size)
  go_wp2_with fail
  refine (M.out _ (HE.out.below hB9)).mono ?_
  rintro e W10 ⟨rfl, hb10⟩
  have hB10 := hB9.trans (hb10.mono hB9.size)
  go_wp2_with fail
  refine (B.out _ (HE.out.below hB10)).mono ?_
  rintro e W11 ⟨rfl, hb11⟩
  have hB11 := hB10.trans (hb11.mono hB10.size)
  go_wp2_with fail
  refine (C1.out _ (HE.out.below hB11)).mono ?_
  rintro e W12 ⟨rfl, hb12⟩
  have hB12 := hB11.trans (hb12.mono hB11.size)
  go_wp2_with fail
  refine (C2.out _ (HE.out.below hB12)).mono ?_
  rintro e W13 ⟨rfl, hb13⟩
  have hB13 := hB12.trans (hb13.mono hB12.size)
  go_wp2_with fail
  refine (V1.out _ (HE.out.below hB13)).mono ?_
  rintro e W14 ⟨rfl, hb14⟩
  have hB14 := hB13.trans (hb14.mono hB13.size)
  go_wp2_with fail
  go_ret
  exact ⟨rfl, hB14⟩
theorem law_divided (a b : ByteArray) (w : World) (ha : a.size ≤ 9223372036854775807) (hb : b.size ≤ 9223372036854775807) (he : EnvW w) :
    Calls Tryz.prog 6 #[.string a, .string b] w fun e w' => e = .returned (.bool true) ∧ Below w.heap.size w w' := by
  have Ma := fun V (_ : EnvW V) => made_any a 90 V (by decide) ha
  have Mb := fun V (_ : EnvW V) => made_any b 60 V (by decide) hb
  rcases Int.lt_trichotomy (madeV b 60) 0 with h | h | h
  · exact divided_neg a b _ _ w he (madeV_lt a 90) (madeV_lt b 60) h Ma Mb
  · exact divided_zero a b _ _ w he (madeV_lt a 90) (madeV_lt b 60) h Ma Mb
  · exact divided_pos a b _ _ w he (madeV_lt a 90) (madeV_lt b 60) h Ma Mb
end Go.Proofs.YtjnpenljgfdaiaaGreatDoor

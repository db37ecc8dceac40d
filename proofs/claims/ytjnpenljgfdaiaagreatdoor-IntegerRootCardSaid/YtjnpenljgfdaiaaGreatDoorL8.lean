/- nadirlaw03: IntegerRoot. -/
import Derived.Test.YtjnpenljgfdaiaaGreatDoorLK
namespace Go.Proofs.YtjnpenljgfdaiaaGreatDoor
open Go.RowKit Go.Shelf Lib

theorem S_ne8 {x y : Int} (h : x ≠ y) : ((N3.S x).toList == (N3.S y).toList) = false := beq_eq_false_iff_ne.2 fun k => h (N3.S_inj (Go.WideShapes.bytes_inj (by rw [← ByteArray.toList_eq, ← ByteArray.toList_eq, k])))
theorem S_nz8 {x : Int} (h : x ≠ 0) : ((N3.S x).toList == [48]) = false := by have k := S_ne8 h; rw [S_zero, ByteArray.toList_eq ⟨#[48]⟩] at k; exact k
set_option maxRecDepth 100000 in
set_option maxHeartbeats 4000000 in
theorem root_neg8 (a : ByteArray) (x : Int) (w : World) (he : EnvW w) (bx : x.natAbs < 10 ^ 80) (h : x < 0)
    (Mx : ∀ V, EnvW V → Calls Tryz.prog 33 #[.string a, .int .i64 80] V fun e w' => e = .returned (.string (N3.S x)) ∧ Below V.heap.size V w') :
    Calls Tryz.prog 8 #[.string a] w fun e w' => e = .returned (.bool true) ∧ Below w.heap.size w w' := by
  have HE := Lib.hid he
  have F0 := Lib.hid (fun V (_ : EnvW V) => sane_true V ‹EnvW V›)
  have M1 := Lib.hid Mx
  have lx := N3.lim_of bx (by decide)
  have mq := N3.natAbs_lt (k := 160) bx bx (by decide)
  have lq := N3.lim_of mq (by decide)
  have q0 : 0 ≤ x * x := by rcases Int.le_total 0 x with k | k; exact Int.mul_nonneg k k; exact Int.mul_nonneg_of_nonpos_of_nonpos k k
  have hq : N3.rootN (x * x).natAbs = x.natAbs := N3.rootN_eq (N3.root_sq x)
  have e2 : 10 ^ 81 = 10 ^ 80 * 10 := by decide
  have P := Lib.hid (fun V (hV : EnvW V) => mul_s lx lx lq V hV)
  have es : ((x.natAbs : Nat) : Int) = - x := by omega
  have ls : (- x).natAbs < N3.lim := by omega
  have e0 : - x + x = 0 := by omega
  have hs := S_ne8 (show - x ≠ x by omega)
  have ec : N3.cmpI x 0 = -1 := by unfold N3.cmpI; (repeat' split) <;> omega
  have R1 := Lib.hid (fun V (hV : EnvW V) => root_neg lx h V hV)
  have R2 := Lib.hid (fun V (hV : EnvW V) => by have k := root_s lq q0 V hV; rw [hq, es] at k; exact k)
  have A := Lib.hid (fun V (hV : EnvW V) => by have k := add_s ls lx (by rw [e0]; decide) V hV; rw [e0, S_zero] at k; exact k)
  have C := Lib.hid (fun V (hV : EnvW V) => by have k := compare_s lx lim0 V; rw [ec, S_zero] at k; exact k)
  generalize N3.S x = sx at *
  generalize N3.S (x * x) = sq at *
  generalize N3.S (- x) = ss at *
  clear he bx h lx mq lq q0 hq e2 es ls e0 ec Mx
  go_enter Tryz.func8, Tryz.ntmps8
  go_wp2_with fail
  refine (F0.out _ HE.out).mono ?_
  rintro e W1 ⟨rfl, hb1⟩
  have hB1 := hb1
  go_wp2_with fail
  refine (M1.out _ (HE.out.below hB1)).mono ?_
  rintro e W2 ⟨rfl, hb2⟩
  have hB2 := hB1.trans (hb2.mono hB1.size)
  go_wp2_with fail
  refine (R1.out _ (HE.out.below hB2)).mono ?_
  rintro e W3 ⟨rfl, hb3⟩
  have hB3 := hB2.trans (hb3.mono hB2.size)
  go_wp2_with fail
  refine (P.out _ (HE.out.below hB3)).mono ?_
  rintro e W4 ⟨rfl, hb4⟩
  have hB4 := hB3.trans (hb4.mono hB3.size)
  go_wp2_with fail
  refine (R2.out _ (HE.out.below hB4)).mono ?_
  rintro e W5 ⟨rfl, hb5⟩
  have hB5 := hB4.trans (hb5.mono hB4.size)
  go_wp2_with fail
  refine (A.out _ (HE.out.below hB5)).mono ?_
  rintro e W6 ⟨rfl, hb6⟩
  have hB6 := hB5.trans (hb6.mono hB5.size)
  go_wp2_with fail
  refine (C.out _ (HE.out.below hB6)).mono ?_
  rintro e W7 ⟨rfl, hb7⟩
  have hB7 := hB6.trans (hb7.mono hB6.size)
  go_wp2_with fail
  go_ret
  exact ⟨rfl, hB7⟩
set_option maxRecDepth 100000 in
set_option maxHeartbeats 4000000 in
theorem root_pos8 (a : ByteArray) (x : Int) (w : World) (he : EnvW w) (bx : x.natAbs < 10 ^ 80) (h : 0 ≤ x)
    (Mx : ∀ V, EnvW V → Calls Tryz.prog 33 #[.string a, .int .i64 80] V fun e w' => e = .returned (.string (N3.S x)) ∧ Below V.heap.size V w') :
    Calls Tryz.prog 8 #[.string a] w fun e w' => e = .returned (.bool true) ∧ Below w.heap.size w w' := by
  have HE := Lib.hid he
  have F0 := Lib.hid (fun V (_ : EnvW V) => sane_true V ‹EnvW V›)
  have M1 := Lib.hid Mx
  have lx := N3.lim_of bx (by decide)
  have mq := N3.natAbs_lt (k := 160) bx bx (by decide)
  have lq := N3.lim_of mq (by decide)
  have q0 : 0 ≤ x * x := by rcases Int.le_total 0 x with k | k; exact Int.mul_nonneg k k; exact Int.mul_nonneg_of_nonpos_of_nonpos k k
  have hq : N3.rootN (x * x).natAbs = x.natAbs := N3.rootN_eq (N3.root_sq x)
  have e2 : 10 ^ 81 = 10 ^ 80 * 10 := by decide
  have P := Lib.hid (fun V (hV : EnvW V) => mul_s lx lx lq V hV)
  have es : ((x.natAbs : Nat) : Int) = x := by omega
  have ls : (x + x).natAbs < N3.lim := N3.lim_of (k := 81) (by omega) (by decide)
  have hir := N3.rootN_is x.natAbs
  have hle := N3.rootN_le x.natAbs
  have lr := N3.root_lt lx
  have ec : ¬ N3.cmpI x 0 < 0 := by unfold N3.cmpI; (repeat' split) <;> omega
  generalize hR : N3.rootN x.natAbs = R at *
  obtain ⟨i1, i2⟩ := hir
  have j1 : ((R : Nat) : Int) * (R : Int) = ((R * R : Nat) : Int) := by rw [Int.natCast_mul]
  have j2 : ((R : Nat) : Int) + 1 = ((R + 1 : Nat) : Int) := by omega
  have j3 : ((R + 1 : Nat) : Int) * ((R + 1 : Nat) : Int) = (((R + 1) * (R + 1) : Nat) : Int) := by rw [Int.natCast_mul]
  have j4 : (R + 1) * (R + 1) = R * R + 2 * R + 1 := by rw [Nat.add_mul, Nat.mul_add]; omega
  have l1 : (((R * R : Nat) : Int)).natAbs < N3.lim := by rw [Int.natAbs_natCast]; omega
  have l2 : (((R + 1 : Nat) : Int)).natAbs < N3.lim := N3.lim_of (k := 81) (by rw [Int.natAbs_natCast]; omega) (by decide)
  have l3 : ((((R + 1) * (R + 1) : Nat) : Int)).natAbs < N3.lim := N3.lim_of (k := 81) (by rw [Int.natAbs_natCast, j4]; omega) (by decide)
  have k1 : N3.cmpI ((R * R : Nat) : Int) x ≤ 0 := (N3.cmpI_le _ _).2 (by omega)
  have k2 : N3.cmpI (((R + 1) * (R + 1) : Nat) : Int) x = 1 := by unfold N3.cmpI; (repeat' split) <;> omega
  have R1 := Lib.hid (fun V (hV : EnvW V) => by have k := root_s lx h V hV; rw [hR] at k; exact k)
  have R2 := Lib.hid (fun V (hV : EnvW V) => by have k := root_s lq q0 V hV; rw [hq, es] at k; exact k)
  have A := Lib.hid (fun V (hV : EnvW V) => add_s lx lx ls V hV)
  have C := Lib.hid (fun V (hV : EnvW V) => by have k := compare_s lx lim0 V; rw [S_zero] at k; exact k)
  have L1 := Lib.hid (fun V (hV : EnvW V) => by have k := mul_s lr lr (by rw [j1]; exact l1) V hV; rw [j1] at k; exact k)
  have L2 := Lib.hid (fun V (hV : EnvW V) => by have k := add_s lr lim1 (by rw [j2]; exact l2) V hV; rw [j2, S_one] at k; exact k)
  have L3 := Lib.hid (fun V (hV : EnvW V) => by have k := mul_s l2 l2 (by rw [j3]; exact l3) V hV; rw [j3] at k; exact k)
  have C1 := Lib.hid (fun V (hV : EnvW V) => compare_s l1 lx V)
  have C2 := Lib.hid (fun V (hV : EnvW V) => by have k := compare_s l3 lx V; rw [k2] at k; exact k)
  generalize N3.S x = sx at *
  generalize N3.S (x * x) = sq at *
  generalize N3.S (x + x) = ss at *
  generalize N3.S ((R : Nat) : Int) = sr at *
  generalize N3.S ((R * R : Nat) : Int) = srr at *
  generalize N3.S ((R + 1 : Nat) : Int) = sn at *
  generalize N3.S (((R + 1) * (R + 1) : Nat) : Int) = sh at *
  generalize N3.cmpI x 0 = c0 at *
  generalize N3.cmpI ((R * R : Nat) : Int) x = c1 at *
  clear he bx h lx mq lq q0 hq e2 es ls hle lr hR i1 i2 j1 j2 j3 j4 l1 l2 l3 k2 Mx
  go_enter Tryz.func8, Tryz.ntmps8
  go_wp2_with fail
  refine (F0.out _ HE.out).mono ?_
  rintro e W1 ⟨rfl, hb1⟩
  have hB1 := hb1
  go_wp2_with fail
  refine (M1.out _ (HE.out.below hB1)).mono ?_
  rintro e W2 ⟨rfl, hb2⟩
  have hB2 := hB1.trans (hb2.mono hB1.size)
  go_wp2_with fail
  refine (R1.out _ (HE.out.below hB2)).mono ?_
  rintro e W3 ⟨rfl, hb3⟩
  have hB3 := hB2.trans (hb3.mono hB2.size)
  go_wp2_with fail
  refine (P.out _ (HE.out.below hB3)).mono ?_
  rintro e W4 ⟨rfl, hb4⟩
  have hB4 := hB3.trans (hb4.mono hB3.size)
  go_wp2_with fail
  refine (R2.out _ (HE.out.below hB4)).mono ?_
  rintro e W5 ⟨rfl, hb5⟩
  have hB5 := hB4.trans (hb5.mono hB4.size)
  go_wp2_with fail
  refine (A.out _ (HE.out.below hB5)).mono ?_
  rintro e W6 ⟨rfl, hb6⟩
  have hB6 := hB5.trans (hb6.mono hB5.size)
  go_wp2_with fail
  refine (C.out _ (HE.out.below hB6)).mono ?_
  rintro e W7 ⟨rfl, hb7⟩
  have hB7 := hB6.trans (hb7.mono hB6.size)
  go_wp2_with fail
  refine (L1.out _ (HE.out.below hB7)).mono ?_
  rintro e W8 ⟨rfl, hb8⟩
  have hB8 := hB7.trans (hb8.mono hB7.size)
  go_wp2_with fail
  refine (L2.out _ (HE.out.below hB8)).mono ?_
  rintro e W9 ⟨rfl, hb9⟩
  have hB9 := hB8.trans (hb9.mono hB8.size)
  go_wp2_with fail
  refine (L3.out _ (HE.out.below hB9)).mono ?_
  rintro e W10 ⟨rfl, hb10⟩
  have hB10 := hB9.trans (hb10.mono hB9.size)
  go_wp2_with fail
  refine (C1.out _ (HE.out.below hB10)).mono ?_
  rintro e W11 ⟨rfl, hb11⟩
  have hB11 := hB10.trans (hb11.mono hB10.size)
  go_wp2_with fail
  refine (C2.out _ (HE.out.below hB11)).mono ?_
  rintro e W12 ⟨rfl, hb12⟩
  have hB12 := hB11.trans (hb12.mono hB11.size)
  go_wp2_with fail
  go_ret
  exact ⟨rfl, hB12⟩
theorem law_root (a : ByteArray) (w : World) (ha : a.size ≤ 9223372036854775807) (he : EnvW w) :
    Calls Tryz.prog 8 #[.string a] w fun e w' => e = .returned (.bool true) ∧ Below w.heap.size w w' := by
  have Ma := fun V (_ : EnvW V) => made_any a 80 V (by decide) ha
  rcases Int.lt_or_le (madeV a 80) 0 with h | h
  · exact root_neg8 a _ w he (madeV_lt a 80) h Ma
  · exact root_pos8 a _ w he (madeV_lt a 80) h Ma
end Go.Proofs.YtjnpenljgfdaiaaGreatDoor

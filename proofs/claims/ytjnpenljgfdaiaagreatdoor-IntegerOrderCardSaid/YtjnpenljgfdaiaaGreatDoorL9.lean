/- nadirlaw03: IntegerOrder. -/
import Derived.Test.YtjnpenljgfdaiaaGreatDoorLK
namespace Go.Proofs.YtjnpenljgfdaiaaGreatDoor
open Go.RowKit Go.Shelf Lib

theorem S_ne9 {x y : Int} (h : x ≠ y) : ((N3.S x).toList == (N3.S y).toList) = false := beq_eq_false_iff_ne.2 fun k => h (N3.S_inj (Go.WideShapes.bytes_inj (by rw [← ByteArray.toList_eq, ← ByteArray.toList_eq, k])))
theorem S_nz9 {x : Int} (h : x ≠ 0) : ((N3.S x).toList == [48]) = false := by have k := S_ne9 h; rw [S_zero, ByteArray.toList_eq ⟨#[48]⟩] at k; exact k
set_option maxRecDepth 100000 in
set_option maxHeartbeats 4000000 in
theorem order_gt (a b c : ByteArray) (x y z : Int) (w : World) (he : EnvW w) (bx : x.natAbs < 10 ^ 60) (by' : y.natAbs < 10 ^ 60) (bz : z.natAbs < 10 ^ 60) (h : y < x)
    (Mx : ∀ V, EnvW V → Calls Tryz.prog 33 #[.string a, .int .i64 60] V fun e w' => e = .returned (.string (N3.S x)) ∧ Below V.heap.size V w')
    (My : ∀ V, EnvW V → Calls Tryz.prog 33 #[.string b, .int .i64 60] V fun e w' => e = .returned (.string (N3.S y)) ∧ Below V.heap.size V w')
    (Mz : ∀ V, EnvW V → Calls Tryz.prog 33 #[.string c, .int .i64 60] V fun e w' => e = .returned (.string (N3.S z)) ∧ Below V.heap.size V w') :
    Calls Tryz.prog 9 #[.string a, .string b, .string c] w fun e w' => e = .returned (.bool true) ∧ Below w.heap.size w w' := by
  have HE := Lib.hid he
  have F0 := Lib.hid (fun V (_ : EnvW V) => sane_true V ‹EnvW V›)
  have M1 := Lib.hid Mx
  have M2 := Lib.hid My
  have M3 := Lib.hid Mz
  have lx := N3.lim_of bx (by decide)
  have ly := N3.lim_of by' (by decide)
  have lz := N3.lim_of bz (by decide)
  have lxz := N3.lim_of (N3.natAbs_add_lt (k := 61) bx bz (by decide) (by decide)) (by decide)
  have lyz := N3.lim_of (N3.natAbs_add_lt (k := 61) by' bz (by decide) (by decide)) (by decide)
  have e1 : 10 ^ 61 = 10 ^ 60 * 10 := by decide
  have bd : (x - y).natAbs < 10 ^ 61 := by omega
  have ld := N3.lim_of bd (by decide)
  have ec : N3.cmpI x y = 1 := by unfold N3.cmpI; (repeat' split) <;> first | rfl | omega
  have ec' : N3.cmpI y x = (-1) := by have h0 := N3.cmpI_neg x y; omega
  have C1 := Lib.hid (fun V (hV : EnvW V) => by have h := compare_s lx ly V; rw [ec] at h; exact h)
  have D := Lib.hid (fun V (hV : EnvW V) => sub_s lx ly ld V hV)
  have A1 := Lib.hid (fun V (hV : EnvW V) => add_s lx lz lxz V hV)
  have A2 := Lib.hid (fun V (hV : EnvW V) => add_s ly lz lyz V hV)
  have C2 := Lib.hid (fun V (hV : EnvW V) => by have h := compare_s ly lx V; rw [ec'] at h; exact h)
  have C3 := Lib.hid (fun V (hV : EnvW V) => by have h := compare_s ld lim0 V; rw [N3.cmpI_sub, ec, S_zero] at h; exact h)
  have C4 := Lib.hid (fun V (hV : EnvW V) => by have h := compare_s lxz lyz V; rw [N3.cmpI_add, ec] at h; exact h)
  have hs := S_ne9 (show x ≠ y by omega)
  generalize N3.S x = sx at *
  generalize N3.S y = sy at *
  generalize N3.S z = sz at *
  generalize N3.S (x - y) = sd at *
  generalize N3.S (x + z) = sxz at *
  generalize N3.S (y + z) = syz at *
  clear ec ec' he bx by' bz lx ly lz lxz lyz e1 bd ld h Mx My Mz
  go_enter Tryz.func9, Tryz.ntmps9
  go_wp2_with fail
  refine (F0.out _ HE.out).mono ?_
  rintro e W1 ⟨rfl, hb1⟩
  have hB1 := hb1
  go_wp2_with fail
  refine (M1.out _ (HE.out.below hB1)).mono ?_
  rintro e W2 ⟨rfl, hb2⟩
  have hB2 := hB1.trans (hb2.mono hB1.size)
  go_wp2_with fail
  refine (M2.out _ (HE.out.below hB2)).mono ?_
  rintro e W3 ⟨rfl, hb3⟩
  have hB3 := hB2.trans (hb3.mono hB2.size)
  go_wp2_with fail
  refine (M3.out _ (HE.out.below hB3)).mono ?_
  rintro e W4 ⟨rfl, hb4⟩
  have hB4 := hB3.trans (hb4.mono hB3.size)
  go_wp2_with fail
  refine (C1.out _ (HE.out.below hB4)).mono ?_
  rintro e W5 ⟨rfl, hb5⟩
  have hB5 := hB4.trans (hb5.mono hB4.size)
  go_wp2_with fail
  refine (D.out _ (HE.out.below hB5)).mono ?_
  rintro e W6 ⟨rfl, hb6⟩
  have hB6 := hB5.trans (hb6.mono hB5.size)
  go_wp2_with fail
  refine (A1.out _ (HE.out.below hB6)).mono ?_
  rintro e W7 ⟨rfl, hb7⟩
  have hB7 := hB6.trans (hb7.mono hB6.size)
  go_wp2_with fail
  refine (A2.out _ (HE.out.below hB7)).mono ?_
  rintro e W8 ⟨rfl, hb8⟩
  have hB8 := hB7.trans (hb8.mono hB7.size)
  go_wp2_with fail
  refine (C2.out _ (HE.out.below hB8)).mono ?_
  rintro e W9 ⟨rfl, hb9⟩
  have hB9 := hB8.trans (hb9.mono hB8.size)
  go_wp2_with fail
  refine (C3.out _ (HE.out.below hB9)).mono ?_
  rintro e W10 ⟨rfl, hb10⟩
  have hB10 := hB9.trans (hb10.mono hB9.size)
  go_wp2_with fail
  refine (C4.out _ (HE.out.below hB10)).mono ?_
  rintro e W11 ⟨rfl, hb11⟩
  have hB11 := hB10.trans (hb11.mono hB10.size)
  go_wp2_with fail
  go_ret
  exact ⟨rfl, hB11⟩
set_option maxRecDepth 100000 in
set_option maxHeartbeats 4000000 in
theorem order_eq (a b c : ByteArray) (x y z : Int) (w : World) (he : EnvW w) (bx : x.natAbs < 10 ^ 60) (by' : y.natAbs < 10 ^ 60) (bz : z.natAbs < 10 ^ 60) (h : x = y)
    (Mx : ∀ V, EnvW V → Calls Tryz.prog 33 #[.string a, .int .i64 60] V fun e w' => e = .returned (.string (N3.S x)) ∧ Below V.heap.size V w')
    (My : ∀ V, EnvW V → Calls Tryz.prog 33 #[.string b, .int .i64 60] V fun e w' => e = .returned (.string (N3.S y)) ∧ Below V.heap.size V w')
    (Mz : ∀ V, EnvW V → Calls Tryz.prog 33 #[.string c, .int .i64 60] V fun e w' => e = .returned (.string (N3.S z)) ∧ Below V.heap.size V w') :
    Calls Tryz.prog 9 #[.string a, .string b, .string c] w fun e w' => e = .returned (.bool true) ∧ Below w.heap.size w w' := by
  have HE := Lib.hid he
  have F0 := Lib.hid (fun V (_ : EnvW V) => sane_true V ‹EnvW V›)
  have M1 := Lib.hid Mx
  have M2 := Lib.hid My
  have M3 := Lib.hid Mz
  have lx := N3.lim_of bx (by decide)
  have ly := N3.lim_of by' (by decide)
  have lz := N3.lim_of bz (by decide)
  have lxz := N3.lim_of (N3.natAbs_add_lt (k := 61) bx bz (by decide) (by decide)) (by decide)
  have lyz := N3.lim_of (N3.natAbs_add_lt (k := 61) by' bz (by decide) (by decide)) (by decide)
  have e1 : 10 ^ 61 = 10 ^ 60 * 10 := by decide
  have bd : (x - y).natAbs < 10 ^ 61 := by omega
  have ld := N3.lim_of bd (by decide)
  have ec : N3.cmpI x y = 0 := by unfold N3.cmpI; (repeat' split) <;> first | rfl | omega
  have ec' : N3.cmpI y x = 0 := by have h0 := N3.cmpI_neg x y; omega
  have C1 := Lib.hid (fun V (hV : EnvW V) => by have h := compare_s lx ly V; rw [ec] at h; exact h)
  have D := Lib.hid (fun V (hV : EnvW V) => sub_s lx ly ld V hV)
  have A1 := Lib.hid (fun V (hV : EnvW V) => add_s lx lz lxz V hV)
  have A2 := Lib.hid (fun V (hV : EnvW V) => add_s ly lz lyz V hV)
  have C2 := Lib.hid (fun V (hV : EnvW V) => by have h := compare_s ly lx V; rw [ec'] at h; exact h)
  have C3 := Lib.hid (fun V (hV : EnvW V) => by have h := compare_s ld lim0 V; rw [N3.cmpI_sub, ec, S_zero] at h; exact h)
  have C4 := Lib.hid (fun V (hV : EnvW V) => by have h := compare_s lxz lyz V; rw [N3.cmpI_add, ec] at h; exact h)
  have C5 := Lib.hid (fun V (hV : EnvW V) => compare_s ly lz V)
  have C6 := Lib.hid (fun V (hV : EnvW V) => compare_s lx lz V)
  have h6 : ¬ 0 < N3.cmpI y z → N3.cmpI x z ≤ 0 := by unfold N3.cmpI; (repeat' split) <;> omega
  have hs : N3.S x = N3.S y := by rw [h]
  generalize N3.S x = sx at *
  generalize N3.S y = sy at *
  generalize N3.S z = sz at *
  generalize N3.S (x - y) = sd at *
  generalize N3.S (x + z) = sxz at *
  generalize N3.S (y + z) = syz at *
  generalize N3.cmpI y z = k5 at *
  generalize N3.cmpI x z = k6 at *
  subst hs
  clear ec ec' he bx by' bz lx ly lz lxz lyz e1 bd ld h Mx My Mz
  go_enter Tryz.func9, Tryz.ntmps9
  go_wp2_with fail
  refine (F0.out _ HE.out).mono ?_
  rintro e W1 ⟨rfl, hb1⟩
  have hB1 := hb1
  go_wp2_with fail
  refine (M1.out _ (HE.out.below hB1)).mono ?_
  rintro e W2 ⟨rfl, hb2⟩
  have hB2 := hB1.trans (hb2.mono hB1.size)
  go_wp2_with fail
  refine (M2.out _ (HE.out.below hB2)).mono ?_
  rintro e W3 ⟨rfl, hb3⟩
  have hB3 := hB2.trans (hb3.mono hB2.size)
  go_wp2_with fail
  refine (M3.out _ (HE.out.below hB3)).mono ?_
  rintro e W4 ⟨rfl, hb4⟩
  have hB4 := hB3.trans (hb4.mono hB3.size)
  go_wp2_with fail
  refine (C1.out _ (HE.out.below hB4)).mono ?_
  rintro e W5 ⟨rfl, hb5⟩
  have hB5 := hB4.trans (hb5.mono hB4.size)
  go_wp2_with fail
  refine (D.out _ (HE.out.below hB5)).mono ?_
  rintro e W6 ⟨rfl, hb6⟩
  have hB6 := hB5.trans (hb6.mono hB5.size)
  go_wp2_with fail
  refine (A1.out _ (HE.out.below hB6)).mono ?_
  rintro e W7 ⟨rfl, hb7⟩
  have hB7 := hB6.trans (hb7.mono hB6.size)
  go_wp2_with fail
  refine (A2.out _ (HE.out.below hB7)).mono ?_
  rintro e W8 ⟨rfl, hb8⟩
  have hB8 := hB7.trans (hb8.mono hB7.size)
  go_wp2_with fail
  refine (C2.out _ (HE.out.below hB8)).mono ?_
  rintro e W9 ⟨rfl, hb9⟩
  have hB9 := hB8.trans (hb9.mono hB8.size)
  go_wp2_with fail
  refine (C3.out _ (HE.out.below hB9)).mono ?_
  rintro e W10 ⟨rfl, hb10⟩
  have hB10 := hB9.trans (hb10.mono hB9.size)
  go_wp2_with fail
  refine (C4.out _ (HE.out.below hB10)).mono ?_
  rintro e W11 ⟨rfl, hb11⟩
  have hB11 := hB10.trans (hb11.mono hB10.size)
  go_wp2_with fail
  refine (C5.out _ (HE.out.below hB11)).mono ?_
  rintro e W12 ⟨rfl, hb12⟩
  have hB12 := hB11.trans (hb12.mono hB11.size)
  by_cases hk : 0 < k5
  · skip
    go_wp2_with fail
    go_ret
    exact ⟨rfl, hB12⟩
  · skip
    have hk5 : k5 ≤ 0 := Int.not_lt.1 hk
    have hk6 : k6 ≤ 0 := by first | exact h6 hk | exact h6 hk5
    go_wp2_with fail
    refine (C6.out _ (HE.out.below hB12)).mono ?_
    rintro e W13 ⟨rfl, hb13⟩
    have hB13 := hB12.trans (hb13.mono hB12.size)
    go_wp2_with fail
    go_ret
    exact ⟨rfl, hB13⟩
set_option maxRecDepth 100000 in
set_option maxHeartbeats 4000000 in
theorem order_lt (a b c : ByteArray) (x y z : Int) (w : World) (he : EnvW w) (bx : x.natAbs < 10 ^ 60) (by' : y.natAbs < 10 ^ 60) (bz : z.natAbs < 10 ^ 60) (h : x < y)
    (Mx : ∀ V, EnvW V → Calls Tryz.prog 33 #[.string a, .int .i64 60] V fun e w' => e = .returned (.string (N3.S x)) ∧ Below V.heap.size V w')
    (My : ∀ V, EnvW V → Calls Tryz.prog 33 #[.string b, .int .i64 60] V fun e w' => e = .returned (.string (N3.S y)) ∧ Below V.heap.size V w')
    (Mz : ∀ V, EnvW V → Calls Tryz.prog 33 #[.string c, .int .i64 60] V fun e w' => e = .returned (.string (N3.S z)) ∧ Below V.heap.size V w') :
    Calls Tryz.prog 9 #[.string a, .string b, .string c] w fun e w' => e = .returned (.bool true) ∧ Below w.heap.size w w' := by
  have HE := Lib.hid he
  have F0 := Lib.hid (fun V (_ : EnvW V) => sane_true V ‹EnvW V›)
  have M1 := Lib.hid Mx
  have M2 := Lib.hid My
  have M3 := Lib.hid Mz
  have lx := N3.lim_of bx (by decide)
  have ly := N3.lim_of by' (by decide)
  have lz := N3.lim_of bz (by decide)
  have lxz := N3.lim_of (N3.natAbs_add_lt (k := 61) bx bz (by decide) (by decide)) (by decide)
  have lyz := N3.lim_of (N3.natAbs_add_lt (k := 61) by' bz (by decide) (by decide)) (by decide)
  have e1 : 10 ^ 61 = 10 ^ 60 * 10 := by decide
  have bd : (x - y).natAbs < 10 ^ 61 := by omega
  have ld := N3.lim_of bd (by decide)
  have ec : N3.cmpI x y = (-1) := by unfold N3.cmpI; (repeat' split) <;> first | rfl | omega
  have ec' : N3.cmpI y x = 1 := by have h0 := N3.cmpI_neg x y; omega
  have C1 := Lib.hid (fun V (hV : EnvW V) => by have h := compare_s lx ly V; rw [ec] at h; exact h)
  have D := Lib.hid (fun V (hV : EnvW V) => sub_s lx ly ld V hV)
  have A1 := Lib.hid (fun V (hV : EnvW V) => add_s lx lz lxz V hV)
  have A2 := Lib.hid (fun V (hV : EnvW V) => add_s ly lz lyz V hV)
  have C2 := Lib.hid (fun V (hV : EnvW V) => by have h := compare_s ly lx V; rw [ec'] at h; exact h)
  have C3 := Lib.hid (fun V (hV : EnvW V) => by have h := compare_s ld lim0 V; rw [N3.cmpI_sub, ec, S_zero] at h; exact h)
  have C4 := Lib.hid (fun V (hV : EnvW V) => by have h := compare_s lxz lyz V; rw [N3.cmpI_add, ec] at h; exact h)
  have C5 := Lib.hid (fun V (hV : EnvW V) => compare_s ly lz V)
  have C6 := Lib.hid (fun V (hV : EnvW V) => compare_s lx lz V)
  have h6 : ¬ 0 < N3.cmpI y z → N3.cmpI x z ≤ 0 := by unfold N3.cmpI; (repeat' split) <;> omega
  have hs := S_ne9 (show x ≠ y by omega)
  generalize N3.S x = sx at *
  generalize N3.S y = sy at *
  generalize N3.S z = sz at *
  generalize N3.S (x - y) = sd at *
  generalize N3.S (x + z) = sxz at *
  generalize N3.S (y + z) = syz at *
  generalize N3.cmpI y z = k5 at *
  generalize N3.cmpI x z = k6 at *
  clear ec ec' he bx by' bz lx ly lz lxz lyz e1 bd ld h Mx My Mz
  go_enter Tryz.func9, Tryz.ntmps9
  go_wp2_with fail
  refine (F0.out _ HE.out).mono ?_
  rintro e W1 ⟨rfl, hb1⟩
  have hB1 := hb1
  go_wp2_with fail
  refine (M1.out _ (HE.out.below hB1)).mono ?_
  rintro e W2 ⟨rfl, hb2⟩
  have hB2 := hB1.trans (hb2.mono hB1.size)
  go_wp2_with fail
  refine (M2.out _ (HE.out.below hB2)).mono ?_
  rintro e W3 ⟨rfl, hb3⟩
  have hB3 := hB2.trans (hb3.mono hB2.size)
  go_wp2_with fail
  refine (M3.out _ (HE.out.below hB3)).mono ?_
  rintro e W4 ⟨rfl, hb4⟩
  have hB4 := hB3.trans (hb4.mono hB3.size)
  go_wp2_with fail
  refine (C1.out _ (HE.out.below hB4)).mono ?_
  rintro e W5 ⟨rfl, hb5⟩
  have hB5 := hB4.trans (hb5.mono hB4.size)
  go_wp2_with fail
  refine (D.out _ (HE.out.below hB5)).mono ?_
  rintro e W6 ⟨rfl, hb6⟩
  have hB6 := hB5.trans (hb6.mono hB5.size)
  go_wp2_with fail
  refine (A1.out _ (HE.out.below hB6)).mono ?_
  rintro e W7 ⟨rfl, hb7⟩
  have hB7 := hB6.trans (hb7.mono hB6.size)
  go_wp2_with fail
  refine (A2.out _ (HE.out.below hB7)).mono ?_
  rintro e W8 ⟨rfl, hb8⟩
  have hB8 := hB7.trans (hb8.mono hB7.size)
  go_wp2_with fail
  refine (C2.out _ (HE.out.below hB8)).mono ?_
  rintro e W9 ⟨rfl, hb9⟩
  have hB9 := hB8.trans (hb9.mono hB8.size)
  go_wp2_with fail
  refine (C3.out _ (HE.out.below hB9)).mono ?_
  rintro e W10 ⟨rfl, hb10⟩
  have hB10 := hB9.trans (hb10.mono hB9.size)
  go_wp2_with fail
  refine (C4.out _ (HE.out.below hB10)).mono ?_
  rintro e W11 ⟨rfl, hb11⟩
  have hB11 := hB10.trans (hb11.mono hB10.size)
  go_wp2_with fail
  refine (C5.out _ (HE.out.below hB11)).mono ?_
  rintro e W12 ⟨rfl, hb12⟩
  have hB12 := hB11.trans (hb12.mono hB11.size)
  by_cases hk : 0 < k5
  · skip
    go_wp2_with fail
    go_ret
    exact ⟨rfl, hB12⟩
  · skip
    have hk5 : k5 ≤ 0 := Int.not_lt.1 hk
    have hk6 : k6 ≤ 0 := by first | exact h6 hk | exact h6 hk5
    go_wp2_with fail
    refine (C6.out _ (HE.out.below hB12)).mono ?_
    rintro e W13 ⟨rfl, hb13⟩
    have hB13 := hB12.trans (hb13.mono hB12.size)
    go_wp2_with fail
    go_ret
    exact ⟨rfl, hB13⟩
theorem law_order (a b c : ByteArray) (w : World) (ha : a.size ≤ 9223372036854775807) (hb : b.size ≤ 9223372036854775807) (hc : c.size ≤ 9223372036854775807) (he : EnvW w) :
    Calls Tryz.prog 9 #[.string a, .string b, .string c] w fun e w' => e = .returned (.bool true) ∧ Below w.heap.size w w' := by
  have Ma := fun V (_ : EnvW V) => made_any a 60 V (by decide) ha
  have Mb := fun V (_ : EnvW V) => made_any b 60 V (by decide) hb
  have Mc := fun V (_ : EnvW V) => made_any c 60 V (by decide) hc
  rcases Int.lt_trichotomy (madeV a 60) (madeV b 60) with h | h | h
  · exact order_lt a b c _ _ _ w he (madeV_lt a 60) (madeV_lt b 60) (madeV_lt c 60) h Ma Mb Mc
  · exact order_eq a b c _ _ _ w he (madeV_lt a 60) (madeV_lt b 60) (madeV_lt c 60) h Ma Mb Mc
  · exact order_gt a b c _ _ _ w he (madeV_lt a 60) (madeV_lt b 60) (madeV_lt c 60) h Ma Mb Mc
end Go.Proofs.YtjnpenljgfdaiaaGreatDoor

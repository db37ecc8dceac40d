/- nadirlaw03: IntegerCommon. -/
import Derived.Test.YtjnpenljgfdaiaaGreatDoorLK
namespace Go.Proofs.YtjnpenljgfdaiaaGreatDoor
open Go.RowKit Go.Shelf Lib

theorem S_ne7 {x y : Int} (h : x ≠ y) : ((N3.S x).toList == (N3.S y).toList) = false := beq_eq_false_iff_ne.2 fun k => h (N3.S_inj (Go.WideShapes.bytes_inj (by rw [← ByteArray.toList_eq, ← ByteArray.toList_eq, k])))
theorem S_nz7 {x : Int} (h : x ≠ 0) : ((N3.S x).toList == [48]) = false := by have k := S_ne7 h; rw [S_zero, ByteArray.toList_eq ⟨#[48]⟩] at k; exact k
theorem S_z7 {x : Int} (h : x = 0) : ((N3.S x).toList == [48]) = true := by rw [h, S_zero, ByteArray.toList_eq]; rfl
set_option maxRecDepth 100000 in
set_option maxHeartbeats 4000000 in
theorem common_zero (a b c : ByteArray) (x y z : Int) (w : World) (he : EnvW w) (bx : x.natAbs < 10 ^ 40) (by' : y.natAbs < 10 ^ 40) (bz : z.natAbs < 10 ^ 40) (h : x = 0 ∧ y = 0)
    (Mx : ∀ V, EnvW V → Calls Tryz.prog 33 #[.string a, .int .i64 40] V fun e w' => e = .returned (.string (N3.S x)) ∧ Below V.heap.size V w')
    (My : ∀ V, EnvW V → Calls Tryz.prog 33 #[.string b, .int .i64 40] V fun e w' => e = .returned (.string (N3.S y)) ∧ Below V.heap.size V w')
    (Mz : ∀ V, EnvW V → Calls Tryz.prog 33 #[.string c, .int .i64 40] V fun e w' => e = .returned (.string (N3.S z)) ∧ Below V.heap.size V w') :
    Calls Tryz.prog 7 #[.string a, .string b, .string c] w fun e w' => e = .returned (.bool true) ∧ Below w.heap.size w w' := by
  have HE := Lib.hid he
  have F0 := Lib.hid (fun V (_ : EnvW V) => sane_true V ‹EnvW V›)
  have M1 := Lib.hid Mx
  have M2 := Lib.hid My
  have M3 := Lib.hid Mz
  have lx := N3.lim_of bx (by decide)
  have ly := N3.lim_of by' (by decide)
  have lz := N3.lim_of bz (by decide)
  have g0 := N3.gcdI_nonneg x y
  have gl := N3.gcd_natAbs_lt lx ly
  have gc := N3.gcdI_comm x y
  have c0 : ¬ N3.cmpI (N3.gcdI x y) 0 < 0 := by unfold N3.cmpI; (repeat' split) <;> omega
  have G1 := Lib.hid (fun V (hV : EnvW V) => gcd_s lx ly V hV)
  have G2 := Lib.hid (fun V (hV : EnvW V) => by have k := gcd_s ly lx V hV; rw [← gc] at k; exact k)
  have C := Lib.hid (fun V (hV : EnvW V) => by have k := compare_s gl lim0 V; rw [S_zero] at k; exact k)
  have h1 := S_z7 h.1
  have h2 := S_z7 h.2
  have h3 := S_z7 (N3.gcdI_zero.2 h)
  generalize N3.S x = sx at *
  generalize N3.S y = sy at *
  generalize N3.S z = sz at *
  generalize N3.S (N3.gcdI x y) = sg at *
  generalize N3.cmpI (N3.gcdI x y) 0 = k0 at *
  clear he bx by' bz lx ly lz g0 gl gc h Mx My Mz
  go_enter Tryz.func7, Tryz.ntmps7
  go_wp2_with fail
  refine (F0.out _ HE.out).mono ?_
  rintro e W1 ⟨rfl, hb1⟩
  have hB1 := hb1
  go_wp2_with fail
  refine (M1.out _ (HE.out.below hB1)).mono ?_
  rintro e W2 ⟨rfl, hb2⟩
  have hB2 := hB1.trans (hb2.mono hB1.size)
  go_wp2_with fail
  refine (M2.out _ (HE.out.below hB2)).mono ?_
  rintro e W3 ⟨rfl, hb3⟩
  have hB3 := hB2.trans (hb3.mono hB2.size)
  go_wp2_with fail
  refine (M3.out _ (HE.out.below hB3)).mono ?_
  rintro e W4 ⟨rfl, hb4⟩
  have hB4 := hB3.trans (hb4.mono hB3.size)
  go_wp2_with fail
  refine (G1.out _ (HE.out.below hB4)).mono ?_
  rintro e W5 ⟨rfl, hb5⟩
  have hB5 := hB4.trans (hb5.mono hB4.size)
  go_wp2_with fail
  refine (G2.out _ (HE.out.below hB5)).mono ?_
  rintro e W6 ⟨rfl, hb6⟩
  have hB6 := hB5.trans (hb6.mono hB5.size)
  go_wp2_with fail
  refine (C.out _ (HE.out.below hB6)).mono ?_
  rintro e W7 ⟨rfl, hb7⟩
  have hB7 := hB6.trans (hb7.mono hB6.size)
  go_wp2_with fail
  go_ret
  exact ⟨rfl, hB7⟩
set_option maxRecDepth 100000 in
set_option maxHeartbeats 4000000 in
theorem common_xp (a b c : ByteArray) (x y z : Int) (w : World) (he : EnvW w) (bx : x.natAbs < 10 ^ 40) (by' : y.natAbs < 10 ^ 40) (bz : z.natAbs < 10 ^ 40) (h : x ≠ 0) (hz : 0 ≤ z)
    (Mx : ∀ V, EnvW V → Calls Tryz.prog 33 #[.string a, .int .i64 40] V fun e w' => e = .returned (.string (N3.S x)) ∧ Below V.heap.size V w')
    (My : ∀ V, EnvW V → Calls Tryz.prog 33 #[.string b, .int .i64 40] V fun e w' => e = .returned (.string (N3.S y)) ∧ Below V.heap.size V w')
    (Mz : ∀ V, EnvW V → Calls Tryz.prog 33 #[.string c, .int .i64 40] V fun e w' => e = .returned (.string (N3.S z)) ∧ Below V.heap.size V w') :
    Calls Tryz.prog 7 #[.string a, .string b, .string c] w fun e w' => e = .returned (.bool true) ∧ Below w.heap.size w w' := by
  have HE := Lib.hid he
  have F0 := Lib.hid (fun V (_ : EnvW V) => sane_true V ‹EnvW V›)
  have M1 := Lib.hid Mx
  have M2 := Lib.hid My
  have M3 := Lib.hid Mz
  have lx := N3.lim_of bx (by decide)
  have ly := N3.lim_of by' (by decide)
  have lz := N3.lim_of bz (by decide)
  have g0 := N3.gcdI_nonneg x y
  have gl := N3.gcd_natAbs_lt lx ly
  have gc := N3.gcdI_comm x y
  have c0 : ¬ N3.cmpI (N3.gcdI x y) 0 < 0 := by unfold N3.cmpI; (repeat' split) <;> omega
  have G1 := Lib.hid (fun V (hV : EnvW V) => gcd_s lx ly V hV)
  have G2 := Lib.hid (fun V (hV : EnvW V) => by have k := gcd_s ly lx V hV; rw [← gc] at k; exact k)
  have C := Lib.hid (fun V (hV : EnvW V) => by have k := compare_s gl lim0 V; rw [S_zero] at k; exact k)
  have h1 := S_nz7 h
  have hn : ¬ (x = 0 ∧ y = 0) := fun k => h k.1
  have gn : N3.gcdI x y ≠ 0 := fun k => hn (N3.gcdI_zero.1 k)
  have d1 := N3.gcdI_dvd_left x y
  have d2 := N3.gcdI_dvd_right x y
  have d3 := N3.gcdI_div hn
  have d4 := N3.gcdI_mul x y z
  have lxz := N3.lim_of (N3.natAbs_lt (k := 80) bx bz (by decide)) (by decide)
  have lyz := N3.lim_of (N3.natAbs_lt (k := 80) by' bz (by decide)) (by decide)
  have gz := N3.gcd_natAbs_lt lxz lyz
  rw [d4, Int.natAbs_natCast] at gz
  have lp : (x / N3.gcdI x y).natAbs < N3.lim := Nat.lt_of_le_of_lt (N3.div_natAbs_le _ _) lx
  have lq : (y / N3.gcdI x y).natAbs < N3.lim := Nat.lt_of_le_of_lt (N3.div_natAbs_le _ _) ly
  have sg : 0 ≤ N3.gcdI x y * z := Int.mul_nonneg g0 hz
  have e1 : ((N3.gcdI x y * z).natAbs : Int) = N3.gcdI x y * z := by omega
  have c1 : ¬ N3.cmpI (N3.gcdI x y * z) 0 < 0 := fun k => by have := (N3.cmpI_lt _ _).1 k; omega
  have D1 := Lib.hid (fun V (hV : EnvW V) => by have k := div_s lx gl gn V hV; rw [d1, S_zero] at k; exact k)
  have D2 := Lib.hid (fun V (hV : EnvW V) => by have k := div_s ly gl gn V hV; rw [d2, S_zero] at k; exact k)
  have G3 := Lib.hid (fun V (hV : EnvW V) => by have k := gcd_s lp lq V hV; rw [d3, S_one] at k; exact k)
  have P1 := Lib.hid (fun V (hV : EnvW V) => mul_s lx lz lxz V hV)
  have P2 := Lib.hid (fun V (hV : EnvW V) => mul_s ly lz lyz V hV)
  have G4 := Lib.hid (fun V (hV : EnvW V) => by have k := gcd_s lxz lyz V hV; rw [d4, e1] at k; exact k)
  have P3 := Lib.hid (fun V (hV : EnvW V) => mul_s gl lz gz V hV)
  have C1 := Lib.hid (fun V (hV : EnvW V) => by have k := compare_s gz lim0 V; rw [S_zero] at k; exact k)
  generalize N3.S x = sx at *
  generalize N3.S y = sy at *
  generalize N3.S z = sz at *
  generalize N3.S (N3.gcdI x y) = sg' at *
  generalize N3.cmpI (N3.gcdI x y) 0 = k0 at *
  generalize N3.S (x / N3.gcdI x y) = sp at *
  generalize N3.S (y / N3.gcdI x y) = sq at *
  generalize N3.S (x * z) = sxz at *
  generalize N3.S (y * z) = syz at *
  generalize N3.S (N3.gcdI x y * z) = sgz at *
  generalize N3.cmpI (N3.gcdI x y * z) 0 = k1 at *
  clear he bx by' bz lx ly lz g0 gl gc h hn gn d1 d2 d3 d4 lxz lyz gz lp lq sg e1 hz Mx My Mz
  go_enter Tryz.func7, Tryz.ntmps7
  go_wp2_with fail
  refine (F0.out _ HE.out).mono ?_
  rintro e W1 ⟨rfl, hb1⟩
  have hB1 := hb1
  go_wp2_with fail
  refine (M1.out _ (HE.out.below hB1)).mono ?_
  rintro e W2 ⟨rfl, hb2⟩
  have hB2 := hB1.trans (hb2.mono hB1.size)
  go_wp2_with fail
  refine (M2.out _ (HE.out.below hB2)).mono ?_
  rintro e W3 ⟨rfl, hb3⟩
  have hB3 := hB2.trans (hb3.mono hB2.size)
  go_wp2_with fail
  refine (M3.out _ (HE.out.below hB3)).mono ?_
  rintro e W4 ⟨rfl, hb4⟩
  have hB4 := hB3.trans (hb4.mono hB3.size)
  go_wp2_with fail
  refine (G1.out _ (HE.out.below hB4)).mono ?_
  rintro e W5 ⟨rfl, hb5⟩
  have hB5 := hB4.trans (hb5.mono hB4.size)
  go_wp2_with fail
  refine (G2.out _ (HE.out.below hB5)).mono ?_
  rintro e W6 ⟨rfl, hb6⟩
  have hB6 := hB5.trans (hb6.mono hB5.size)
  go_wp2_with fail
  refine (C.out _ (HE.out.below hB6)).mono ?_
  rintro e W7 ⟨rfl, hb7⟩
  have hB7 := hB6.trans (hb7.mono hB6.size)
  go_wp2_with fail
  refine (D1.out _ (HE.out.below hB7)).mono ?_
  rintro e W8 ⟨rfl, hb8⟩
  have hB8 := hB7.trans (hb8.mono hB7.size)
  go_wp2_with fail
  refine (D2.out _ (HE.out.below hB8)).mono ?_
  rintro e W9 ⟨rfl, hb9⟩
  have hB9 := hB8.trans (hb9.mono hB8.size)
  go_wp2_with fail
  refine (G3.out _ (HE.out.below hB9)).mono ?_
  rintro e W10 ⟨rfl, hb10⟩
  have hB10 := hB9.trans (hb10.mono hB9.size)
  go_wp2_with fail
  refine (P1.out _ (HE.out.below hB10)).mono ?_
  rintro e W11 ⟨rfl, hb11⟩
  have hB11 := hB10.trans (hb11.mono hB10.size)
  go_wp2_with fail
  refine (P2.out _ (HE.out.below hB11)).mono ?_
  rintro e W12 ⟨rfl, hb12⟩
  have hB12 := hB11.trans (hb12.mono hB11.size)
  go_wp2_with fail
  refine (G4.out _ (HE.out.below hB12)).mono ?_
  rintro e W13 ⟨rfl, hb13⟩
  have hB13 := hB12.trans (hb13.mono hB12.size)
  go_wp2_with fail
  refine (P3.out _ (HE.out.below hB13)).mono ?_
  rintro e W14 ⟨rfl, hb14⟩
  have hB14 := hB13.trans (hb14.mono hB13.size)
  go_wp2_with fail
  refine (C1.out _ (HE.out.below hB14)).mono ?_
  rintro e W15 ⟨rfl, hb15⟩
  have hB15 := hB14.trans (hb15.mono hB14.size)
  go_wp2_with fail
  go_ret
  exact ⟨rfl, hB15⟩
set_option maxRecDepth 100000 in
set_option maxHeartbeats 4000000 in
theorem common_xn (a b c : ByteArray) (x y z : Int) (w : World) (he : EnvW w) (bx : x.natAbs < 10 ^ 40) (by' : y.natAbs < 10 ^ 40) (bz : z.natAbs < 10 ^ 40) (h : x ≠ 0) (hz : z < 0)
    (Mx : ∀ V, EnvW V → Calls Tryz.prog 33 #[.string a, .int .i64 40] V fun e w' => e = .returned (.string (N3.S x)) ∧ Below V.heap.size V w')
    (My : ∀ V, EnvW V → Calls Tryz.prog 33 #[.string b, .int .i64 40] V fun e w' => e = .returned (.string (N3.S y)) ∧ Below V.heap.size V w')
    (Mz : ∀ V, EnvW V → Calls Tryz.prog 33 #[.string c, .int .i64 40] V fun e w' => e = .returned (.string (N3.S z)) ∧ Below V.heap.size V w') :
    Calls Tryz.prog 7 #[.string a, .string b, .string c] w fun e w' => e = .returned (.bool true) ∧ Below w.heap.size w w' := by
  have HE := Lib.hid he
  have F0 := Lib.hid (fun V (_ : EnvW V) => sane_true V ‹EnvW V›)
  have M1 := Lib.hid Mx
  have M2 := Lib.hid My
  have M3 := Lib.hid Mz
  have lx := N3.lim_of bx (by decide)
  have ly := N3.lim_of by' (by decide)
  have lz := N3.lim_of bz (by decide)
  have g0 := N3.gcdI_nonneg x y
  have gl := N3.gcd_natAbs_lt lx ly
  have gc := N3.gcdI_comm x y
  have c0 : ¬ N3.cmpI (N3.gcdI x y) 0 < 0 := by unfold N3.cmpI; (repeat' split) <;> omega
  have G1 := Lib.hid (fun V (hV : EnvW V) => gcd_s lx ly V hV)
  have G2 := Lib.hid (fun V (hV : EnvW V) => by have k := gcd_s ly lx V hV; rw [← gc] at k; exact k)
  have C := Lib.hid (fun V (hV : EnvW V) => by have k := compare_s gl lim0 V; rw [S_zero] at k; exact k)
  have h1 := S_nz7 h
  have hn : ¬ (x = 0 ∧ y = 0) := fun k => h k.1
  have gn : N3.gcdI x y ≠ 0 := fun k => hn (N3.gcdI_zero.1 k)
  have d1 := N3.gcdI_dvd_left x y
  have d2 := N3.gcdI_dvd_right x y
  have d3 := N3.gcdI_div hn
  have d4 := N3.gcdI_mul x y z
  have lxz := N3.lim_of (N3.natAbs_lt (k := 80) bx bz (by decide)) (by decide)
  have lyz := N3.lim_of (N3.natAbs_lt (k := 80) by' bz (by decide)) (by decide)
  have gz := N3.gcd_natAbs_lt lxz lyz
  rw [d4, Int.natAbs_natCast] at gz
  have lp : (x / N3.gcdI x y).natAbs < N3.lim := Nat.lt_of_le_of_lt (N3.div_natAbs_le _ _) lx
  have lq : (y / N3.gcdI x y).natAbs < N3.lim := Nat.lt_of_le_of_lt (N3.div_natAbs_le _ _) ly
  have sg : N3.gcdI x y * z < 0 := Int.mul_neg_of_pos_of_neg (by omega) hz
  have e1 : ((N3.gcdI x y * z).natAbs : Int) = 0 - N3.gcdI x y * z := by omega
  have c1 : N3.cmpI (N3.gcdI x y * z) 0 < 0 := (N3.cmpI_lt _ _).2 sg
  have D1 := Lib.hid (fun V (hV : EnvW V) => by have k := div_s lx gl gn V hV; rw [d1, S_zero] at k; exact k)
  have D2 := Lib.hid (fun V (hV : EnvW V) => by have k := div_s ly gl gn V hV; rw [d2, S_zero] at k; exact k)
  have G3 := Lib.hid (fun V (hV : EnvW V) => by have k := gcd_s lp lq V hV; rw [d3, S_one] at k; exact k)
  have P1 := Lib.hid (fun V (hV : EnvW V) => mul_s lx lz lxz V hV)
  have P2 := Lib.hid (fun V (hV : EnvW V) => mul_s ly lz lyz V hV)
  have G4 := Lib.hid (fun V (hV : EnvW V) => by have k := gcd_s lxz lyz V hV; rw [d4, e1] at k; exact k)
  have P3 := Lib.hid (fun V (hV : EnvW V) => mul_s gl lz gz V hV)
  have C1 := Lib.hid (fun V (hV : EnvW V) => by have k := compare_s gz lim0 V; rw [S_zero] at k; exact k)
  have Z := Lib.hid (fun V (hV : EnvW V) => by have k := sub_s lim0 gz (by omega) V hV; rw [S_zero] at k; exact k)
  generalize N3.S x = sx at *
  generalize N3.S y = sy at *
  generalize N3.S z = sz at *
  generalize N3.S (N3.gcdI x y) = sg' at *
  generalize N3.cmpI (N3.gcdI x y) 0 = k0 at *
  generalize N3.S (x / N3.gcdI x y) = sp at *
  generalize N3.S (y / N3.gcdI x y) = sq at *
  generalize N3.S (x * z) = sxz at *
  generalize N3.S (y * z) = syz at *
  generalize N3.S (N3.gcdI x y * z) = sgz at *
  generalize N3.cmpI (N3.gcdI x y * z) 0 = k1 at *
  generalize N3.S (0 - N3.gcdI x y * z) = ssz at *
  clear he bx by' bz lx ly lz g0 gl gc h hn gn d1 d2 d3 d4 lxz lyz gz lp lq sg e1 hz Mx My Mz
  go_enter Tryz.func7, Tryz.ntmps7
  go_wp2_with fail
  refine (F0.out _ HE.out).mono ?_
  rintro e W1 ⟨rfl, hb1⟩
  have hB1 := hb1
  go_wp2_with fail
  refine (M1.out _ (HE.out.below hB1)).mono ?_
  rintro e W2 ⟨rfl, hb2⟩
  have hB2 := hB1.trans (hb2.mono hB1.size)
  go_wp2_with fail
  refine (M2.out _ (HE.out.below hB2)).mono ?_
  rintro e W3 ⟨rfl, hb3⟩
  have hB3 := hB2.trans (hb3.mono hB2.size)
  go_wp2_with fail
  refine (M3.out _ (HE.out.below hB3)).mono ?_
  rintro e W4 ⟨rfl, hb4⟩
  have hB4 := hB3.trans (hb4.mono hB3.size)
  go_wp2_with fail
  refine (G1.out _ (HE.out.below hB4)).mono ?_
  rintro e W5 ⟨rfl, hb5⟩
  have hB5 := hB4.trans (hb5.mono hB4.size)
  go_wp2_with fail
  refine (G2.out _ (HE.out.below hB5)).mono ?_
  rintro e W6 ⟨rfl, hb6⟩
  have hB6 := hB5.trans (hb6.mono hB5.size)
  go_wp2_with fail
  refine (C.out _ (HE.out.below hB6)).mono ?_
  rintro e W7 ⟨rfl, hb7⟩
  have hB7 := hB6.trans (hb7.mono hB6.size)
  go_wp2_with fail
  refine (D1.out _ (HE.out.below hB7)).mono ?_
  rintro e W8 ⟨rfl, hb8⟩
  have hB8 := hB7.trans (hb8.mono hB7.size)
  go_wp2_with fail
  refine (D2.out _ (HE.out.below hB8)).mono ?_
  rintro e W9 ⟨rfl, hb9⟩
  have hB9 := hB8.trans (hb9.mono hB8.size)
  go_wp2_with fail
  refine (G3.out _ (HE.out.below hB9)).mono ?_
  rintro e W10 ⟨rfl, hb10⟩
  have hB10 := hB9.trans (hb10.mono hB9.size)
  go_wp2_with fail
  refine (P1.out _ (HE.out.below hB10)).mono ?_
  rintro e W11 ⟨rfl, hb11⟩
  have hB11 := hB10.trans (hb11.mono hB10.size)
  go_wp2_with fail
  refine (P2.out _ (HE.out.below hB11)).mono ?_
  rintro e W12 ⟨rfl, hb12⟩
  have hB12 := hB11.trans (hb12.mono hB11.size)
  go_wp2_with fail
  refine (G4.out _ (HE.out.below hB12)).mono ?_
  rintro e W13 ⟨rfl, hb13⟩
  have hB13 := hB12.trans (hb13.mono hB12.size)
  go_wp2_with fail
  refine (P3.out _ (HE.out.below hB13)).mono ?_
  rintro e W14 ⟨rfl, hb14⟩
  have hB14 := hB13.trans (hb14.mono hB13.size)
  go_wp2_with fail
  refine (C1.out _ (HE.out.below hB14)).mono ?_
  rintro e W15 ⟨rfl, hb15⟩
  have hB15 := hB14.trans (hb15.mono hB14.size)
  go_wp2_with fail
  refine (Z.out _ (HE.out.below hB15)).mono ?_
  rintro e W16 ⟨rfl, hb16⟩
  have hB16 := hB15.trans (hb16.mono hB15.size)
  go_wp2_with fail
  go_ret
  exact ⟨rfl, hB16⟩
set_option maxRecDepth 100000 in
set_option maxHeartbeats 4000000 in
theorem common_yp (a b c : ByteArray) (x y z : Int) (w : World) (he : EnvW w) (bx : x.natAbs < 10 ^ 40) (by' : y.natAbs < 10 ^ 40) (bz : z.natAbs < 10 ^ 40) (h : x = 0 ∧ y ≠ 0) (hz : 0 ≤ z)
    (Mx : ∀ V, EnvW V → Calls Tryz.prog 33 #[.string a, .int .i64 40] V fun e w' => e = .returned (.string (N3.S x)) ∧ Below V.heap.size V w')
    (My : ∀ V, EnvW V → Calls Tryz.prog 33 #[.string b, .int .i64 40] V fun e w' => e = .returned (.string (N3.S y)) ∧ Below V.heap.size V w')
    (Mz : ∀ V, EnvW V → Calls Tryz.prog 33 #[.string c, .int .i64 40] V fun e w' => e = .returned (.string (N3.S z)) ∧ Below V.heap.size V w') :
    Calls Tryz.prog 7 #[.string a, .string b, .string c] w fun e w' => e = .returned (.bool true) ∧ Below w.heap.size w w' := by
  have HE := Lib.hid he
  have F0 := Lib.hid (fun V (_ : EnvW V) => sane_true V ‹EnvW V›)
  have M1 := Lib.hid Mx
  have M2 := Lib.hid My
  have M3 := Lib.hid Mz
  have lx := N3.lim_of bx (by decide)
  have ly := N3.lim_of by' (by decide)
  have lz := N3.lim_of bz (by decide)
  have g0 := N3.gcdI_nonneg x y
  have gl := N3.gcd_natAbs_lt lx ly
  have gc := N3.gcdI_comm x y
  have c0 : ¬ N3.cmpI (N3.gcdI x y) 0 < 0 := by unfold N3.cmpI; (repeat' split) <;> omega
  have G1 := Lib.hid (fun V (hV : EnvW V) => gcd_s lx ly V hV)
  have G2 := Lib.hid (fun V (hV : EnvW V) => by have k := gcd_s ly lx V hV; rw [← gc] at k; exact k)
  have C := Lib.hid (fun V (hV : EnvW V) => by have k := compare_s gl lim0 V; rw [S_zero] at k; exact k)
  have h1 := S_z7 h.1
  have h2 := S_nz7 h.2
  have hn : ¬ (x = 0 ∧ y = 0) := fun k => h.2 k.2
  have gn : N3.gcdI x y ≠ 0 := fun k => hn (N3.gcdI_zero.1 k)
  have d1 := N3.gcdI_dvd_left x y
  have d2 := N3.gcdI_dvd_right x y
  have d3 := N3.gcdI_div hn
  have d4 := N3.gcdI_mul x y z
  have lxz := N3.lim_of (N3.natAbs_lt (k := 80) bx bz (by decide)) (by decide)
  have lyz := N3.lim_of (N3.natAbs_lt (k := 80) by' bz (by decide)) (by decide)
  have gz := N3.gcd_natAbs_lt lxz lyz
  rw [d4, Int.natAbs_natCast] at gz
  have lp : (x / N3.gcdI x y).natAbs < N3.lim := Nat.lt_of_le_of_lt (N3.div_natAbs_le _ _) lx
  have lq : (y / N3.gcdI x y).natAbs < N3.lim := Nat.lt_of_le_of_lt (N3.div_natAbs_le _ _) ly
  have sg : 0 ≤ N3.gcdI x y * z := Int.mul_nonneg g0 hz
  have e1 : ((N3.gcdI x y * z).natAbs : Int) = N3.gcdI x y * z := by omega
  have c1 : ¬ N3.cmpI (N3.gcdI x y * z) 0 < 0 := fun k => by have := (N3.cmpI_lt _ _).1 k; omega
  have D1 := Lib.hid (fun V (hV : EnvW V) => by have k := div_s lx gl gn V hV; rw [d1, S_zero] at k; exact k)
  have D2 := Lib.hid (fun V (hV : EnvW V) => by have k := div_s ly gl gn V hV; rw [d2, S_zero] at k; exact k)
  have G3 := Lib.hid (fun V (hV : EnvW V) => by have k := gcd_s lp lq V hV; rw [d3, S_one] at k; exact k)
  have P1 := Lib.hid (fun V (hV : EnvW V) => mul_s lx lz lxz V hV)
  have P2 := Lib.hid (fun V (hV : EnvW V) => mul_s ly lz lyz V hV)
  have G4 := Lib.hid (fun V (hV : EnvW V) => by have k := gcd_s lxz lyz V hV; rw [d4, e1] at k; exact k)
  have P3 := Lib.hid (fun V (hV : EnvW V) => mul_s gl lz gz V hV)
  have C1 := Lib.hid (fun V (hV : EnvW V) => by have k := compare_s gz lim0 V; rw [S_zero] at k; exact k)
  generalize N3.S x = sx at *
  generalize N3.S y = sy at *
  generalize N3.S z = sz at *
  generalize N3.S (N3.gcdI x y) = sg' at *
  generalize N3.cmpI (N3.gcdI x y) 0 = k0 at *
  generalize N3.S (x / N3.gcdI x y) = sp at *
  generalize N3.S (y / N3.gcdI x y) = sq at *
  generalize N3.S (x * z) = sxz at *
  generalize N3.S (y * z) = syz at *
  generalize N3.S (N3.gcdI x y * z) = sgz at *
  generalize N3.cmpI (N3.gcdI x y * z) 0 = k1 at *
  clear he bx by' bz lx ly lz g0 gl gc h hn gn d1 d2 d3 d4 lxz lyz gz lp lq sg e1 hz Mx My Mz
  go_enter Tryz.func7, Tryz.ntmps7
  go_wp2_with fail
  refine (F0.out _ HE.out).mono ?_
  rintro e W1 ⟨rfl, hb1⟩
  have hB1 := hb1
  go_wp2_with fail
  refine (M1.out _ (HE.out.below hB1)).mono ?_
  rintro e W2 ⟨rfl, hb2⟩
  have hB2 := hB1.trans (hb2.mono hB1.size)
  go_wp2_with fail
  refine (M2.out _ (HE.out.below hB2)).mono ?_
  rintro e W3 ⟨rfl, hb3⟩
  have hB3 := hB2.trans (hb3.mono hB2.size)
  go_wp2_with fail
  refine (M3.out _ (HE.out.below hB3)).mono ?_
  rintro e W4 ⟨rfl, hb4⟩
  have hB4 := hB3.trans (hb4.mono hB3.size)
  go_wp2_with fail
  refine (G1.out _ (HE.out.below hB4)).mono ?_
  rintro e W5 ⟨rfl, hb5⟩
  have hB5 := hB4.trans (hb5.mono hB4.size)
  go_wp2_with fail
  refine (G2.out _ (HE.out.below hB5)).mono ?_
  rintro e W6 ⟨rfl, hb6⟩
  have hB6 := hB5.trans (hb6.mono hB5.size)
  go_wp2_with fail
  refine (C.out _ (HE.out.below hB6)).mono ?_
  rintro e W7 ⟨rfl, hb7⟩
  have hB7 := hB6.trans (hb7.mono hB6.size)
  go_wp2_with fail
  refine (D1.out _ (HE.out.below hB7)).mono ?_
  rintro e W8 ⟨rfl, hb8⟩
  have hB8 := hB7.trans (hb8.mono hB7.size)
  go_wp2_with fail
  refine (D2.out _ (HE.out.below hB8)).mono ?_
  rintro e W9 ⟨rfl, hb9⟩
  have hB9 := hB8.trans (hb9.mono hB8.size)
  go_wp2_with fail
  refine (G3.out _ (HE.out.below hB9)).mono ?_
  rintro e W10 ⟨rfl, hb10⟩
  have hB10 := hB9.trans (hb10.mono hB9.size)
  go_wp2_with fail
  refine (P1.out _ (HE.out.below hB10)).mono ?_
  rintro e W11 ⟨rfl, hb11⟩
  have hB11 := hB10.trans (hb11.mono hB10.size)
  go_wp2_with fail
  refine (P2.out _ (HE.out.below hB11)).mono ?_
  rintro e W12 ⟨rfl, hb12⟩
  have hB12 := hB11.trans (hb12.mono hB11.size)
  go_wp2_with fail
  refine (G4.out _ (HE.out.below hB12)).mono ?_
  rintro e W13 ⟨rfl, hb13⟩
  have hB13 := hB12.trans (hb13.mono hB12.size)
  go_wp2_with fail
  refine (P3.out _ (HE.out.below hB13)).mono ?_
  rintro e W14 ⟨rfl, hb14⟩
  have hB14 := hB13.trans (hb14.mono hB13.size)
  go_wp2_with fail
  refine (C1.out _ (HE.out.below hB14)).mono ?_
  rintro e W15 ⟨rfl, hb15⟩
  have hB15 := hB14.trans (hb15.mono hB14.size)
  go_wp2_with fail
  go_ret
  exact ⟨rfl, hB15⟩
set_option maxRecDepth 100000 in
set_option maxHeartbeats 4000000 in
theorem common_yn (a b c : ByteArray) (x y z : Int) (w : World) (he : EnvW w) (bx : x.natAbs < 10 ^ 40) (by' : y.natAbs < 10 ^ 40) (bz : z.natAbs < 10 ^ 40) (h : x = 0 ∧ y ≠ 0) (hz : z < 0)
    (Mx : ∀ V, EnvW V → Calls Tryz.prog 33 #[.string a, .int .i64 40] V fun e w' => e = .returned (.string (N3.S x)) ∧ Below V.heap.size V w')
    (My : ∀ V, EnvW V → Calls Tryz.prog 33 #[.string b, .int .i64 40] V fun e w' => e = .returned (.string (N3.S y)) ∧ Below V.heap.size V w')
    (Mz : ∀ V, EnvW V → Calls Tryz.prog 33 #[.string c, .int .i64 40] V fun e w' => e = .returned (.string (N3.S z)) ∧ Below V.heap.size V w') :
    Calls Tryz.prog 7 #[.string a, .string b, .string c] w fun e w' => e = .returned (.bool true) ∧ Below w.heap.size w w' := by
  have HE := Lib.hid he
  have F0 := Lib.hid (fun V (_ : EnvW V) => sane_true V ‹EnvW V›)
  have M1 := Lib.hid Mx
  have M2 := Lib.hid My
  have M3 := Lib.hid Mz
  have lx := N3.lim_of bx (by decide)
  have ly := N3.lim_of by' (by decide)
  have lz := N3.lim_of bz (by decide)
  have g0 := N3.gcdI_nonneg x y
  have gl := N3.gcd_natAbs_lt lx ly
  have gc := N3.gcdI_comm x y
  have c0 : ¬ N3.cmpI (N3.gcdI x y) 0 < 0 := by unfold N3.cmpI; (repeat' split) <;> omega
  have G1 := Lib.hid (fun V (hV : EnvW V) => gcd_s lx ly V hV)
  have G2 := Lib.hid (fun V (hV : EnvW V) => by have k := gcd_s ly lx V hV; rw [← gc] at k; exact k)
  have C := Lib.hid (fun V (hV : EnvW V) => by have k := compare_s gl lim0 V; rw [S_zero] at k; exact k)
  have h1 := S_z7 h.1
  have h2 := S_nz7 h.2
  have hn : ¬ (x = 0 ∧ y = 0) := fun k => h.2 k.2
  have gn : N3.gcdI x y ≠ 0 := fun k => hn (N3.gcdI_zero.1 k)
  have d1 := N3.gcdI_dvd_left x y
  have d2 := N3.gcdI_dvd_right x y
  have d3 := N3.gcdI_div hn
  have d4 := N3.gcdI_mul x y z
  have lxz := N3.lim_of (N3.natAbs_lt (k := 80) bx bz (by decide)) (by decide)
  have lyz := N3.lim_of (N3.natAbs_lt (k := 80) by' bz (by decide)) (by decide)
  have gz := N3.gcd_natAbs_lt lxz lyz
  rw [d4, Int.natAbs_natCast] at gz
  have lp : (x / N3.gcdI x y).natAbs < N3.lim := Nat.lt_of_le_of_lt (N3.div_natAbs_le _ _) lx
  have lq : (y / N3.gcdI x y).natAbs < N3.lim := Nat.lt_of_le_of_lt (N3.div_natAbs_le _ _) ly
  have sg : N3.gcdI x y * z < 0 := Int.mul_neg_of_pos_of_neg (by omega) hz
  have e1 : ((N3.gcdI x y * z).natAbs : Int) = 0 - N3.gcdI x y * z := by omega
  have c1 : N3.cmpI (N3.gcdI x y * z) 0 < 0 := (N3.cmpI_lt _ _).2 sg
  have D1 := Lib.hid (fun V (hV : EnvW V) => by have k := div_s lx gl gn V hV; rw [d1, S_zero] at k; exact k)
  have D2 := Lib.hid (fun V (hV : EnvW V) => by have k := div_s ly gl gn V hV; rw [d2, S_zero] at k; exact k)
  have G3 := Lib.hid (fun V (hV : EnvW V) => by have k := gcd_s lp lq V hV; rw [d3, S_one] at k; exact k)
  have P1 := Lib.hid (fun V (hV : EnvW V) => mul_s lx lz lxz V hV)
  have P2 := Lib.hid (fun V (hV : EnvW V) => mul_s ly lz lyz V hV)
  have G4 := Lib.hid (fun V (hV : EnvW V) => by have k := gcd_s lxz lyz V hV; rw [d4, e1] at k; exact k)
  have P3 := Lib.hid (fun V (hV : EnvW V) => mul_s gl lz gz V hV)
  have C1 := Lib.hid (fun V (hV : EnvW V) => by have k := compare_s gz lim0 V; rw [S_zero] at k; exact k)
  have Z := Lib.hid (fun V (hV : EnvW V) => by have k := sub_s lim0 gz (by omega) V hV; rw [S_zero] at k; exact k)
  generalize N3.S x = sx at *
  generalize N3.S y = sy at *
  generalize N3.S z = sz at *
  generalize N3.S (N3.gcdI x y) = sg' at *
  generalize N3.cmpI (N3.gcdI x y) 0 = k0 at *
  generalize N3.S (x / N3.gcdI x y) = sp at *
  generalize N3.S (y / N3.gcdI x y) = sq at *
  generalize N3.S (x * z) = sxz at *
  generalize N3.S (y * z) = syz at *
  generalize N3.S (N3.gcdI x y * z) = sgz at *
  generalize N3.cmpI (N3.gcdI x y * z) 0 = k1 at *
  generalize N3.S (0 - N3.gcdI x y * z) = ssz at *
  clear he bx by' bz lx ly lz g0 gl gc h hn gn d1 d2 d3 d4 lxz lyz gz lp lq sg e1 hz Mx My Mz
  go_enter Tryz.func7, Tryz.ntmps7
  go_wp2_with fail
  refine (F0.out _ HE.out).mono ?_
  rintro e W1 ⟨rfl, hb1⟩
  have hB1 := hb1
  go_wp2_with fail
  refine (M1.out _ (HE.out.below hB1)).mono ?_
  rintro e W2 ⟨rfl, hb2⟩
  have hB2 := hB1.trans (hb2.mono hB1.size)
  go_wp2_with fail
  refine (M2.out _ (HE.out.below hB2)).mono ?_
  rintro e W3 ⟨rfl, hb3⟩
  have hB3 := hB2.trans (hb3.mono hB2.size)
  go_wp2_with fail
  refine (M3.out _ (HE.out.below hB3)).mono ?_
  rintro e W4 ⟨rfl, hb4⟩
  have hB4 := hB3.trans (hb4.mono hB3.size)
  go_wp2_with fail
  refine (G1.out _ (HE.out.below hB4)).mono ?_
  rintro e W5 ⟨rfl, hb5⟩
  have hB5 := hB4.trans (hb5.mono hB4.size)
  go_wp2_with fail
  refine (G2.out _ (HE.out.below hB5)).mono ?_
  rintro e W6 ⟨rfl, hb6⟩
  have hB6 := hB5.trans (hb6.mono hB5.size)
  go_wp2_with fail
  refine (C.out _ (HE.out.below hB6)).mono ?_
  rintro e W7 ⟨rfl, hb7⟩
  have hB7 := hB6.trans (hb7.mono hB6.size)
  go_wp2_with fail
  refine (D1.out _ (HE.out.below hB7)).mono ?_
  rintro e W8 ⟨rfl, hb8⟩
  have hB8 := hB7.trans (hb8.mono hB7.size)
  go_wp2_with fail
  refine (D2.out _ (HE.out.below hB8)).mono ?_
  rintro e W9 ⟨rfl, hb9⟩
  have hB9 := hB8.trans (hb9.mono hB8.size)
  go_wp2_with fail
  refine (G3.out _ (HE.out.below hB9)).mono ?_
  rintro e W10 ⟨rfl, hb10⟩
  have hB10 := hB9.trans (hb10.mono hB9.size)
  go_wp2_with fail
  refine (P1.out _ (HE.out.below hB10)).mono ?_
  rintro e W11 ⟨rfl, hb11⟩
  have hB11 := hB10.trans (hb11.mono hB10.size)
  go_wp2_with fail
  refine (P2.out _ (HE.out.below hB11)).mono ?_
  rintro e W12 ⟨rfl, hb12⟩
  have hB12 := hB11.trans (hb12.mono hB11.size)
  go_wp2_with fail
  refine (G4.out _ (HE.out.below hB12)).mono ?_
  rintro e W13 ⟨rfl, hb13⟩
  have hB13 := hB12.trans (hb13.mono hB12.size)
  go_wp2_with fail
  refine (P3.out _ (HE.out.below hB13)).mono ?_
  rintro e W14 ⟨rfl, hb14⟩
  have hB14 := hB13.trans (hb14.mono hB13.size)
  go_wp2_with fail
  refine (C1.out _ (HE.out.below hB14)).mono ?_
  rintro e W15 ⟨rfl, hb15⟩
  have hB15 := hB14.trans (hb15.mono hB14.size)
  go_wp2_with fail
  refine (Z.out _ (HE.out.below hB15)).mono ?_
  rintro e W16 ⟨rfl, hb16⟩
  have hB16 := hB15.trans (hb16.mono hB15.size)
  go_wp2_with fail
  go_ret
  exact ⟨rfl, hB16⟩
theorem law_common (a b c : ByteArray) (w : World) (ha : a.size ≤ 9223372036854775807) (hb : b.size ≤ 9223372036854775807) (hc : c.size ≤ 9223372036854775807) (he : EnvW w) :
    Calls Tryz.prog 7 #[.string a, .string b, .string c] w fun e w' => e = .returned (.bool true) ∧ Below w.heap.size w w' := by
  have Ma := fun V (_ : EnvW V) => made_any a 40 V (by decide) ha
  have Mb := fun V (_ : EnvW V) => made_any b 40 V (by decide) hb
  have Mc := fun V (_ : EnvW V) => made_any c 40 V (by decide) hc
  by_cases hx : madeV a 40 = 0
  · by_cases hy : madeV b 40 = 0
    · exact common_zero a b c _ _ _ w he (madeV_lt a 40) (madeV_lt b 40) (madeV_lt c 40) ⟨hx, hy⟩ Ma Mb Mc
    · rcases Int.lt_or_le (madeV c 40) 0 with hz | hz
      · exact common_yn a b c _ _ _ w he (madeV_lt a 40) (madeV_lt b 40) (madeV_lt c 40) ⟨hx, hy⟩ hz Ma Mb Mc
      · exact common_yp a b c _ _ _ w he (madeV_lt a 40) (madeV_lt b 40) (madeV_lt c 40) ⟨hx, hy⟩ hz Ma Mb Mc
  · rcases Int.lt_or_le (madeV c 40) 0 with hz | hz
    · exact common_xn a b c _ _ _ w he (madeV_lt a 40) (madeV_lt b 40) (madeV_lt c 40) hx hz Ma Mb Mc
    · exact common_xp a b c _ _ _ w he (madeV_lt a 40) (madeV_lt b 40) (madeV_lt c 40) hx hz Ma Mb Mc
end Go.Proofs.YtjnpenljgfdaiaaGreatDoor

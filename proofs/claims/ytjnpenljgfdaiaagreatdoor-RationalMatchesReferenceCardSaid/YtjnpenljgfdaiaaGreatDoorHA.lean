/- package nadirref04's inputs: pick, Make, Of, Small, Long. -/
import Derived.Test.YtjnpenljgfdaiaaGreatDoorPK
import Derived.Deep.RegionHeld3
/- package nadirref04: pick, Make, Of. -/
namespace Go.Proofs.YtjnpenljgfdaiaaGreatDoor
open Go.RowKit Go.Shelf Lib

set_option maxRecDepth 100000 in
theorem pick76 (c n : Int) (w : World) (h0 : -9223372036854775808 ≤ c) (h1 : c ≤ 9223372036854775807) (hn : 0 < n) (hn1 : n ≤ 9223372036854775807) :
    Calls Tryz.prog 76 #[.int .i64 c, .int .i64 n] w fun e w' => e = .returned (.int .i64 (pickN c n)) ∧ w = w' := by
  have hb := pickN_bd c hn
  have hnz : (n == 0) = false := beq_eq_false_iff_ne.2 (by omega)
  have hnz2 : ¬ n = 0 := by omega
  by_cases h : c < 0
  · have hw1 : IntKind.i64.wrap (c + 1) = c + 1 := by rw [IntKind.wrap_i64]; omega
    have hw2 : IntKind.i64.wrap (-(c + 1)) = -(c + 1) := by rw [IntKind.wrap_i64]; omega
    have e : pickN c n = -(Int.tmod (c + 1) n) := by unfold pickN; rw [if_pos h, ← Int.neg_tmod]; exact (Int.tmod_eq_emod_of_nonneg (by omega)).symm
    rw [e] at hb
    have hw3 : IntKind.i64.wrap (-(Int.tmod (c + 1) n)) = -(Int.tmod (c + 1) n) := by rw [IntKind.wrap_i64]; omega
    rw [e]
    clear hb e
    go_enter Tryz.func76, Tryz.ntmps76
    go_wp2
    go_ret
    exact ⟨rfl, rfl⟩
  · have e : pickN c n = c % n := by unfold pickN; rw [if_neg h]
    rw [e] at hb
    have hw3 : IntKind.i64.wrap (c % n) = c % n := by rw [IntKind.wrap_i64]; omega
    rw [e]
    clear e hb
    go_enter Tryz.func76, Tryz.ntmps76
    go_wp2
    go_ret
    exact ⟨rfl, rfl⟩
section
variable {x y : Int} (hx : x.natAbs < N3.lim) (hy : y.natAbs < N3.lim)
include hx
theorem valid10_S (w : World) : Calls Tryz.prog 53 #[.string (N3.S x)] w fun e w' => e = .returned (.bool true) ∧ w = w' := by
  have k := valid10 (N3.S x) w (by have := S_size hx; omega)
  rw [N3.okS_S hx] at k; exact k
theorem sub10_0 (w : World) : Calls Tryz.prog 46 #[.string ⟨#[48]⟩, .string (N3.S x)] w fun e w' => e = .returned (.tuple #[.string (N3.S (-x)), .int .i64 0]) ∧ Below w.heap.size w w' := by
  have k := sub10 ⟨#[48]⟩ (N3.S x) w (by decide) (by have := S_size hx; omega)
  have h : (-x).natAbs < N3.lim := by rw [Int.natAbs_neg]; exact hx
  rw [sub0_S hx, N3.outS_some h, N3.outE_some h] at k; exact k
include hy
omit hx in
theorem compare10_0 (w : World) : Calls Tryz.prog 54 #[.string (N3.S y), .string ⟨#[48]⟩] w fun e w' => e = .returned (.int .i64 (N3.cmpI y 0)) ∧ Below w.heap.size w w' := by
  have k := compare10 (N3.S y) ⟨#[48]⟩ w (by have := S_size hy; omega) (by decide)
  rw [show N3.cmpS (N3.S y) ⟨#[48]⟩ = N3.cmpI y 0 from by rw [← S_zero, N3.cmpS_S hy lim0]] at k; exact k
theorem gcd10_S (w : World) : Calls Tryz.prog 49 #[.string (N3.S x), .string (N3.S y)] w fun e w' => e = .returned (.tuple #[.string (N3.S (N3.gcdI x y)), .int .i64 0]) ∧ Below w.heap.size w w' := by
  have k := gcd10 (N3.S x) (N3.S y) w (by have := S_size hx; omega) (by have := S_size hy; omega)
  have h := N3.gcd_natAbs_lt hx hy
  rw [N3.gcdO_S hx hy, N3.outS_some h, N3.outE_some h] at k; exact k
theorem div10_S (h0 : y ≠ 0) (w : World) : Calls Tryz.prog 48 #[.string (N3.S x), .string (N3.S y)] w fun e w' => e = .returned (.tuple #[.string (N3.S (x / y)), .string (N3.S (x % y)), .int .i64 0]) ∧ Below w.heap.size w w' := by
  have k := div10 (N3.S x) (N3.S y) w (by have := S_size hx; omega) (by have := S_size hy; omega)
  have h1 : (x / y).natAbs < N3.lim := Nat.lt_of_le_of_lt (N3.div_natAbs_le _ _) hx
  have h2 : (x % y).natAbs < N3.lim := Nat.lt_trans (N3.mod_natAbs_lt h0) hy
  rw [N3.quoO_S hx hy h0, N3.remO_S hx hy h0, N3.outS_some h1, N3.outE_some h1, N3.outS_some h2] at k; exact k
end

set_option maxRecDepth 100000 in
set_option maxHeartbeats 4000000 in
theorem make72_S {x y : Int} (hx : x.natAbs < N3.lim) (hy : y.natAbs < N3.lim) (h0 : y ≠ 0) (w : World) :
    Calls Tryz.prog 72 #[.string (N3.S x), .string (N3.S y)] w fun r w' => r = .returned (.tuple #[ratV (strR (N3.mk x y)).1 (strR (N3.mk x y)).2, .int .i64 0]) ∧ Below w.heap.size w w' := by
  obtain ⟨W, hW⟩ : ∃ W, w.alloc (.cells #[.string ⟨#[]⟩, .string ⟨#[]⟩] 26) = W := ⟨_, rfl⟩
  have hB0 : Below w.heap.size w W := hW ▸ (Below.refl _ _).alloc (Nat.le_refl _) _
  have hb : BlkT W w.heap.size #[.string ⟨#[]⟩, .string ⟨#[]⟩] 26 := hW ▸ BlkT.newAt _ _ _ rfl
  by_cases hneg : y < 0
  · have hg := N3.gcd_natAbs_lt (x := (-x)) (y := (-y)) (by rw [Int.natAbs_neg]; exact hx) (by rw [Int.natAbs_neg]; exact hy)
    have hg0 : N3.gcdI (-x) (-y) ≠ 0 := fun e => h0 (by have := (N3.gcdI_zero.1 e).2; omega)
    have hmk : strR (N3.mk x y) = (N3.S ((-x) / N3.gcdI (-x) (-y)), N3.S ((-y) / N3.gcdI (-x) (-y))) := by
      unfold strR N3.mk N3.gcdI
      simp only [Int.natAbs_neg, if_pos hneg]
    have VN := Lib.hid (fun V => valid10_S hx V)
    have VD := Lib.hid (fun V => valid10_S hy V)
    have CC := Lib.hid (fun V => compare10_0 hy V)
    have S1 := Lib.hid (fun V => sub10_0 hx V)
    have S2 := Lib.hid (fun V => sub10_0 hy V)
    have GG := Lib.hid (fun V => gcd10_S (x := (-x)) (y := (-y)) (by rw [Int.natAbs_neg]; exact hx) (by rw [Int.natAbs_neg]; exact hy) V)
    have D1 := Lib.hid (fun V => div10_S (x := (-x)) (y := N3.gcdI (-x) (-y)) (by rw [Int.natAbs_neg]; exact hx) hg hg0 V)
    have D2 := Lib.hid (fun V => div10_S (x := (-y)) (y := N3.gcdI (-x) (-y)) (by rw [Int.natAbs_neg]; exact hy) hg hg0 V)
    have hst := str_ne48 (fun e => h0 (S_eq48.1 e))
    have hz : N3.cmpI y 0 < 0 := (N3.cmpI_lt y 0).2 hneg
    rw [hmk]
    generalize N3.cmpI y 0 = z at *
    generalize N3.gcdI (-x) (-y) = g at *
    generalize N3.S ((-x) / g) = q1 at *
    generalize N3.S ((-y) / g) = q2 at *
    generalize N3.S ((-x) % g) = r1 at *
    generalize N3.S ((-y) % g) = r2 at *
    generalize N3.S (-x) = snx at *
    generalize N3.S (-y) = sny at *
    generalize N3.S x = sx at *
    generalize N3.S y = sy at *
    generalize N3.S g = sgg at *
    clear hmk hg hg0 hneg h0 hx hy
    have hk0 := hb
    go_enter Tryz.func72, Tryz.ntmps72
    go_wp2_with (simp only [hW])
    refine (VN.out _).mono ?_
    rintro r V ⟨rfl, rfl⟩
    go_wp2_with fail
    refine (VD.out _).mono ?_
    rintro r V ⟨rfl, rfl⟩
    go_wp2_with fail
    refine (CC.out _).mono ?_
    rintro r V1 ⟨rfl, hb1⟩
    have hB1 := hB0.trans (hb1.mono hB0.size)
    have hk1 := BlkT.keep hk0 hb1
    go_wp2_with fail
    refine (S1.out _).mono ?_
    rintro r V2 ⟨rfl, hb2⟩
    have hB2 := hB1.trans (hb2.mono hB1.size)
    have hk2 := BlkT.keep hk1 hb2
    go_wp2_with fail
    refine (S2.out _).mono ?_
    rintro r V3 ⟨rfl, hb3⟩
    have hB3 := hB2.trans (hb3.mono hB2.size)
    have hk3 := BlkT.keep hk2 hb3
    go_wp2_with fail
    refine (GG.out _).mono ?_
    rintro r V4 ⟨rfl, hb4⟩
    have hB4 := hB3.trans (hb4.mono hB3.size)
    have hk4 := BlkT.keep hk3 hb4
    go_wp2_with fail
    refine (D1.out _).mono ?_
    rintro r V5 ⟨rfl, hb5⟩
    have hB5 := hB4.trans (hb5.mono hB4.size)
    have hk5 := BlkT.keep hk4 hb5
    go_wp2_with fail
    refine (D2.out _).mono ?_
    rintro r V6 ⟨rfl, hb6⟩
    have hB6 := hB5.trans (hb6.mono hB5.size)
    have hk6 := BlkT.keep hk5 hb6
    have x0 := hk6.cell 0
    have x1 := hk6.cell 1
    have f0 := hk6.frozen 0
    have f1 := hk6.frozen 1
    simp only [List.getElem?_toArray, List.getElem?_cons_succ, List.getElem?_cons_zero] at x0 x1
    have HK := Lib.hid hk6
    go_wp2_with fail
    have hz : BlkT _ _ #[.string q1, .string q2] 26 := (HK.out.set 0 (.string q1)).set 1 (.string q2)
    have z0 := hz.cell 0
    have z1 := hz.cell 1
    simp only [List.getElem?_toArray, List.getElem?_cons_succ, List.getElem?_cons_zero] at z0 z1
    refine bodyPost_ret (v := .tuple #[ratV q1 q2, .int .i64 0]) (by simp [results, Tryz.results72, go_sem, z0, z1]) rfl ?_
    exact ⟨rfl, (hB6.setCell (Nat.le_refl _) _).setCell (Nat.le_refl _) _⟩
  · have hg := N3.gcd_natAbs_lt (x := x) (y := y) hx hy
    have hg0 : N3.gcdI x y ≠ 0 := fun e => h0 (by have := (N3.gcdI_zero.1 e).2; omega)
    have hmk : strR (N3.mk x y) = (N3.S (x / N3.gcdI x y), N3.S (y / N3.gcdI x y)) := by
      unfold strR N3.mk N3.gcdI
      simp only [if_neg hneg]
    have VN := Lib.hid (fun V => valid10_S hx V)
    have VD := Lib.hid (fun V => valid10_S hy V)
    have CC := Lib.hid (fun V => compare10_0 hy V)
    have GG := Lib.hid (fun V => gcd10_S (x := x) (y := y) hx hy V)
    have D1 := Lib.hid (fun V => div10_S (x := x) (y := N3.gcdI x y) hx hg hg0 V)
    have D2 := Lib.hid (fun V => div10_S (x := y) (y := N3.gcdI x y) hy hg hg0 V)
    have hst := str_ne48 (fun e => h0 (S_eq48.1 e))
    have hz : ¬ N3.cmpI y 0 < 0 := fun k => hneg ((N3.cmpI_lt y 0).1 k)
    have hz2 : 0 ≤ N3.cmpI y 0 := Int.not_lt.1 hz
    rw [hmk]
    generalize N3.cmpI y 0 = z at *
    generalize N3.gcdI x y = g at *
    generalize N3.S (x / g) = q1 at *
    generalize N3.S (y / g) = q2 at *
    generalize N3.S (x % g) = r1 at *
    generalize N3.S (y % g) = r2 at *
    generalize N3.S x = sx at *
    generalize N3.S y = sy at *
    generalize N3.S g = sgg at *
    clear hmk hg hg0 hneg h0 hx hy
    have hk0 := hb
    go_enter Tryz.func72, Tryz.ntmps72
    go_wp2_with (simp only [hW])
    refine (VN.out _).mono ?_
    rintro r V ⟨rfl, rfl⟩
    go_wp2_with fail
    refine (VD.out _).mono ?_
    rintro r V ⟨rfl, rfl⟩
    go_wp2_with fail
    refine (CC.out _).mono ?_
    rintro r V1 ⟨rfl, hb1⟩
    have hB1 := hB0.trans (hb1.mono hB0.size)
    have hk1 := BlkT.keep hk0 hb1
    go_wp2_with fail
    refine (GG.out _).mono ?_
    rintro r V2 ⟨rfl, hb2⟩
    have hB2 := hB1.trans (hb2.mono hB1.size)
    have hk2 := BlkT.keep hk1 hb2
    go_wp2_with fail
    refine (D1.out _).mono ?_
    rintro r V3 ⟨rfl, hb3⟩
    have hB3 := hB2.trans (hb3.mono hB2.size)
    have hk3 := BlkT.keep hk2 hb3
    go_wp2_with fail
    refine (D2.out _).mono ?_
    rintro r V4 ⟨rfl, hb4⟩
    have hB4 := hB3.trans (hb4.mono hB3.size)
    have hk4 := BlkT.keep hk3 hb4
    have x0 := hk4.cell 0
    have x1 := hk4.cell 1
    have f0 := hk4.frozen 0
    have f1 := hk4.frozen 1
    simp only [List.getElem?_toArray, List.getElem?_cons_succ, List.getElem?_cons_zero] at x0 x1
    have HK := Lib.hid hk4
    go_wp2_with fail
    have hz : BlkT _ _ #[.string q1, .string q2] 26 := (HK.out.set 0 (.string q1)).set 1 (.string q2)
    have z0 := hz.cell 0
    have z1 := hz.cell 1
    simp only [List.getElem?_toArray, List.getElem?_cons_succ, List.getElem?_cons_zero] at z0 z1
    refine bodyPost_ret (v := .tuple #[ratV q1 q2, .int .i64 0]) (by simp [results, Tryz.results72, go_sem, z0, z1]) rfl ?_
    exact ⟨rfl, (hB4.setCell (Nat.le_refl _) _).setCell (Nat.le_refl _) _⟩
set_option maxRecDepth 100000 in
set_option maxHeartbeats 4000000 in
theorem make72_bad (n d : ByteArray) (w : World) (hn : n.size ≤ 1000000) (hd : d.size ≤ 1000000) (hbad : N3.okS n = false ∨ N3.okS d = false ∨ d.data.toList = [48]) :
    Calls Tryz.prog 72 #[.string n, .string d] w fun r w' => r = .returned (.tuple #[ratV ⟨#[]⟩ ⟨#[]⟩, .int .i64 40]) ∧ Below w.heap.size w w' := by
  obtain ⟨W, hW⟩ : ∃ W, w.alloc (.cells #[.string ⟨#[]⟩, .string ⟨#[]⟩] 26) = W := ⟨_, rfl⟩
  have hB0 : Below w.heap.size w W := hW ▸ (Below.refl _ _).alloc (Nat.le_refl _) _
  have hb : BlkT W w.heap.size #[.string ⟨#[]⟩, .string ⟨#[]⟩] 26 := hW ▸ BlkT.newAt _ _ _ rfl
  have VN := Lib.hid (fun V => valid10 n V (by omega))
  have VD := Lib.hid (fun V => valid10 d V (by omega))
  cases h1 : N3.okS n with
  | false =>
    rw [h1] at VN
    clear h1 hbad
    generalize N3.okS d = bd at *
    have x0 := hb.cell 0
    have x1 := hb.cell 1
    have f0 := hb.frozen 0
    have f1 := hb.frozen 1
    simp only [List.getElem?_toArray, List.getElem?_cons_succ, List.getElem?_cons_zero] at x0 x1
    have HK := Lib.hid hb
    go_enter Tryz.func72, Tryz.ntmps72
    go_wp2_with (simp only [hW])
    refine (VN.out _).mono ?_
    rintro r V ⟨rfl, rfl⟩
    go_wp2_with fail
    refine (VD.out _).mono ?_
    rintro r V ⟨rfl, rfl⟩
    go_wp2_with fail
    have hz : BlkT _ _ #[.string ⟨#[]⟩, .string ⟨#[]⟩] 26 := (HK.out.set 0 (.string ⟨#[]⟩)).set 1 (.string ⟨#[]⟩)
    have z0 := hz.cell 0
    have z1 := hz.cell 1
    simp only [List.getElem?_toArray, List.getElem?_cons_succ, List.getElem?_cons_zero] at z0 z1
    refine bodyPost_ret (v := .tuple #[ratV ⟨#[]⟩ ⟨#[]⟩, .int .i64 40]) (by simp [results, Tryz.results72, go_sem, z0, z1]) rfl ?_
    exact ⟨rfl, (hB0.setCell (Nat.le_refl _) _).setCell (Nat.le_refl _) _⟩
  | true =>
    rw [h1] at VN
    cases h2 : N3.okS d with
    | false =>
      rw [h2] at VD
      clear h1 h2 hbad
      have x0 := hb.cell 0
      have x1 := hb.cell 1
      have f0 := hb.frozen 0
      have f1 := hb.frozen 1
      simp only [List.getElem?_toArray, List.getElem?_cons_succ, List.getElem?_cons_zero] at x0 x1
      have HK := Lib.hid hb
      go_enter Tryz.func72, Tryz.ntmps72
      go_wp2_with (simp only [hW])
      refine (VN.out _).mono ?_
      rintro r V ⟨rfl, rfl⟩
      go_wp2_with fail
      refine (VD.out _).mono ?_
      rintro r V ⟨rfl, rfl⟩
      go_wp2_with fail
      have hz : BlkT _ _ #[.string ⟨#[]⟩, .string ⟨#[]⟩] 26 := (HK.out.set 0 (.string ⟨#[]⟩)).set 1 (.string ⟨#[]⟩)
      have z0 := hz.cell 0
      have z1 := hz.cell 1
      simp only [List.getElem?_toArray, List.getElem?_cons_succ, List.getElem?_cons_zero] at z0 z1
      refine bodyPost_ret (v := .tuple #[ratV ⟨#[]⟩ ⟨#[]⟩, .int .i64 40]) (by simp [results, Tryz.results72, go_sem, z0, z1]) rfl ?_
      exact ⟨rfl, (hB0.setCell (Nat.le_refl _) _).setCell (Nat.le_refl _) _⟩
    | true =>
      rw [h2] at VD
      have hst := str_eq48 (hbad.resolve_left (by rw [h1]; decide) |>.resolve_left (by rw [h2]; decide))
      clear h1 h2 hbad
      have x0 := hb.cell 0
      have x1 := hb.cell 1
      have f0 := hb.frozen 0
      have f1 := hb.frozen 1
      simp only [List.getElem?_toArray, List.getElem?_cons_succ, List.getElem?_cons_zero] at x0 x1
      have HK := Lib.hid hb
      go_enter Tryz.func72, Tryz.ntmps72
      go_wp2_with (simp only [hW])
      refine (VN.out _).mono ?_
      rintro r V ⟨rfl, rfl⟩
      go_wp2_with fail
      refine (VD.out _).mono ?_
      rintro r V ⟨rfl, rfl⟩
      go_wp2_with fail
      have hz : BlkT _ _ #[.string ⟨#[]⟩, .string ⟨#[]⟩] 26 := (HK.out.set 0 (.string ⟨#[]⟩)).set 1 (.string ⟨#[]⟩)
      have z0 := hz.cell 0
      have z1 := hz.cell 1
      simp only [List.getElem?_toArray, List.getElem?_cons_succ, List.getElem?_cons_zero] at z0 z1
      refine bodyPost_ret (v := .tuple #[ratV ⟨#[]⟩ ⟨#[]⟩, .int .i64 40]) (by simp [results, Tryz.results72, go_sem, z0, z1]) rfl ?_
      exact ⟨rfl, (hB0.setCell (Nat.le_refl _) _).setCell (Nat.le_refl _) _⟩
theorem make72 (n d : ByteArray) (w : World) (hn : n.size ≤ 1000000) (hd : d.size ≤ 1000000) :
    Calls Tryz.prog 72 #[.string n, .string d] w fun r w' => r = .returned (.tuple #[valR (redU (!(N3.okS n && N3.okS d)) n d), .int .i64 (errR (redU (!(N3.okS n && N3.okS d)) n d))]) ∧ Below w.heap.size w w' := by
  cases h1 : N3.okS n with
  | false => exact make72_bad n d w hn hd (.inl h1)
  | true =>
    cases h2 : N3.okS d with
    | false => exact make72_bad n d w hn hd (.inr (.inl h2))
    | true =>
      by_cases h0 : d.data.toList = [48]
      · have e : redU (!(true && true)) n d = none := by unfold redU; rw [if_neg (by decide), if_pos h0]
        rw [e]
        exact make72_bad n d w hn hd (.inr (.inr h0))
      · have l1 := N3.iV_lim h1
        have l2 := N3.iV_lim h2
        have z : N3.iV d ≠ 0 := fun e => h0 ((ok_zero h2).1 e)
        have k := make72_S l1 l2 z w
        have e : redU (!(true && true)) n d = some (strR (N3.mk (N3.iV n) (N3.iV d))) := by
          have := red_S l1 l2 z
          rw [N3.S_iV h1, N3.S_iV h2] at this
          exact this
        rw [N3.S_iV h1, N3.S_iV h2] at k
        rw [e]
        exact k
set_option maxRecDepth 100000 in
set_option maxHeartbeats 4000000 in
theorem of75 (n d : Int) (w : World) (l0 : -9223372036854775808 ≤ n) (u0 : n ≤ 9223372036854775807) (l1 : -9223372036854775808 ≤ d) (u1 : d ≤ 9223372036854775807) :
    Calls Tryz.prog 75 #[.int .i64 n, .int .i64 d] w fun r w' => r = .returned (.tuple #[valR (redU false (N3.S n) (N3.S d)), .int .i64 (errR (redU false (N3.S n) (N3.S d)))]) ∧ Below w.heap.size w w' := by
  have hbig : (9223372036854775808 : Nat) < N3.lim := by decide
  have ln : n.natAbs < N3.lim := by omega
  have ld : d.natAbs < N3.lim := by omega
  have FN := Lib.hid (fun V => fromInt10 n V l0 u0)
  have FD := Lib.hid (fun V => fromInt10 d V l1 u1)
  have M := Lib.hid (fun V => by
    have k := make72 (N3.S n) (N3.S d) V (by have := S_size ln; omega) (by have := S_size ld; omega)
    rw [N3.okS_S ln, N3.okS_S ld] at k; exact k)
  rw [show (!(true && true)) = false from rfl] at M
  obtain ⟨W, hW⟩ : ∃ W, w.alloc (.cells #[.string ⟨#[]⟩, .string ⟨#[]⟩] 26) = W := ⟨_, rfl⟩
  have hB0 : Below w.heap.size w W := hW ▸ (Below.refl _ _).alloc (Nat.le_refl _) _
  have hb : BlkT W w.heap.size #[.string ⟨#[]⟩, .string ⟨#[]⟩] 26 := hW ▸ BlkT.newAt _ _ _ rfl
  have HB := Lib.hid hb
  generalize redU false (N3.S n) (N3.S d) = R at *
  generalize N3.S n = sn at *
  generalize N3.S d = sd at *
  clear hb hbig ln ld
  go_enter Tryz.func75, Tryz.ntmps75
  go_wp2_with (simp only [hW])
  refine (FN.out _).mono ?_
  rintro r V1 ⟨rfl, hb1⟩
  have hB1 := hB0.trans (hb1.mono hB0.size)
  have hk1 := BlkT.keep HB.out hb1
  go_wp2_with fail
  refine (FD.out _).mono ?_
  rintro r V2 ⟨rfl, hb2⟩
  have hB2 := hB1.trans (hb2.mono hB1.size)
  have hk2 := BlkT.keep hk1 hb2
  go_wp2_with fail
  refine (M.out _).mono ?_
  rintro r V3 ⟨rfl, hb3⟩
  have hB3 := hB2.trans (hb3.mono hB2.size)
  have hk3 := BlkT.keep hk2 hb3
  have x0 := hk3.cell 0
  have x1 := hk3.cell 1
  have f0 := hk3.frozen 0
  have f1 := hk3.frozen 1
  simp only [List.getElem?_toArray, List.getElem?_cons_succ, List.getElem?_cons_zero] at x0 x1
  have HK := Lib.hid hk3
  clear hk1 hk2 hk3
  cases R with
  | none =>
    dsimp only [valR, errR]
    go_wp2_with fail
    have hz : BlkT _ _ #[.string ⟨#[]⟩, .string ⟨#[]⟩] 26 := (HK.out.set 0 (.string ⟨#[]⟩)).set 1 (.string ⟨#[]⟩)
    have z0 := hz.cell 0
    have z1 := hz.cell 1
    simp only [List.getElem?_toArray, List.getElem?_cons_succ, List.getElem?_cons_zero] at z0 z1
    refine bodyPost_ret (v := .tuple #[ratV ⟨#[]⟩ ⟨#[]⟩, .int .i64 40]) (by simp [results, Tryz.results75, go_sem, z0, z1]) rfl ?_
    exact ⟨rfl, (hB3.setCell (Nat.le_refl _) _).setCell (Nat.le_refl _) _⟩
  | some R =>
    obtain ⟨a, b⟩ := R
    dsimp only [valR, errR]
    go_wp2_with fail
    have hz : BlkT _ _ #[.string a, .string b] 26 := (HK.out.set 0 (.string a)).set 1 (.string b)
    have z0 := hz.cell 0
    have z1 := hz.cell 1
    simp only [List.getElem?_toArray, List.getElem?_cons_succ, List.getElem?_cons_zero] at z0 z1
    refine bodyPost_ret (v := .tuple #[ratV a b, .int .i64 0]) (by simp [results, Tryz.results75, go_sem, z0, z1]) rfl ?_
    exact ⟨rfl, (hB3.setCell (Nat.le_refl _) _).setCell (Nat.le_refl _) _⟩
end Go.Proofs.YtjnpenljgfdaiaaGreatDoor

/- package nadirref04: Small. -/
namespace Go.Proofs.YtjnpenljgfdaiaaGreatDoor
open Go.RowKit Go.Shelf Lib

theorem wp_suchC {P : Program} {c : Code} {Q : Exit → Act → World → Prop} {a : Act} {fr : Nat → Act} {w0 w : World} (cs : Array Value) (h : c.wp P (NoPanic fun e a' w' => e = .normal ∧ ∃ g, a' = fr g ∧ (Below w0.heap.size w0 w' ∧ BlkT w' g cs 26)) a w) (k : ∀ g w', (Below w0.heap.size w0 w' ∧ BlkT w' g cs 26) → Q .normal (fr g) w') : c.wp P Q a w :=
  Code.wp_mono (fun e a' w' hh => by obtain ⟨rfl, g, rfl, hb⟩ := NoPanic.imp e a' w' hh; exact k g w' hb) h
def smallF (x0 x1 : Int) : Int × Int := N3.mk (pickN x0 1999 - 999) (1 + pickN x1 60)
theorem small_bd (x0 x1 : Int) : -999 ≤ pickN x0 1999 - 999 ∧ pickN x0 1999 - 999 ≤ 999 ∧ 1 ≤ 1 + pickN x1 60 ∧ 1 + pickN x1 60 ≤ 60 := by
  have h1 := pickN_bd x0 (show (0 : Int) < 1999 by decide)
  have h2 := pickN_bd x1 (show (0 : Int) < 60 by decide)
  omega
theorem small_fitF (x0 x1 : Int) : Fit (smallF x0 x1) := by
  have h := small_bd x0 x1
  have hb : (1000 : Nat) < N3.lim := by decide
  exact mk_fit (by omega) (by omega) (by omega)
set_option maxRecDepth 100000 in
set_option maxHeartbeats 4000000 in
theorem small22 (x0 x1 : Int) (w : World) (l0 : -9223372036854775808 ≤ x0) (u0 : x0 ≤ 9223372036854775807) (l1 : -9223372036854775808 ≤ x1) (u1 : x1 ≤ 9223372036854775807) :
    Calls Tryz.prog 22 #[.agg #[.int .i64 x0, .int .i64 x1]] w fun r w' => r = .returned (ratV (strR (smallF x0 x1)).1 (strR (smallF x0 x1)).2) ∧ Below w.heap.size w w' := by
  have hbd := small_bd x0 x1
  have hlim : (1000 : Nat) < N3.lim := by decide
  have O := Lib.hid (fun V => by
    have k := of75 (pickN x0 1999 - 999) (1 + pickN x1 60) V (by omega) (by omega) (by omega) (by omega)
    rw [red_S (by omega) (by omega) (by omega)] at k
    exact (show Calls Tryz.prog 75 _ V fun r w' => r = .returned (.tuple #[ratV (strR (smallF x0 x1)).1 (strR (smallF x0 x1)).2, .int .i64 0]) ∧ _ from k))
  have P0 := Lib.hid (fun V => pick76 x0 1999 V l0 u0 (by decide) (by decide))
  have P1 := Lib.hid (fun V => pick76 x1 60 V l1 u1 (by decide) (by decide))
  have hw0 : IntKind.i64.wrap (pickN x0 1999 - 999) = pickN x0 1999 - 999 := by rw [IntKind.wrap_i64]; omega
  have hw1 : IntKind.i64.wrap (1 + pickN x1 60) = 1 + pickN x1 60 := by rw [IntKind.wrap_i64]; omega
  generalize (strR (smallF x0 x1)).1 = sa at *
  generalize (strR (smallF x0 x1)).2 = sb at *
  generalize pickN x0 1999 = p0 at *
  generalize pickN x1 60 = p1 at *
  obtain ⟨W, hW⟩ : ∃ W, (w.alloc (.cells #[.int .i64 x0, .int .i64 x1] 23)).alloc (.cells #[.string ⟨#[]⟩, .string ⟨#[]⟩] 26) = W := ⟨_, rfl⟩
  have k1 : BlkT W w.heap.size #[.int .i64 x0, .int .i64 x1] 23 := hW ▸ (BlkT.newAt w _ _ rfl).alloc _
  have k2 : BlkT W (w.heap.size + 1) #[.string ⟨#[]⟩, .string ⟨#[]⟩] 26 := hW ▸ BlkT.newAt _ _ _ (by simp)
  have hB : Below w.heap.size w W := hW ▸ (((Below.refl _ _).alloc (Nat.le_refl _) _).alloc (by simp) _)
  clear hbd hlim l0 u0 l1 u1
  have HK6 := Lib.hid (fun V (hV : Below W.heap.size W V) => And.intro ((BlkT.keep k1 hV).cell 0) ((BlkT.keep k1 hV).cell 1))
  simp only [List.getElem?_toArray, List.getElem?_cons_succ, List.getElem?_cons_zero] at HK6
  go_enter Tryz.func22, Tryz.ntmps22
  go_wp2_with (simp only [hW])
  (try rw [hW])
  apply wp_suchC (w0 := W) #[.string sa, .string sb]
  · go_region_held3 (fun w' => Below W.heap.size W w' ∧ (w'.cell? ⟨w.heap.size, 0, none⟩ = some (.int .i64 x0) ∧ w'.cell? ⟨w.heap.size, 1, none⟩ = some (.int .i64 x1)))
      (first | exact ⟨(Below.refl _ _).drew, HK6.out _ (Below.refl _ _).drew⟩ | (have hh := (‹Below W.heap.size W _ ∧ _›).1; have hb := hh.trans (hBr.mono hh.size); exact ⟨hb, HK6.out _ hb⟩) | (have hh := (‹Below W.heap.size W _ ∧ _›).1; exact ⟨hh, HK6.out _ hh⟩) | (have hh := (‹Below W.heap.size W _ ∧ _›).1; exact ⟨hh.alloc hh.size _, HK6.out _ (hh.alloc hh.size _)⟩) | (have hh := (‹Below W.heap.size W _ ∧ _›).1; exact ⟨(hh.setCell (by dsimp only; omega) _).setCell (by dsimp only; omega) _, HK6.out _ ((hh.setCell (by dsimp only; omega) _).setCell (by dsimp only; omega) _)⟩) | (exact ⟨hSr.alloc hSz _, HK6.out _ (hSr.alloc hSz _)⟩) | go_keep)
      (first
        | (go_at_call 76; (with_reducible refine (P0.out _).mono ?_); rintro r wq ⟨rfl, rfl⟩)
        | (go_at_call 76; (with_reducible refine (P1.out _).mono ?_); rintro r wq ⟨rfl, rfl⟩)
        | (go_at_call 75; (with_reducible refine (O.out _).mono ?_); rintro r wr ⟨rfl, hBr⟩; have hSz := Nat.le_trans (‹Below W.heap.size W _ ∧ _›).1.size hBr.size; have hSr := (‹Below W.heap.size W _ ∧ _›).1.trans (hBr.mono (‹Below W.heap.size W _ ∧ _›).1.size); have hblk2 := BlkT.keep (BlkT.newAt (World.drew W) #[.string ⟨#[]⟩, .string ⟨#[]⟩] 26 (n := W.heap.size) rfl) hBr; have u0 := hblk2.cell 0; have u1 := hblk2.cell 1; have v0 := hblk2.frozen 0; have v1 := hblk2.frozen 1; simp only [List.getElem?_toArray, List.getElem?_cons_succ, List.getElem?_cons_zero] at u0 u1)
        | (go_at_call 75; (with_reducible refine (O.out _).mono ?_); rintro r wr ⟨rfl, hBr⟩; have hSz := Nat.le_trans (‹Below W.heap.size W _ ∧ _›).1.size hBr.size; have hSr := (‹Below W.heap.size W _ ∧ _›).1.trans (hBr.mono (‹Below W.heap.size W _ ∧ _›).1.size); have hblk2 := BlkT.newAt wr #[.string ⟨#[]⟩, .string ⟨#[]⟩] 26 rfl; have u0 := hblk2.cell 0; have u1 := hblk2.cell 1; have v0 := hblk2.frozen 0; have v1 := hblk2.frozen 1; simp only [List.getElem?_toArray, List.getElem?_cons_succ, List.getElem?_cons_zero] at u0 u1))
    all_goals (
      refine NoPanic.normal ?_
      have hh := (‹Below W.heap.size W _ ∧ _›).1
      first
        | (have hz : BlkT (wr.alloc (.cells #[.string sa, .string sb] 26)) wr.heap.size #[.string sa, .string sb] 26 := BlkT.newAt _ _ _ rfl; obtain ⟨gx, hgx⟩ : ∃ g, wr.heap.size = g := ⟨_, rfl⟩; rw [hgx] at hz; rw [hgx]; exact ⟨rfl, gx, rfl, hh, hz⟩)
        | (have hz : BlkT _ _ #[.string sa, .string sb] 26 := (hblk2.set 0 (.string sa)).set 1 (.string sb); generalize wr.heap.size = gx at *; exact ⟨rfl, gx, rfl, hh, hz⟩)
        | (have hz : BlkT _ _ #[.string sa, .string sb] 26 := (hblk2.set 0 (.string sa)).set 1 (.string sb); obtain ⟨gx, hgx⟩ : ∃ g, W.heap.size = g := ⟨_, rfl⟩; exact ⟨rfl, gx, by rw [hgx], hh, by rw [← hgx]; exact hz⟩)
        | (have hz : BlkT _ _ #[.string sa, .string sb] 26 := (hblk2.set 0 (.string sa)).set 1 (.string sb); exact ⟨rfl, W.heap.size, rfl, hh, hz⟩)
        | (trace_state; fail))
  rintro g17 W17 ⟨hb17, k17⟩
  have hB17 := hB.trans (hb17.mono hB.size)
  have l2 := BlkT.keep k2 hb17
  have x0 := l2.cell 0
  have x1 := l2.cell 1
  have f0 := l2.frozen 0
  have f1 := l2.frozen 1
  have y0 := k17.cell 0
  have y1 := k17.cell 1
  simp only [List.getElem?_toArray, List.getElem?_cons_succ, List.getElem?_cons_zero] at x0 x1 y0 y1
  have HK := Lib.hid l2
  go_wp2_with fail
  have hz : BlkT _ _ #[.string sa, .string sb] 26 := (HK.out.set 0 (.string sa)).set 1 (.string sb)
  have z0 := hz.cell 0
  have z1 := hz.cell 1
  simp only [List.getElem?_toArray, List.getElem?_cons_succ, List.getElem?_cons_zero] at z0 z1
  refine bodyPost_ret (v := ratV sa sb) (by simp [results, Tryz.results22, go_sem, z0, z1]) rfl ?_
  exact ⟨rfl, (hB17.setCell (by simp) _).setCell (by simp) _⟩
end Go.Proofs.YtjnpenljgfdaiaaGreatDoor

/- package nadirref04: Long. -/
namespace Go.Proofs.YtjnpenljgfdaiaaGreatDoor
open Go.RowKit Go.Shelf Lib

/-- Digits alone, and at most so many. -/
def DigS (s : ByteArray) (n : Nat) : Prop := s.data.toList.all N3.isD = true ∧ s.size ≤ n
theorem DigS.nil (n : Nat) : DigS ⟨#[]⟩ n := ⟨rfl, Nat.zero_le _⟩
theorem chr_isD {d : Nat} (h : d < 10) : N3.isD (UInt8.ofNat (48 + d)) = true := by
  unfold N3.isD; rw [N3.toNat_digit h]
  rw [decide_eq_true (by omega), decide_eq_true (by omega)]; rfl
theorem DigS.push {s : ByteArray} {n d : Nat} (h : DigS s n) (hd : d < 10) (hs : s.size < n) : DigS (s ++ ⟨#[UInt8.ofNat (48 + d)]⟩) n := by
  refine ⟨?_, ?_⟩
  · rw [ByteArray.data_append, Array.toList_append, List.all_append, h.1]
    show (true && List.all [UInt8.ofNat (48 + d)] N3.isD) = true
    rw [List.all_cons, chr_isD hd]; rfl
  · rw [ByteArray.size_append]; show s.size + 1 ≤ n; omega
theorem push_size (s : ByteArray) (b : UInt8) : (s ++ ⟨#[b]⟩).size = s.size + 1 := by rw [ByteArray.size_append]; rfl
theorem DigS.cut {s : ByteArray} {n : Nat} (h : DigS s n) : DigS (s.extract 1 s.size) n := by
  refine ⟨?_, ?_⟩
  · rw [extr_end]
    exact List.all_eq_true.2 fun x hx => List.all_eq_true.1 h.1 x (List.mem_of_mem_drop hx)
  · rw [ByteArray.size_extract]; have := h.2; omega
/-- A numeral of at most a hundred digits. -/
def Num100 (s : ByteArray) : Prop := okT s.data.toList = true ∧ s.size ≤ 100
theorem num_of {s : ByteArray} (h : DigS s 100) (h1 : 0 < s.size) (h2 : s.size ≤ 1 ∨ s[0].toNat ≠ 48) : Num100 s := by
  refine ⟨?_, h.2⟩
  rw [okT_end h.1 h1, decide_eq_true (show s.size ≤ 200 by have := h.2; omega)]
  rw [Bool.true_and, Bool.or_eq_true, decide_eq_true_eq, decide_eq_true_eq]
  by_cases h0 : s[0].toNat = 48
  · left
    have hs : s.size = 1 := by
      rcases h2 with h2 | h2
      · omega
      · exact absurd h0 h2
    have hl : s.data.toList.length = 1 := by rw [← Lib.size_eq]; exact hs
    obtain ⟨x, hx⟩ := List.length_eq_one_iff.1 hl
    have hh := head_at h1
    rw [hx] at hh
    injection hh with hh
    rw [hx, hh]
    exact congrArg (fun z => [z]) (UInt8.toNat_inj.1 h0)
  · right; exact h0
/-- The number of a numeral, and of one with a sign. -/
theorem num_ok {s : ByteArray} (h : Num100 s) : N3.okS s = true ∧ (N3.iV s).natAbs < 10 ^ 100 ∧ 0 ≤ N3.iV s ∧ s.data.toList.head? ≠ some 45 := by
  obtain ⟨h0, h200, hall, hhd⟩ := okT_facts h.1
  have hne : s.data.toList.head? ≠ some 45 := by
    rw [head_at h0]
    intro e
    injection e with e
    have := ok_at hall h0
    rw [e] at this
    exact absurd this.1 (by decide)
  have hb : N3.bare s.data.toList = s.data.toList := by unfold N3.bare; rw [if_neg hne]
  have ho : N3.okS s = true := by unfold N3.okS; rw [okT_bare (fun k => absurd k hne), hb]; exact h.1
  have hiv : N3.iV s = (N3.decV s.data.toList : Int) := by unfold N3.iV N3.intV; rw [if_neg hne]
  refine ⟨ho, ?_, by rw [hiv]; omega, hne⟩
  rw [hiv, Int.natAbs_natCast]
  refine Nat.lt_of_lt_of_le (N3.decV_lt _ hall) (Nat.pow_le_pow_right (by decide) ?_)
  rw [← Lib.size_eq]; exact h.2
theorem neg_ok {s : ByteArray} (h : Num100 s) (h0 : s.data.toList ≠ [48]) : N3.okS (⟨#[45]⟩ ++ s) = true ∧ (N3.iV (⟨#[45]⟩ ++ s)).natAbs < 10 ^ 100 := by
  have hl : ((⟨#[45]⟩ : ByteArray) ++ s).data.toList = 45 :: s.data.toList := by rw [ByteArray.data_append, Array.toList_append]; rfl
  have hb : N3.bare (45 :: s.data.toList) = s.data.toList := by unfold N3.bare; exact if_pos rfl
  refine ⟨?_, ?_⟩
  · unfold N3.okS
    rw [hl, okT_bare (fun _ => by rw [hb]; exact h0), hb]; exact h.1
  · have hiv : N3.iV (⟨#[45]⟩ ++ s) = -(N3.decV s.data.toList : Int) := by unfold N3.iV N3.intV; rw [hl]; exact if_pos rfl
    rw [hiv, Int.natAbs_neg, Int.natAbs_natCast]
    refine Nat.lt_of_lt_of_le (N3.decV_lt _ (okT_facts h.1).2.2.1) (Nat.pow_le_pow_right (by decide) ?_)
    rw [← Lib.size_eq]; exact h.2
theorem lim100 {x : Int} (h : x.natAbs < 10 ^ 100) : x.natAbs < N3.lim := N3.lim_of h (by decide)
theorem num_seven : Num100 ⟨#[55]⟩ := ⟨by decide, by decide⟩
theorem num_ne {s : ByteArray} (h : Num100 s) (h0 : s.data.toList ≠ [48]) : N3.iV s ≠ 0 := fun e => h0 ((ok_zero (num_ok h).1).1 e)
/-- The next number of the sequence. -/
theorem gen_step {c : Int} (h0 : 0 ≤ c) (h1 : c < 2147483647) : IntKind.i64.wrap (c * 48271) = c * 48271 ∧ IntKind.i64.wrap (c * 48271 + 11) = c * 48271 + 11 ∧ Int.tmod (c * 48271 + 11) 2147483647 = (c * 48271 + 11) % 2147483647 ∧ 0 ≤ (c * 48271 + 11) % 2147483647 ∧ (c * 48271 + 11) % 2147483647 < 2147483647 := by
  refine ⟨by rw [IntKind.wrap_i64]; omega, by rw [IntKind.wrap_i64]; omega, Int.tmod_eq_emod_of_nonneg (by omega), by omega, by omega⟩
theorem gen_dig {c : Int} (h0 : 0 ≤ c) (h1 : c < 2147483647) : ∃ d : Nat, d < 10 ∧ Int.tdiv c 65536 = c / 65536 ∧ IntKind.i64.wrap (c / 65536) = c / 65536 ∧ Int.tmod (c / 65536) 10 = (d : Int) ∧ IntKind.i64.wrap (d : Int) = (d : Int) ∧ IntKind.i64.wrap (48 + (d : Int)) = 48 + (d : Int) ∧ IntKind.u8.wrap (48 + (d : Int)) = 48 + (d : Int) := by
  refine ⟨(c / 65536 % 10).toNat, by omega, Int.tdiv_eq_ediv_of_nonneg h0, by rw [IntKind.wrap_i64]; omega, ?_, by rw [IntKind.wrap_i64]; omega, by rw [IntKind.wrap_i64]; omega, by rw [IntKind.wrap_u8]; omega⟩
  rw [Int.tmod_eq_emod_of_nonneg (by omega)]; omega

end Go.Proofs.YtjnpenljgfdaiaaGreatDoor

/- package nadirref04: Long, the walk. -/
namespace Go.Proofs.YtjnpenljgfdaiaaGreatDoor
open Go.RowKit Go.Shelf Lib

def strSize (v : Value) : Nat := match v with | .string s => s.size | _ => 0
theorem num_str {d : Nat} : strOfNums [(48 + (d : Int))] = ⟨#[UInt8.ofNat (48 + d)]⟩ := bytes_ext (by
  rw [strOfNums_data]
  show [UInt8.ofNat (48 + (d : Int)).toNat] = [UInt8.ofNat (48 + d)]
  rw [show (48 + (d : Int)).toNat = 48 + d by omega])
set_option maxRecDepth 100000 in
set_option maxHeartbeats 8000000 in
theorem long21 (a b c d : Int) (w : World) (la : -9223372036854775808 ≤ a) (ua : a ≤ 9223372036854775807) (lb : -9223372036854775808 ≤ b) (ub : b ≤ 9223372036854775807) (lc : -9223372036854775808 ≤ c) (uc : c ≤ 9223372036854775807) (ld : -9223372036854775808 ≤ d) (ud : d ≤ 9223372036854775807) :
    Calls Tryz.prog 21 #[.agg #[.int .i64 a, .int .i64 b, .int .i64 c, .int .i64 d]] w fun e w' => ∃ r : Int × Int, e = .returned (ratV (strR r).1 (strR r).2) ∧ Fit r ∧ r.1.natAbs < 10 ^ 100 ∧ r.2.natAbs < 10 ^ 100 ∧ Below w.heap.size w w' := by
  obtain ⟨W, hW⟩ : ∃ W, ((w.alloc (.cells #[.int .i64 a, .int .i64 b, .int .i64 c, .int .i64 d] 22)).alloc (.cells #[.string ⟨#[]⟩, .string ⟨#[]⟩] 26)).alloc (.cells #[.string ⟨#[]⟩, .string ⟨#[]⟩] 51) = W := ⟨_, rfl⟩
  have k1 : BlkT W w.heap.size #[.int .i64 a, .int .i64 b, .int .i64 c, .int .i64 d] 22 := hW ▸ ((BlkT.newAt w _ _ rfl).alloc _).alloc _
  have k2 : BlkT W (w.heap.size + 1) #[.string ⟨#[]⟩, .string ⟨#[]⟩] 26 := hW ▸ (BlkT.newAt _ _ _ (by simp)).alloc _
  have k3 : BlkT W (w.heap.size + 1 + 1) #[.string ⟨#[]⟩, .string ⟨#[]⟩] 51 := hW ▸ BlkT.newAt _ _ _ (by simp)
  have hB : Below w.heap.size w W := hW ▸ ((((Below.refl _ _).alloc (Nat.le_refl _) _).alloc (by simp) _).alloc (by simp; omega) _)
  have K1 := Lib.hid k1
  have K2 := Lib.hid k2
  have K3 := Lib.hid k3
  have PNa := Lib.hid (fun V => pick76 b 100 V lb ub (by decide) (by decide))
  have PCa := Lib.hid (fun V => pick76 a 1000000007 V la ua (by decide) (by decide))
  have PNb := Lib.hid (fun V => pick76 d 100 V ld ud (by decide) (by decide))
  have PCb := Lib.hid (fun V => pick76 c 1000000007 V lc uc (by decide) (by decide))
  have P2 := Lib.hid (fun V => pick76 a 2 V la ua (by decide) (by decide))
  have MK := Lib.hid (fun (x y : Int) (hx : x.natAbs < N3.lim) (hy : y.natAbs < N3.lim) (h0 : y ≠ 0) V => make72_S hx hy h0 V)
  clear la ua lb ub lc uc ld ud k1 k2 k3
  go_enter Tryz.func21, Tryz.ntmps21
  go_wp2_with (simp only [hW])
  (try rw [hW])
  go_loopw [4, 5, 6, 7] (fun u4 _ _ _ wr => ∃ (k : Nat) (t0 t1 : ByteArray), k ≤ 2 ∧ u4 = .int .i64 (k : Nat) ∧ BlkT wr w.heap.size #[.int .i64 a, .int .i64 b, .int .i64 c, .int .i64 d] 22 ∧ BlkT wr (w.heap.size + 1) #[.string ⟨#[]⟩, .string ⟨#[]⟩] 26 ∧ BlkT wr (w.heap.size + 1 + 1) #[.string t0, .string t1] 51 ∧ (0 < k → Num100 t0) ∧ (1 < k → Num100 t1) ∧ Below w.heap.size w wr) (fun u4 _ _ _ _ => ((2 : Int) - Go.RowKit.intOf u4).toNat)
  case atStart => exact ⟨0, ⟨#[]⟩, ⟨#[]⟩, by decide, rfl, K1.out, K2.out, K3.out, fun h => absurd h (by decide), fun h => absurd h (by decide), hB⟩
  case round =>
    obtain ⟨k, t0, t1, hk, rfl, q1, q2, q3, hn0, hn1, hBr⟩ := hrel
    rename World => wr
    have N0 := Lib.hid hn0
    have N1 := Lib.hid hn1
    clear hn0 hn1
    by_cases hk0 : k = 0
    · subst hk0
      have hbn := pickN_bd b (show (0 : Int) < 100 by decide)
      have hbc := pickN_bd a (show (0 : Int) < 1000000007 by decide)
      have hwn : IntKind.i64.wrap (1 + pickN b 100) = 1 + pickN b 100 := by rw [IntKind.wrap_i64]; omega
      have PN := PNa
      have PC := PCa
      generalize pickN b 100 = pn at *
      generalize pickN a 1000000007 = pc at *
      have y0 := q1.cell 0
      have y1 := q1.cell 1
      have y2 := q1.cell 2
      have y3 := q1.cell 3
      simp only [List.getElem?_toArray, List.getElem?_cons_succ, List.getElem?_cons_zero] at y0 y1 y2 y3
      have Q1 := Lib.hid q1
      have Q2 := Lib.hid q2
      have Q3 := Lib.hid q3
      clear q1 q2 q3
      go_wp2_with fail
      refine (PN.out _).mono ?_
      rintro r V ⟨rfl, rfl⟩
      go_wp2_with fail
      refine (PC.out _).mono ?_
      rintro r V ⟨rfl, rfl⟩
      clear y0 y1 y2 y3
      obtain ⟨n, hn⟩ : ∃ n : Nat, 1 + pn = (n : Int) := ⟨(1 + pn).toNat, by omega⟩
      have hn1 : 1 ≤ n ∧ n ≤ 100 := by omega
      rw [hn]
      clear hwn
      go_wp2_with fail
      go_loopw [6, 7] (fun u6 u7 wq => ∃ (s : ByteArray) (cc : Int), u6 = .string s ∧ u7 = .int .i64 cc ∧ 0 ≤ cc ∧ cc < 2147483647 ∧ DigS s n ∧ BlkT wq w.heap.size #[.int .i64 a, .int .i64 b, .int .i64 c, .int .i64 d] 22 ∧ BlkT wq (w.heap.size + 1) #[.string ⟨#[]⟩, .string ⟨#[]⟩] 26 ∧ BlkT wq (w.heap.size + 1 + 1) #[.string t0, .string t1] 51 ∧ Below w.heap.size w wq) (fun u6 _ _ => n - strSize u6)
      case atStart => exact ⟨⟨#[]⟩, pc, rfl, rfl, hbc.1, by omega, DigS.nil n, Q1.out, Q2.out, Q3.out, hBr⟩
      case round =>
        obtain ⟨s, cc, rfl, rfl, hc0, hc1, hds, q1, q2, q3, hBq⟩ := hrel
        rename World => wq
        have HDS := Lib.hid hds
        have hsn := hds.2
        clear hds
        by_cases hlt : s.size < n
        · have hlti : (s.size : Int) < (n : Int) := by omega
          obtain ⟨g1, g2, g3, g4, g5⟩ := gen_step hc0 hc1
          generalize (cc * 48271 + 11) % 2147483647 = c2 at *
          have hwc2 : IntKind.i64.wrap c2 = c2 := by rw [IntKind.wrap_i64]; omega
          obtain ⟨dg, hd10, e1, e2, e3, e4, e5, e6⟩ := gen_dig g4 g5
          have hown : (wq.alloc (.cells #[.int .u8 (48 + (dg : Int))] 5)).ownsRow wq.heap.size 5 1 (.slice (some ⟨wq.heap.size, 0, none⟩) 1 1) 1 ([(48 + (dg : Int))].map (Value.int .u8)) :=
            ⟨rfl, .inr ⟨wq.heap.size, 1, #[.int .u8 (48 + (dg : Int))], rfl, Nat.le_refl _, heap_alloc_new wq _, Nat.le_refl _, by decide, rfl, rfl⟩⟩
          have hcv := run_convert_owned 62 9 Tryz.underlying62 Tryz.underlying5 Tryz.underlying9 hown
          rw [num_str] at hcv
          have hbz : Below wq.heap.size wq (wq.alloc (.cells #[.int .u8 (48 + (dg : Int))] 5)) := (Below.refl _ _).alloc (Nat.le_refl _) _
          have HZ := Lib.hid (And.intro (BlkT.keep q1 hbz) (And.intro (BlkT.keep q2 hbz) (BlkT.keep q3 hbz)))
          have HBZ := Lib.hid (hBq.trans (hbz.mono hBq.size))
          have HP := Lib.hid (HDS.out.push hd10 hlt)
          have hps := push_size s (UInt8.ofNat (48 + dg))
          have r1 : ¬ 9223372036854775807 < s.size + 1 := by omega
          have r2 : ¬ 9223372036854775807 < s.size + (⟨#[UInt8.ofNat (48 + dg)]⟩ : ByteArray).size := by show ¬ 9223372036854775807 < s.size + 1; omega
          clear hown hbz q1 q2 q3
          generalize hch : UInt8.ofNat (48 + dg) = ch at *
          go_wp2_with fail
          go_roundw
          case rel => exact ⟨_, c2, rfl, rfl, g4, g5, HP.out, HZ.out.1, HZ.out.2.1, HZ.out.2.2, HBZ.out⟩
          case measure => (show n - (s ++ (⟨#[ch]⟩ : ByteArray)).size < n - s.size); rw [hps]; omega
        · have hlti : ¬ (s.size : Int) < (n : Int) := by omega
          have hpos : 0 < s.size := by omega
          have HD := Lib.hid (show DigS s 100 from ⟨HDS.out.1, by omega⟩)
          have Q1q := Lib.hid q1
          have Q2q := Lib.hid q2
          have Q3q := Lib.hid q3
          clear q1 q2 q3
          go_wp2_with fail
          go_loopw [6] (fun u6 wz => ∃ s : ByteArray, u6 = .string s ∧ DigS s 100 ∧ 0 < s.size ∧ wq = wz) (fun u6 _ => strSize u6)
          case atStart => exact ⟨s, rfl, HD.out, hpos, rfl⟩
          case round =>
            clear HD HDS hsn hlt hlti hpos
            obtain ⟨s, rfl, hds, hpos, rfl⟩ := hrel
            have HD := Lib.hid hds
            have hs100 := hds.2
            clear hds
            have hi0 : (0 : Int) ≤ 0 ∧ (0 : Int) < (s.size : Int) := by omega
            by_cases h1 : 1 < s.size
            · have h1i : (1 : Int) < (s.size : Int) := by omega
              have h1j : (0 : Int) ≤ 1 ∧ (1 : Int) ≤ (s.size : Int) := by omega
              by_cases h48 : s[0].toNat = 48
              · have hq : ((s[0].toNat : Int) == 48) = true := beq_iff_eq.2 (by omega)
                have HC := Lib.hid HD.out.cut
                have hcs : (s.extract 1 s.size).size = s.size - 1 := by rw [ByteArray.size_extract]; omega
                generalize hex : s.extract 1 s.size = s2 at *
                clear h48
                go_wp2_with (simp only [hex])
                go_roundw
                case rel => exact ⟨s2, rfl, HC.out, by omega, by first | rfl | trivial⟩
                case measure => (show ByteArray.size _ < ByteArray.size _); omega
              · have hq : ((s[0].toNat : Int) == 48) = false := beq_eq_false_iff_ne.2 (by omega)
                have HN := Lib.hid (num_of HD.out hpos (.inr h48))
                clear h48
                have x0 := Q3q.out.cell 0
                have x1 := Q3q.out.cell 1
                have f0 := Q3q.out.frozen 0
                have f1 := Q3q.out.frozen 1
                simp only [List.getElem?_toArray, List.getElem?_cons_succ, List.getElem?_cons_zero] at x0 x1
                go_wp2_with fail
                go_roundw
                case rel => exact ⟨1, s, t1, by decide, rfl, Q1q.out.other _ (by simp; omega), Q2q.out.other _ (by simp), Q3q.out.set 0 _, fun _ => HN.out, fun h => absurd h (by decide), hBq.setCell (by simp; omega) _⟩
                case measure => simp [Go.RowKit.intOf]
            · have h1i : ¬ (1 : Int) < (s.size : Int) := by omega
              have h1j : (s.size : Int) ≤ 1 := by omega
              have HN := Lib.hid (num_of HD.out hpos (.inl (by omega)))
              have x0 := Q3q.out.cell 0
              have x1 := Q3q.out.cell 1
              have f0 := Q3q.out.frozen 0
              have f1 := Q3q.out.frozen 1
              simp only [List.getElem?_toArray, List.getElem?_cons_succ, List.getElem?_cons_zero] at x0 x1
              go_wp2_with fail
              go_roundw
              case rel => exact ⟨1, s, t1, by decide, rfl, Q1q.out.other _ (by simp; omega), Q2q.out.other _ (by simp), Q3q.out.set 0 _, fun _ => HN.out, fun h => absurd h (by decide), hBq.setCell (by simp; omega) _⟩
              case measure => simp [Go.RowKit.intOf]
    · by_cases hk1 : k = 1
      · subst hk1
        have hbn := pickN_bd d (show (0 : Int) < 100 by decide)
        have hbc := pickN_bd c (show (0 : Int) < 1000000007 by decide)
        have hwn : IntKind.i64.wrap (1 + pickN d 100) = 1 + pickN d 100 := by rw [IntKind.wrap_i64]; omega
        have PN := PNb
        have PC := PCb
        generalize pickN d 100 = pn at *
        generalize pickN c 1000000007 = pc at *
        have y0 := q1.cell 0
        have y1 := q1.cell 1
        have y2 := q1.cell 2
        have y3 := q1.cell 3
        simp only [List.getElem?_toArray, List.getElem?_cons_succ, List.getElem?_cons_zero] at y0 y1 y2 y3
        have Q1 := Lib.hid q1
        have Q2 := Lib.hid q2
        have Q3 := Lib.hid q3
        clear q1 q2 q3
        go_wp2_with fail
        refine (PN.out _).mono ?_
        rintro r V ⟨rfl, rfl⟩
        go_wp2_with fail
        refine (PC.out _).mono ?_
        rintro r V ⟨rfl, rfl⟩
        clear y0 y1 y2 y3
        obtain ⟨n, hn⟩ : ∃ n : Nat, 1 + pn = (n : Int) := ⟨(1 + pn).toNat, by omega⟩
        have hn1 : 1 ≤ n ∧ n ≤ 100 := by omega
        rw [hn]
        clear hwn
        go_wp2_with fail
        go_loopw [6, 7] (fun u6 u7 wq => ∃ (s : ByteArray) (cc : Int), u6 = .string s ∧ u7 = .int .i64 cc ∧ 0 ≤ cc ∧ cc < 2147483647 ∧ DigS s n ∧ BlkT wq w.heap.size #[.int .i64 a, .int .i64 b, .int .i64 c, .int .i64 d] 22 ∧ BlkT wq (w.heap.size + 1) #[.string ⟨#[]⟩, .string ⟨#[]⟩] 26 ∧ BlkT wq (w.heap.size + 1 + 1) #[.string t0, .string t1] 51 ∧ Below w.heap.size w wq) (fun u6 _ _ => n - strSize u6)
        case atStart => exact ⟨⟨#[]⟩, pc, rfl, rfl, hbc.1, by omega, DigS.nil n, Q1.out, Q2.out, Q3.out, hBr⟩
        case round =>
          obtain ⟨s, cc, rfl, rfl, hc0, hc1, hds, q1, q2, q3, hBq⟩ := hrel
          rename World => wq
          have HDS := Lib.hid hds
          have hsn := hds.2
          clear hds
          by_cases hlt : s.size < n
          · have hlti : (s.size : Int) < (n : Int) := by omega
            obtain ⟨g1, g2, g3, g4, g5⟩ := gen_step hc0 hc1
            generalize (cc * 48271 + 11) % 2147483647 = c2 at *
            have hwc2 : IntKind.i64.wrap c2 = c2 := by rw [IntKind.wrap_i64]; omega
            obtain ⟨dg, hd10, e1, e2, e3, e4, e5, e6⟩ := gen_dig g4 g5
            have hown : (wq.alloc (.cells #[.int .u8 (48 + (dg : Int))] 5)).ownsRow wq.heap.size 5 1 (.slice (some ⟨wq.heap.size, 0, none⟩) 1 1) 1 ([(48 + (dg : Int))].map (Value.int .u8)) :=
              ⟨rfl, .inr ⟨wq.heap.size, 1, #[.int .u8 (48 + (dg : Int))], rfl, Nat.le_refl _, heap_alloc_new wq _, Nat.le_refl _, by decide, rfl, rfl⟩⟩
            have hcv := run_convert_owned 62 9 Tryz.underlying62 Tryz.underlying5 Tryz.underlying9 hown
            rw [num_str] at hcv
            have hbz : Below wq.heap.size wq (wq.alloc (.cells #[.int .u8 (48 + (dg : Int))] 5)) := (Below.refl _ _).alloc (Nat.le_refl _) _
            have HZ := Lib.hid (And.intro (BlkT.keep q1 hbz) (And.intro (BlkT.keep q2 hbz) (BlkT.keep q3 hbz)))
            have HBZ := Lib.hid (hBq.trans (hbz.mono hBq.size))
            have HP := Lib.hid (HDS.out.push hd10 hlt)
            have hps := push_size s (UInt8.ofNat (48 + dg))
            have r1 : ¬ 9223372036854775807 < s.size + 1 := by omega
            have r2 : ¬ 9223372036854775807 < s.size + (⟨#[UInt8.ofNat (48 + dg)]⟩ : ByteArray).size := by show ¬ 9223372036854775807 < s.size + 1; omega
            clear hown hbz q1 q2 q3
            generalize hch : UInt8.ofNat (48 + dg) = ch at *
            go_wp2_with fail
            go_roundw
            case rel => exact ⟨_, c2, rfl, rfl, g4, g5, HP.out, HZ.out.1, HZ.out.2.1, HZ.out.2.2, HBZ.out⟩
            case measure => (show n - (s ++ (⟨#[ch]⟩ : ByteArray)).size < n - s.size); rw [hps]; omega
          · have hlti : ¬ (s.size : Int) < (n : Int) := by omega
            have hpos : 0 < s.size := by omega
            have HD := Lib.hid (show DigS s 100 from ⟨HDS.out.1, by omega⟩)
            have Q1q := Lib.hid q1
            have Q2q := Lib.hid q2
            have Q3q := Lib.hid q3
            clear q1 q2 q3
            go_wp2_with fail
            go_loopw [6] (fun u6 wz => ∃ s : ByteArray, u6 = .string s ∧ DigS s 100 ∧ 0 < s.size ∧ wq = wz) (fun u6 _ => strSize u6)
            case atStart => exact ⟨s, rfl, HD.out, hpos, rfl⟩
            case round =>
              clear HD HDS hsn hlt hlti hpos
              obtain ⟨s, rfl, hds, hpos, rfl⟩ := hrel
              have HD := Lib.hid hds
              have hs100 := hds.2
              clear hds
              have hi0 : (0 : Int) ≤ 0 ∧ (0 : Int) < (s.size : Int) := by omega
              by_cases h1 : 1 < s.size
              · have h1i : (1 : Int) < (s.size : Int) := by omega
                have h1j : (0 : Int) ≤ 1 ∧ (1 : Int) ≤ (s.size : Int) := by omega
                by_cases h48 : s[0].toNat = 48
                · have hq : ((s[0].toNat : Int) == 48) = true := beq_iff_eq.2 (by omega)
                  have HC := Lib.hid HD.out.cut
                  have hcs : (s.extract 1 s.size).size = s.size - 1 := by rw [ByteArray.size_extract]; omega
                  generalize hex : s.extract 1 s.size = s2 at *
                  clear h48
                  go_wp2_with (simp only [hex])
                  go_roundw
                  case rel => exact ⟨s2, rfl, HC.out, by omega, by first | rfl | trivial⟩
                  case measure => (show ByteArray.size _ < ByteArray.size _); omega
                · have hq : ((s[0].toNat : Int) == 48) = false := beq_eq_false_iff_ne.2 (by omega)
                  have HN := Lib.hid (num_of HD.out hpos (.inr h48))
                  clear h48
                  have x0 := Q3q.out.cell 0
                  have x1 := Q3q.out.cell 1
                  have f0 := Q3q.out.frozen 0
                  have f1 := Q3q.out.frozen 1
                  simp only [List.getElem?_toArray, List.getElem?_cons_succ, List.getElem?_cons_zero] at x0 x1
                  go_wp2_with fail
                  go_roundw
                  case rel => exact ⟨2, t0, s, by decide, rfl, Q1q.out.other _ (by simp; omega), Q2q.out.other _ (by simp), Q3q.out.set 1 _, fun _ => N0.out (by decide), fun _ => HN.out, hBq.setCell (by simp; omega) _⟩
                  case measure => simp [Go.RowKit.intOf]
              · have h1i : ¬ (1 : Int) < (s.size : Int) := by omega
                have h1j : (s.size : Int) ≤ 1 := by omega
                have HN := Lib.hid (num_of HD.out hpos (.inl (by omega)))
                have x0 := Q3q.out.cell 0
                have x1 := Q3q.out.cell 1
                have f0 := Q3q.out.frozen 0
                have f1 := Q3q.out.frozen 1
                simp only [List.getElem?_toArray, List.getElem?_cons_succ, List.getElem?_cons_zero] at x0 x1
                go_wp2_with fail
                go_roundw
                case rel => exact ⟨2, t0, s, by decide, rfl, Q1q.out.other _ (by simp; omega), Q2q.out.other _ (by simp), Q3q.out.set 1 _, fun _ => N0.out (by decide), fun _ => HN.out, hBq.setCell (by simp; omega) _⟩
                case measure => simp [Go.RowKit.intOf]
      · obtain rfl : k = 2 := by omega
        have HN0 := Lib.hid (N0.out (by decide))
        have HN1 := Lib.hid (N1.out (by decide))
        have hki : ¬ ((2 : Nat) : Int) < 2 := by decide
        have x0 := q3.cell 0
        have x1 := q3.cell 1
        have f1 := q3.frozen 1
        have yy0 := q1.cell 0
        simp only [List.getElem?_toArray, List.getElem?_cons_succ, List.getElem?_cons_zero] at x0 x1 yy0
        clear PNa PCa PNb PCb
        by_cases h1 : t1.data.toList = [48]
        · have hst1 := str_eq48 h1
          clear h1
          have r3 : BlkT (wr.setCell ⟨w.heap.size + 1 + 1, 1, none⟩ (.string ⟨#[55]⟩)) (w.heap.size + 1 + 1) #[.string t0, .string ⟨#[55]⟩] 51 := q3.set 1 _
          have r2 : BlkT (wr.setCell ⟨w.heap.size + 1 + 1, 1, none⟩ (.string ⟨#[55]⟩)) (w.heap.size + 1) #[.string ⟨#[]⟩, .string ⟨#[]⟩] 26 := q2.other _ (by simp)
          have r1 : BlkT (wr.setCell ⟨w.heap.size + 1 + 1, 1, none⟩ (.string ⟨#[55]⟩)) w.heap.size #[.int .i64 a, .int .i64 b, .int .i64 c, .int .i64 d] 22 := q1.other _ (by simp; omega)
          have hBw : Below w.heap.size w (wr.setCell ⟨w.heap.size + 1 + 1, 1, none⟩ (.string ⟨#[55]⟩)) := hBr.setCell (by simp; omega) _
          clear q1 q2 q3
          have HQ3 := Lib.hid r3
          have HQ2 := Lib.hid r2
          have HQ1 := Lib.hid r1
          have y0 := r1.cell 0
          have z0 := r3.cell 0
          have z1 := r3.cell 1
          have g0 := r3.frozen 0
          have g1 := r3.frozen 1
          simp only [List.getElem?_toArray, List.getElem?_cons_succ, List.getElem?_cons_zero] at y0 z0 z1
          clear r1 r2 r3
          go_wp2_with fail
          refine (P2.out _).mono ?_
          rintro r Vp ⟨rfl, rfl⟩
          generalize pickN a 2 = p2 at *
          by_cases hp2 : p2 = 0
          · have hpq : (p2 == 0) = true := beq_iff_eq.2 hp2
            clear hp2
            by_cases h0 : t0.data.toList = [48]
            · have hst0 := str_eq48 h0
              have hst0' : (t0.toList != [48]) = false := by rw [bne, hst0]; rfl
              clear h0
              have MKK := MK.out (N3.iV (t0)) (N3.iV (⟨#[55]⟩)) (lim100 (num_ok HN0.out).2.1) (lim100 (num_ok num_seven).2.1) (num_ne num_seven (by decide))
              rw [N3.S_iV (num_ok HN0.out).1, N3.S_iV (num_ok num_seven).1] at MKK
              have HR := Lib.hid (And.intro (mk_fit (lim100 (num_ok HN0.out).2.1) (lim100 (num_ok num_seven).2.1) (num_ne num_seven (by decide))) (And.intro (Nat.lt_of_le_of_lt (mk_natAbs (n := N3.iV (t0)) (num_ne num_seven (by decide))).1 (num_ok HN0.out).2.1) (Nat.lt_of_le_of_lt (mk_natAbs (n := N3.iV (t0)) (num_ne num_seven (by decide))).2 (num_ok num_seven).2.1)))
              generalize N3.mk (N3.iV (t0)) (N3.iV (⟨#[55]⟩)) = rr at *
              have MKK := Lib.hid MKK
              go_wp2_with fail
              refine (MKK.out _).mono ?_
              rintro r Vm ⟨rfl, hbm⟩
              generalize hsa : (strR rr).1 = sa at *
              generalize hsb : (strR rr).2 = sb at *
              have hBm := hBw.trans (hbm.mono hBw.size)
              have j2 := BlkT.keep HQ2.out hbm
              have hbn : Below Vm.heap.size Vm (Vm.alloc (.cells #[.string sa, .string sb] 26)) := (Below.refl _ _).alloc (Nat.le_refl _) _
              have j3 := BlkT.newAt Vm #[.string sa, .string sb] 26 rfl
              have j4 := BlkT.keep j2 hbn
              have hBn := hBm.trans (hbn.mono hBm.size)
              have b0 := j3.cell 0
              have b1 := j3.cell 1
              have e0 := j4.cell 0
              have e1 := j4.cell 1
              have g0 := j4.frozen 0
              have g1 := j4.frozen 1
              simp only [List.getElem?_toArray, List.getElem?_cons_succ, List.getElem?_cons_zero] at b0 b1 e0 e1
              have HJ := Lib.hid j4
              have HBn := Lib.hid hBn
              clear j2 j3 j4 hbn hBn hbm
              generalize hVn : Vm.alloc (.cells #[.string sa, .string sb] 26) = Vn at *
              go_wp2_with (simp only)
              have hz : BlkT _ _ #[.string sa, .string sb] 26 := (HJ.out.set 0 (.string sa)).set 1 (.string sb)
              have z0 := hz.cell 0
              have z1 := hz.cell 1
              simp only [List.getElem?_toArray, List.getElem?_cons_succ, List.getElem?_cons_zero] at z0 z1
              refine bodyPost_ret (v := ratV sa sb) (by simp [results, Tryz.results21, go_sem, z0, z1]) rfl ?_
              exact ⟨rr, by rw [hsa, hsb], HR.out.1, HR.out.2.1, HR.out.2.2, (HBn.out.setCell (by simp) _).setCell (by simp) _⟩
            · have hst0 := str_ne48 h0
              have hst0' : (t0.toList != [48]) = true := by rw [bne, hst0]; rfl
              have HNG := Lib.hid (neg_ok HN0.out h0)
              have hz0 := HN0.out.2
              have rs1 : ¬ 9223372036854775807 < 1 + t0.size := by omega
              have rs2 : ¬ 9223372036854775807 < (⟨#[45]⟩ : ByteArray).size + t0.size := by show ¬ 9223372036854775807 < 1 + t0.size; omega
              obtain ⟨nt, hnt⟩ : ∃ t, (⟨#[45]⟩ : ByteArray) ++ t0 = t := ⟨_, rfl⟩
              rw [hnt] at HNG
              clear h0
              have w3 : BlkT ((wr.setCell ⟨w.heap.size + 1 + 1, 1, none⟩ (.string ⟨#[55]⟩)).setCell ⟨w.heap.size + 1 + 1, 0, none⟩ (.string nt)) (w.heap.size + 1 + 1) #[.string nt, .string ⟨#[55]⟩] 51 := HQ3.out.set 0 _
              have w2 : BlkT ((wr.setCell ⟨w.heap.size + 1 + 1, 1, none⟩ (.string ⟨#[55]⟩)).setCell ⟨w.heap.size + 1 + 1, 0, none⟩ (.string nt)) (w.heap.size + 1) #[.string ⟨#[]⟩, .string ⟨#[]⟩] 26 := HQ2.out.other _ (by simp)
              have hBz : Below w.heap.size w ((wr.setCell ⟨w.heap.size + 1 + 1, 1, none⟩ (.string ⟨#[55]⟩)).setCell ⟨w.heap.size + 1 + 1, 0, none⟩ (.string nt)) := hBw.setCell (by simp; omega) _
              have zz0 := w3.cell 0
              have zz1 := w3.cell 1
              simp only [List.getElem?_toArray, List.getElem?_cons_succ, List.getElem?_cons_zero] at zz0 zz1
              have HW2 := Lib.hid w2
              clear w2 w3
              have MKK := MK.out (N3.iV (nt)) (N3.iV (⟨#[55]⟩)) (lim100 HNG.out.2) (lim100 (num_ok num_seven).2.1) (num_ne num_seven (by decide))
              rw [N3.S_iV HNG.out.1, N3.S_iV (num_ok num_seven).1] at MKK
              have HR := Lib.hid (And.intro (mk_fit (lim100 HNG.out.2) (lim100 (num_ok num_seven).2.1) (num_ne num_seven (by decide))) (And.intro (Nat.lt_of_le_of_lt (mk_natAbs (n := N3.iV (nt)) (num_ne num_seven (by decide))).1 HNG.out.2) (Nat.lt_of_le_of_lt (mk_natAbs (n := N3.iV (nt)) (num_ne num_seven (by decide))).2 (num_ok num_seven).2.1)))
              generalize N3.mk (N3.iV (nt)) (N3.iV (⟨#[55]⟩)) = rr at *
              have MKK := Lib.hid MKK
              go_wp2_with (simp only)
              refine (MKK.out _).mono ?_
              rintro r Vm ⟨rfl, hbm⟩
              generalize hsa : (strR rr).1 = sa at *
              generalize hsb : (strR rr).2 = sb at *
              have hBm := hBz.trans (hbm.mono hBz.size)
              have j2 := BlkT.keep HW2.out hbm
              have hbn : Below Vm.heap.size Vm (Vm.alloc (.cells #[.string sa, .string sb] 26)) := (Below.refl _ _).alloc (Nat.le_refl _) _
              have j3 := BlkT.newAt Vm #[.string sa, .string sb] 26 rfl
              have j4 := BlkT.keep j2 hbn
              have hBn := hBm.trans (hbn.mono hBm.size)
              have b0 := j3.cell 0
              have b1 := j3.cell 1
              have e0 := j4.cell 0
              have e1 := j4.cell 1
              have g0 := j4.frozen 0
              have g1 := j4.frozen 1
              simp only [List.getElem?_toArray, List.getElem?_cons_succ, List.getElem?_cons_zero] at b0 b1 e0 e1
              have HJ := Lib.hid j4
              have HBn := Lib.hid hBn
              clear j2 j3 j4 hbn hBn hbm
              generalize hVn : Vm.alloc (.cells #[.string sa, .string sb] 26) = Vn at *
              go_wp2_with (simp only)
              have hz : BlkT _ _ #[.string sa, .string sb] 26 := (HJ.out.set 0 (.string sa)).set 1 (.string sb)
              have z0 := hz.cell 0
              have z1 := hz.cell 1
              simp only [List.getElem?_toArray, List.getElem?_cons_succ, List.getElem?_cons_zero] at z0 z1
              refine bodyPost_ret (v := ratV sa sb) (by simp [results, Tryz.results21, go_sem, z0, z1]) rfl ?_
              exact ⟨rr, by rw [hsa, hsb], HR.out.1, HR.out.2.1, HR.out.2.2, (HBn.out.setCell (by simp) _).setCell (by simp) _⟩
          · have hpq : (p2 == 0) = false := beq_eq_false_iff_ne.2 hp2
            clear hp2
            have MKK := MK.out (N3.iV (t0)) (N3.iV (⟨#[55]⟩)) (lim100 (num_ok HN0.out).2.1) (lim100 (num_ok num_seven).2.1) (num_ne num_seven (by decide))
            rw [N3.S_iV (num_ok HN0.out).1, N3.S_iV (num_ok num_seven).1] at MKK
            have HR := Lib.hid (And.intro (mk_fit (lim100 (num_ok HN0.out).2.1) (lim100 (num_ok num_seven).2.1) (num_ne num_seven (by decide))) (And.intro (Nat.lt_of_le_of_lt (mk_natAbs (n := N3.iV (t0)) (num_ne num_seven (by decide))).1 (num_ok HN0.out).2.1) (Nat.lt_of_le_of_lt (mk_natAbs (n := N3.iV (t0)) (num_ne num_seven (by decide))).2 (num_ok num_seven).2.1)))
            generalize N3.mk (N3.iV (t0)) (N3.iV (⟨#[55]⟩)) = rr at *
            have MKK := Lib.hid MKK
            go_wp2_with fail
            refine (MKK.out _).mono ?_
            rintro r Vm ⟨rfl, hbm⟩
            generalize hsa : (strR rr).1 = sa at *
            generalize hsb : (strR rr).2 = sb at *
            have hBm := hBw.trans (hbm.mono hBw.size)
            have j2 := BlkT.keep HQ2.out hbm
            have hbn : Below Vm.heap.size Vm (Vm.alloc (.cells #[.string sa, .string sb] 26)) := (Below.refl _ _).alloc (Nat.le_refl _) _
            have j3 := BlkT.newAt Vm #[.string sa, .string sb] 26 rfl
            have j4 := BlkT.keep j2 hbn
            have hBn := hBm.trans (hbn.mono hBm.size)
            have b0 := j3.cell 0
            have b1 := j3.cell 1
            have e0 := j4.cell 0
            have e1 := j4.cell 1
            have g0 := j4.frozen 0
            have g1 := j4.frozen 1
            simp only [List.getElem?_toArray, List.getElem?_cons_succ, List.getElem?_cons_zero] at b0 b1 e0 e1
            have HJ := Lib.hid j4
            have HBn := Lib.hid hBn
            clear j2 j3 j4 hbn hBn hbm
            generalize hVn : Vm.alloc (.cells #[.string sa, .string sb] 26) = Vn at *
            go_wp2_with (simp only)
            have hz : BlkT _ _ #[.string sa, .string sb] 26 := (HJ.out.set 0 (.string sa)).set 1 (.string sb)
            have z0 := hz.cell 0
            have z1 := hz.cell 1
            simp only [List.getElem?_toArray, List.getElem?_cons_succ, List.getElem?_cons_zero] at z0 z1
            refine bodyPost_ret (v := ratV sa sb) (by simp [results, Tryz.results21, go_sem, z0, z1]) rfl ?_
            exact ⟨rr, by rw [hsa, hsb], HR.out.1, HR.out.2.1, HR.out.2.2, (HBn.out.setCell (by simp) _).setCell (by simp) _⟩
        · have hst1 := str_ne48 h1
          have HT1 := Lib.hid h1
          clear h1
          have r3 := q3
          have r2 := q2
          have r1 := q1
          have hBw := hBr
          clear q1 q2 q3
          have HQ3 := Lib.hid r3
          have HQ2 := Lib.hid r2
          have HQ1 := Lib.hid r1
          have y0 := r1.cell 0
          have z0 := r3.cell 0
          have z1 := r3.cell 1
          have g0 := r3.frozen 0
          have g1 := r3.frozen 1
          simp only [List.getElem?_toArray, List.getElem?_cons_succ, List.getElem?_cons_zero] at y0 z0 z1
          clear r1 r2 r3
          go_wp2_with fail
          refine (P2.out _).mono ?_
          rintro r Vp ⟨rfl, rfl⟩
          generalize pickN a 2 = p2 at *
          by_cases hp2 : p2 = 0
          · have hpq : (p2 == 0) = true := beq_iff_eq.2 hp2
            clear hp2
            by_cases h0 : t0.data.toList = [48]
            · have hst0 := str_eq48 h0
              have hst0' : (t0.toList != [48]) = false := by rw [bne, hst0]; rfl
              clear h0
              have MKK := MK.out (N3.iV (t0)) (N3.iV (t1)) (lim100 (num_ok HN0.out).2.1) (lim100 (num_ok HN1.out).2.1) (num_ne HN1.out HT1.out)
              rw [N3.S_iV (num_ok HN0.out).1, N3.S_iV (num_ok HN1.out).1] at MKK
              have HR := Lib.hid (And.intro (mk_fit (lim100 (num_ok HN0.out).2.1) (lim100 (num_ok HN1.out).2.1) (num_ne HN1.out HT1.out)) (And.intro (Nat.lt_of_le_of_lt (mk_natAbs (n := N3.iV (t0)) (num_ne HN1.out HT1.out)).1 (num_ok HN0.out).2.1) (Nat.lt_of_le_of_lt (mk_natAbs (n := N3.iV (t0)) (num_ne HN1.out HT1.out)).2 (num_ok HN1.out).2.1)))
              generalize N3.mk (N3.iV (t0)) (N3.iV (t1)) = rr at *
              have MKK := Lib.hid MKK
              go_wp2_with fail
              refine (MKK.out _).mono ?_
              rintro r Vm ⟨rfl, hbm⟩
              generalize hsa : (strR rr).1 = sa at *
              generalize hsb : (strR rr).2 = sb at *
              have hBm := hBw.trans (hbm.mono hBw.size)
              have j2 := BlkT.keep HQ2.out hbm
              have hbn : Below Vm.heap.size Vm (Vm.alloc (.cells #[.string sa, .string sb] 26)) := (Below.refl _ _).alloc (Nat.le_refl _) _
              have j3 := BlkT.newAt Vm #[.string sa, .string sb] 26 rfl
              have j4 := BlkT.keep j2 hbn
              have hBn := hBm.trans (hbn.mono hBm.size)
              have b0 := j3.cell 0
              have b1 := j3.cell 1
              have e0 := j4.cell 0
              have e1 := j4.cell 1
              have g0 := j4.frozen 0
              have g1 := j4.frozen 1
              simp only [List.getElem?_toArray, List.getElem?_cons_succ, List.getElem?_cons_zero] at b0 b1 e0 e1
              have HJ := Lib.hid j4
              have HBn := Lib.hid hBn
              clear j2 j3 j4 hbn hBn hbm
              generalize hVn : Vm.alloc (.cells #[.string sa, .string sb] 26) = Vn at *
              go_wp2_with (simp only)
              have hz : BlkT _ _ #[.string sa, .string sb] 26 := (HJ.out.set 0 (.string sa)).set 1 (.string sb)
              have z0 := hz.cell 0
              have z1 := hz.cell 1
              simp only [List.getElem?_toArray, List.getElem?_cons_succ, List.getElem?_cons_zero] at z0 z1
              refine bodyPost_ret (v := ratV sa sb) (by simp [results, Tryz.results21, go_sem, z0, z1]) rfl ?_
              exact ⟨rr, by rw [hsa, hsb], HR.out.1, HR.out.2.1, HR.out.2.2, (HBn.out.setCell (by simp) _).setCell (by simp) _⟩
            · have hst0 := str_ne48 h0
              have hst0' : (t0.toList != [48]) = true := by rw [bne, hst0]; rfl
              have HNG := Lib.hid (neg_ok HN0.out h0)
              have hz0 := HN0.out.2
              have rs1 : ¬ 9223372036854775807 < 1 + t0.size := by omega
              have rs2 : ¬ 9223372036854775807 < (⟨#[45]⟩ : ByteArray).size + t0.size := by show ¬ 9223372036854775807 < 1 + t0.size; omega
              obtain ⟨nt, hnt⟩ : ∃ t, (⟨#[45]⟩ : ByteArray) ++ t0 = t := ⟨_, rfl⟩
              rw [hnt] at HNG
              clear h0
              have w3 : BlkT (wr.setCell ⟨w.heap.size + 1 + 1, 0, none⟩ (.string nt)) (w.heap.size + 1 + 1) #[.string nt, .string t1] 51 := HQ3.out.set 0 _
              have w2 : BlkT (wr.setCell ⟨w.heap.size + 1 + 1, 0, none⟩ (.string nt)) (w.heap.size + 1) #[.string ⟨#[]⟩, .string ⟨#[]⟩] 26 := HQ2.out.other _ (by simp)
              have hBz : Below w.heap.size w (wr.setCell ⟨w.heap.size + 1 + 1, 0, none⟩ (.string nt)) := hBw.setCell (by simp; omega) _
              have zz0 := w3.cell 0
              have zz1 := w3.cell 1
              simp only [List.getElem?_toArray, List.getElem?_cons_succ, List.getElem?_cons_zero] at zz0 zz1
              have HW2 := Lib.hid w2
              clear w2 w3
              have MKK := MK.out (N3.iV (nt)) (N3.iV (t1)) (lim100 HNG.out.2) (lim100 (num_ok HN1.out).2.1) (num_ne HN1.out HT1.out)
              rw [N3.S_iV HNG.out.1, N3.S_iV (num_ok HN1.out).1] at MKK
              have HR := Lib.hid (And.intro (mk_fit (lim100 HNG.out.2) (lim100 (num_ok HN1.out).2.1) (num_ne HN1.out HT1.out)) (And.intro (Nat.lt_of_le_of_lt (mk_natAbs (n := N3.iV (nt)) (num_ne HN1.out HT1.out)).1 HNG.out.2) (Nat.lt_of_le_of_lt (mk_natAbs (n := N3.iV (nt)) (num_ne HN1.out HT1.out)).2 (num_ok HN1.out).2.1)))
              generalize N3.mk (N3.iV (nt)) (N3.iV (t1)) = rr at *
              have MKK := Lib.hid MKK
              go_wp2_with (simp only)
              refine (MKK.out _).mono ?_
              rintro r Vm ⟨rfl, hbm⟩
              generalize hsa : (strR rr).1 = sa at *
              generalize hsb : (strR rr).2 = sb at *
              have hBm := hBz.trans (hbm.mono hBz.size)
              have j2 := BlkT.keep HW2.out hbm
              have hbn : Below Vm.heap.size Vm (Vm.alloc (.cells #[.string sa, .string sb] 26)) := (Below.refl _ _).alloc (Nat.le_refl _) _
              have j3 := BlkT.newAt Vm #[.string sa, .string sb] 26 rfl
              have j4 := BlkT.keep j2 hbn
              have hBn := hBm.trans (hbn.mono hBm.size)
              have b0 := j3.cell 0
              have b1 := j3.cell 1
              have e0 := j4.cell 0
              have e1 := j4.cell 1
              have g0 := j4.frozen 0
              have g1 := j4.frozen 1
              simp only [List.getElem?_toArray, List.getElem?_cons_succ, List.getElem?_cons_zero] at b0 b1 e0 e1
              have HJ := Lib.hid j4
              have HBn := Lib.hid hBn
              clear j2 j3 j4 hbn hBn hbm
              generalize hVn : Vm.alloc (.cells #[.string sa, .string sb] 26) = Vn at *
              go_wp2_with (simp only)
              have hz : BlkT _ _ #[.string sa, .string sb] 26 := (HJ.out.set 0 (.string sa)).set 1 (.string sb)
              have z0 := hz.cell 0
              have z1 := hz.cell 1
              simp only [List.getElem?_toArray, List.getElem?_cons_succ, List.getElem?_cons_zero] at z0 z1
              refine bodyPost_ret (v := ratV sa sb) (by simp [results, Tryz.results21, go_sem, z0, z1]) rfl ?_
              exact ⟨rr, by rw [hsa, hsb], HR.out.1, HR.out.2.1, HR.out.2.2, (HBn.out.setCell (by simp) _).setCell (by simp) _⟩
          · have hpq : (p2 == 0) = false := beq_eq_false_iff_ne.2 hp2
            clear hp2
            have MKK := MK.out (N3.iV (t0)) (N3.iV (t1)) (lim100 (num_ok HN0.out).2.1) (lim100 (num_ok HN1.out).2.1) (num_ne HN1.out HT1.out)
            rw [N3.S_iV (num_ok HN0.out).1, N3.S_iV (num_ok HN1.out).1] at MKK
            have HR := Lib.hid (And.intro (mk_fit (lim100 (num_ok HN0.out).2.1) (lim100 (num_ok HN1.out).2.1) (num_ne HN1.out HT1.out)) (And.intro (Nat.lt_of_le_of_lt (mk_natAbs (n := N3.iV (t0)) (num_ne HN1.out HT1.out)).1 (num_ok HN0.out).2.1) (Nat.lt_of_le_of_lt (mk_natAbs (n := N3.iV (t0)) (num_ne HN1.out HT1.out)).2 (num_ok HN1.out).2.1)))
            generalize N3.mk (N3.iV (t0)) (N3.iV (t1)) = rr at *
            have MKK := Lib.hid MKK
            go_wp2_with fail
            refine (MKK.out _).mono ?_
            rintro r Vm ⟨rfl, hbm⟩
            generalize hsa : (strR rr).1 = sa at *
            generalize hsb : (strR rr).2 = sb at *
            have hBm := hBw.trans (hbm.mono hBw.size)
            have j2 := BlkT.keep HQ2.out hbm
            have hbn : Below Vm.heap.size Vm (Vm.alloc (.cells #[.string sa, .string sb] 26)) := (Below.refl _ _).alloc (Nat.le_refl _) _
            have j3 := BlkT.newAt Vm #[.string sa, .string sb] 26 rfl
            have j4 := BlkT.keep j2 hbn
            have hBn := hBm.trans (hbn.mono hBm.size)
            have b0 := j3.cell 0
            have b1 := j3.cell 1
            have e0 := j4.cell 0
            have e1 := j4.cell 1
            have g0 := j4.frozen 0
            have g1 := j4.frozen 1
            simp only [List.getElem?_toArray, List.getElem?_cons_succ, List.getElem?_cons_zero] at b0 b1 e0 e1
            have HJ := Lib.hid j4
            have HBn := Lib.hid hBn
            clear j2 j3 j4 hbn hBn hbm
            generalize hVn : Vm.alloc (.cells #[.string sa, .string sb] 26) = Vn at *
            go_wp2_with (simp only)
            have hz : BlkT _ _ #[.string sa, .string sb] 26 := (HJ.out.set 0 (.string sa)).set 1 (.string sb)
            have z0 := hz.cell 0
            have z1 := hz.cell 1
            simp only [List.getElem?_toArray, List.getElem?_cons_succ, List.getElem?_cons_zero] at z0 z1
            refine bodyPost_ret (v := ratV sa sb) (by simp [results, Tryz.results21, go_sem, z0, z1]) rfl ?_
            exact ⟨rr, by rw [hsa, hsb], HR.out.1, HR.out.2.1, HR.out.2.2, (HBn.out.setCell (by simp) _).setCell (by simp) _⟩
end Go.Proofs.YtjnpenljgfdaiaaGreatDoor

/- nadirlaw04: RationalLowest. -/
import Derived.Deep.RegionHeld3
import Derived.Test.YtjnpenljgfdaiaaGreatDoorQ8
import Derived.Test.YtjnpenljgfdaiaaGreatDoorHA
namespace Go.Proofs.YtjnpenljgfdaiaaGreatDoor
open Go.RowKit Go.Shelf Lib

theorem mul10_S {x y : Int} (hx : x.natAbs < N3.lim) (hy : y.natAbs < N3.lim) (hr : (x * y).natAbs < N3.lim) (w : World) : Calls Tryz.prog 47 #[.string (N3.S x), .string (N3.S y)] w fun e w' => e = .returned (.tuple #[.string (N3.S (x * y)), .int .i64 0]) ∧ Below w.heap.size w w' := by
  have k := mul10 (N3.S x) (N3.S y) w (by have := S_size hx; omega) (by have := S_size hy; omega)
  rw [N3.mulO_S hx hy, N3.outS_some hr, N3.outE_some hr] at k; exact k
theorem make_S {x y : Int} (hx : x.natAbs < N3.lim) (hy : y.natAbs < N3.lim) (h0 : y ≠ 0) (w : World) (he : EnvW w) : Calls Tryz.prog 62 #[.string (N3.S x), .string (N3.S y)] w fun e w' => e = .returned (.tuple #[ratV (N3.S (N3.mk x y).1) (N3.S (N3.mk x y).2), .int .i64 0]) ∧ Below w.heap.size w w' := by
  have k := make_u (N3.S x) (N3.S y) w (by have := S_size hx; omega) (by have := S_size hy; omega) he
  rw [N3.okS_S hx, N3.okS_S hy, show (!(true && true)) = false from rfl, red_S hx hy h0] at k
  exact k
theorem low_scale {r : Int × Int} (h : N3.Low r) {k : Int} (hk : k ≠ 0) : N3.mk (r.1 * k) (r.2 * k) = r := by
  have h2 : r.2 ≠ 0 := N3.low_ne h
  have e := (N3.mk_eq (n := r.1 * k) (d := r.2 * k) (m := r.1) (c := r.2) (Int.mul_ne_zero h2 hk) h2).2 (by ac_rfl)
  rw [e, N3.mk_self h]
theorem zero_low {k : Int} (hk : k ≠ 0) : N3.mk 0 k = (0, 1) := by
  have e := (N3.mk_eq (n := 0) (d := k) (m := 0) (c := 1) hk (by decide)).2 (by rw [Int.zero_mul, Int.zero_mul])
  rw [e]; exact N3.mk_self (N3.low_int 0)

set_option maxRecDepth 100000 in
set_option maxHeartbeats 8000000 in
theorem lowest_pos (a b c d f : Int) (w : World) (he : EnvR w) (la : -9223372036854775808 ≤ a) (ua : a ≤ 9223372036854775807) (lb : -9223372036854775808 ≤ b) (ub : b ≤ 9223372036854775807) (lc : -9223372036854775808 ≤ c) (uc : c ≤ 9223372036854775807) (ld : -9223372036854775808 ≤ d) (ud : d ≤ 9223372036854775807) (lf : -9223372036854775808 ≤ f) (uf : f ≤ 9223372036854775807) :
    Calls Tryz.prog 15 #[.agg #[.int .i64 a, .int .i64 b, .int .i64 c, .int .i64 d], .int .i64 f, .bool false] w fun e w' => e = .returned (.bool true) ∧ Below w.heap.size w w' := by
  have HE := Lib.hid he
  clear he
  have LG := Lib.hid (fun V => long21 a b c d V la ua lb ub lc uc ld ud)
  have PK := Lib.hid (fun V => pick28 f 1000000 V lf uf (by decide) (by decide))
  have hpb := pickN_bd f (show (0 : Int) < 1000000 by decide)
  clear la ua lb ub lc uc ld ud lf uf
  generalize pickN f 1000000 = pf at *
  have hw1 : IntKind.i64.wrap (1 + pf) = 1 + pf := by rw [IntKind.wrap_i64]; omega
  have hw2 : IntKind.i64.wrap (-(1 + pf)) = -(1 + pf) := by rw [IntKind.wrap_i64]; omega
  obtain ⟨k, hk⟩ : ∃ k : Int, k = 1 + pf := ⟨_, rfl⟩
  have hk7 : k.natAbs < 10 ^ 7 := by rw [show (10 : Nat) ^ 7 = 10000000 from rfl]; omega
  have hk0 : k ≠ 0 := by omega
  have hkl := N3.lim_of hk7 (by decide)
  have FI := Lib.hid (fun V => fromInt10 k V (by omega) (by omega))
  have hks := hk.symm
  clear hk
  obtain ⟨W0, hW0⟩ : ∃ W, w.alloc (.cells #[.int .i64 a, .int .i64 b, .int .i64 c, .int .i64 d] 22) = W := ⟨_, rfl⟩
  have kb : BlkT W0 w.heap.size #[.int .i64 a, .int .i64 b, .int .i64 c, .int .i64 d] 22 := hW0 ▸ BlkT.newAt w _ _ rfl
  have hBw0 : Below w.heap.size w W0 := hW0 ▸ (Below.refl _ _).alloc (Nat.le_refl _) _
  go_enter Tryz.func15, Tryz.ntmps15
  go_wp2_with (simp only [hW0])
  refine (sane04 _ (HE.out.below hBw0)).mono ?_
  rintro r V1 ⟨rfl, hb1⟩
  have hB1 := hBw0.trans (hb1.mono hBw0.size)
  have kb := BlkT.keep kb hb1
  have kbc0 := kb.cell 0
  have kbc1 := kb.cell 1
  have kbc2 := kb.cell 2
  have kbc3 := kb.cell 3
  simp only [List.getElem?_toArray, List.getElem?_cons_succ, List.getElem?_cons_zero] at kbc0 kbc1 kbc2 kbc3
  go_wp2_with fail
  refine (LG.out _).mono ?_
  rintro r V2 ⟨rr, rfl, hfit, hn100, hd100, hb2⟩
  have hB2 := hB1.trans (hb2.mono hB1.size)
  have kb := BlkT.keep kb hb2
  clear kbc0 kbc1 kbc2 kbc3
  have hln := hfit.num
  have hld := hfit.den
  have hnk : (rr.1 * k).natAbs < N3.lim := N3.lim_of (N3.natAbs_lt (k := 200) hn100 hk7 (by decide)) (by decide)
  have hdk : (rr.2 * k).natAbs < N3.lim := N3.lim_of (N3.natAbs_lt (k := 200) hd100 hk7 (by decide)) (by decide)
  have hd0 := N3.low_ne hfit.low
  have M1 := Lib.hid (fun V => mul10_S hln hkl hnk V)
  have M2 := Lib.hid (fun V => mul10_S hld hkl hdk V)
  have A1 := Lib.hid (fun V (hV : EnvR V) => by have q := make_S hnk hdk (Int.mul_ne_zero hd0 hk0) V hV.env; rw [low_scale hfit.low hk0] at q; exact q)
  have A2 := Lib.hid (fun V (hV : EnvR V) => by have q := make_S hln hld hd0 V hV.env; rw [N3.mk_self hfit.low] at q; exact q)
  have A3 := Lib.hid (fun V (hV : EnvR V) => by have q := make_S lim0 hkl hk0 V hV.env; rw [zero_low hk0, S_zero, S_one] at q; exact q)
  have z1 := S_size hln
  have z2 := S_size hld
  have VV := Lib.hid (fun V (hV : EnvR V) => by have q := valid04 (N3.S rr.1) (N3.S rr.2) V (by omega) (by omega) hV.env; rw [valid_S hfit] at q; exact q)
  have CV := Lib.hid (fun V (hV : EnvR V) => by have q := compare04 (N3.S rr.1) (N3.S rr.2) (N3.S rr.1) (N3.S rr.2) V (by omega) (by omega) (by omega) (by omega) hV.env; rw [cmp_S hfit hfit, (N3.cmpF_eq hfit.low hfit.low).2 rfl] at q; exact q)
  have PV := Lib.hid (fun V (hV : EnvR V) => print04 (N3.S rr.1) (N3.S rr.2) V (by omega) (by omega) hV.env)
  dsimp only [strR]
  clear z1 z2 hnk hdk hln hld hd0 hfit hn100 hd100 hk7 hk0 hkl
  generalize printR (N3.S rr.1) (N3.S rr.2) = pr at *
  generalize N3.S (rr.1 * k) = snk at *
  generalize N3.S (rr.2 * k) = sdk at *
  generalize N3.S rr.1 = sn at *
  generalize N3.S rr.2 = sd at *
  generalize N3.S k = sk at *
  go_wp2_with fail
  generalize hW2 : World.alloc V2 _ = W2
  have hw2 : Below V2.heap.size V2 W2 := hW2 ▸ (Below.refl _ _).alloc (Nat.le_refl _) _
  have hBw2 := hB2.trans (hw2.mono hB2.size)
  have k8 : BlkT W2 V2.heap.size #[.string sn, .string sd] 26 := hW2 ▸ BlkT.newAt _ _ _ rfl
  clear hW2
  refine (PK.out _).mono ?_
  rintro r V ⟨rfl, rfl⟩
  go_wp2_with (simp only [hks])
  refine (FI.out _).mono ?_
  rintro r V3 ⟨rfl, hb3⟩
  have hB3 := hBw2.trans (hb3.mono hBw2.size)
  have k8 := BlkT.keep k8 hb3
  have k8c0 := k8.cell 0
  have k8c1 := k8.cell 1
  simp only [List.getElem?_toArray, List.getElem?_cons_succ, List.getElem?_cons_zero] at k8c0 k8c1
  go_wp2_with fail
  refine (M1.out _).mono ?_
  rintro r V4 ⟨rfl, hb4⟩
  have hB4 := hB3.trans (hb4.mono hB3.size)
  have k8 := BlkT.keep k8 hb4
  clear k8c0 k8c1
  have k8c0 := k8.cell 0
  have k8c1 := k8.cell 1
  simp only [List.getElem?_toArray, List.getElem?_cons_succ, List.getElem?_cons_zero] at k8c0 k8c1
  go_wp2_with fail
  refine (M2.out _).mono ?_
  rintro r V5 ⟨rfl, hb5⟩
  have hB5 := hB4.trans (hb5.mono hB4.size)
  have k8 := BlkT.keep k8 hb5
  clear k8c0 k8c1
  go_wp2_with fail
  refine (A1.out _ (HE.out.below hB5)).mono ?_
  rintro r V6 ⟨rfl, hb6⟩
  have hB6 := hB5.trans (hb6.mono hB5.size)
  have k8 := BlkT.keep k8 hb6
  go_upto_region 10 with (fail)
  generalize hW6 : World.alloc V6 _ = W6
  have hw6 : Below V6.heap.size V6 W6 := hW6 ▸ (Below.refl _ _).alloc (Nat.le_refl _) _
  have hBw6 := hB6.trans (hw6.mono hB6.size)
  have k8 := BlkT.keep k8 hw6
  have k15 : BlkT W6 V6.heap.size #[.string sn, .string sd] 26 := hW6 ▸ BlkT.newAt _ _ _ rfl
  clear hW6
  have k8c0 := k8.cell 0
  have k8c1 := k8.cell 1
  simp only [List.getElem?_toArray, List.getElem?_cons_succ, List.getElem?_cons_zero] at k8c0 k8c1
  go_wp2_with fail
  refine (A2.out _ (HE.out.below hBw6)).mono ?_
  rintro r V7 ⟨rfl, hb7⟩
  have hB7 := hBw6.trans (hb7.mono hBw6.size)
  have k8 := BlkT.keep k8 hb7
  have k15 := BlkT.keep k15 hb7
  clear k8c0 k8c1
  go_wp2_with fail
  generalize hW7 : World.alloc V7 _ = W7
  have hw7 : Below V7.heap.size V7 W7 := hW7 ▸ (Below.refl _ _).alloc (Nat.le_refl _) _
  have hBw7 := hB7.trans (hw7.mono hB7.size)
  have k8 := BlkT.keep k8 hw7
  have k15 := BlkT.keep k15 hw7
  have k17 : BlkT W7 V7.heap.size #[.string sn, .string sd] 26 := hW7 ▸ BlkT.newAt _ _ _ rfl
  clear hW7
  refine (A3.out _ (HE.out.below hBw7)).mono ?_
  rintro r V8 ⟨rfl, hb8⟩
  have hB8 := hBw7.trans (hb8.mono hBw7.size)
  have k8 := BlkT.keep k8 hb8
  have k15 := BlkT.keep k15 hb8
  have k17 := BlkT.keep k17 hb8
  go_wp2_with fail
  generalize hW8 : World.alloc V8 _ = W8
  have hw8 : Below V8.heap.size V8 W8 := hW8 ▸ (Below.refl _ _).alloc (Nat.le_refl _) _
  have hBw8 := hB8.trans (hw8.mono hB8.size)
  have k8 := BlkT.keep k8 hw8
  have k15 := BlkT.keep k15 hw8
  have k17 := BlkT.keep k17 hw8
  have k19 : BlkT W8 V8.heap.size #[.string ⟨#[48]⟩, .string ⟨#[49]⟩] 26 := hW8 ▸ BlkT.newAt _ _ _ rfl
  clear hW8
  have HKS : Hid (∀ w', Below W8.heap.size W8 w' → (w'.cell? ⟨V2.heap.size, 0, none⟩ = some (.string sn) ∧ w'.cell? ⟨V2.heap.size, 1, none⟩ = some (.string sd)) ∧ (w'.cell? ⟨V6.heap.size, 0, none⟩ = some (.string sn) ∧ w'.cell? ⟨V6.heap.size, 1, none⟩ = some (.string sd)) ∧ (w'.cell? ⟨V7.heap.size, 0, none⟩ = some (.string sn) ∧ w'.cell? ⟨V7.heap.size, 1, none⟩ = some (.string sd)) ∧ (w'.cell? ⟨V8.heap.size, 0, none⟩ = some (.string ⟨#[48]⟩) ∧ w'.cell? ⟨V8.heap.size, 1, none⟩ = some (.string ⟨#[49]⟩))) := Lib.hid (fun V hV => (And.intro (And.intro ((BlkT.keep k8 hV).cell 0) ((BlkT.keep k8 hV).cell 1)) (And.intro (And.intro ((BlkT.keep k15 hV).cell 0) ((BlkT.keep k15 hV).cell 1)) (And.intro (And.intro ((BlkT.keep k17 hV).cell 0) ((BlkT.keep k17 hV).cell 1)) (And.intro ((BlkT.keep k19 hV).cell 0) ((BlkT.keep k19 hV).cell 1))))))
  have HEV := Lib.hid (fun V (hV : Below W8.heap.size W8 V) => HE.out.below (hBw8.trans (hV.mono hBw8.size)))
  have hsame : (sn.toList == sn.toList) = true := beq_self_eq_true _
  go_region_held3 (fun w' => Below W8.heap.size W8 w' ∧ (w'.cell? ⟨V2.heap.size, 0, none⟩ = some (.string sn) ∧ w'.cell? ⟨V2.heap.size, 1, none⟩ = some (.string sd)) ∧ (w'.cell? ⟨V6.heap.size, 0, none⟩ = some (.string sn) ∧ w'.cell? ⟨V6.heap.size, 1, none⟩ = some (.string sd)) ∧ (w'.cell? ⟨V7.heap.size, 0, none⟩ = some (.string sn) ∧ w'.cell? ⟨V7.heap.size, 1, none⟩ = some (.string sd)) ∧ (w'.cell? ⟨V8.heap.size, 0, none⟩ = some (.string ⟨#[48]⟩) ∧ w'.cell? ⟨V8.heap.size, 1, none⟩ = some (.string ⟨#[49]⟩)))
    (first | exact ⟨(Below.refl _ _).drew, HKS.out _ (Below.refl _ _).drew⟩ | (have hh := (‹Below W8.heap.size W8 _ ∧ _›).1; have hb := hh.trans (hBq.mono hh.size); exact ⟨hb, HKS.out _ hb⟩))
    (first
      | (go_at_call 25; (with_reducible refine (is_any _ _ _).mono ?_); rintro r wq ⟨rfl, hBq⟩)
      | (go_at_call 57; (with_reducible refine (PV.out _ (HEV.out _ (‹Below W8.heap.size W8 _ ∧ _›).1)).mono ?_); rintro r wq ⟨rfl, hBq⟩)
      | (go_at_call 23; (with_reducible refine (CV.out _ (HEV.out _ (‹Below W8.heap.size W8 _ ∧ _›).1)).mono ?_); rintro r wq ⟨rfl, hBq⟩)
      | (go_at_call 60; (with_reducible refine (VV.out _ (HEV.out _ (‹Below W8.heap.size W8 _ ∧ _›).1)).mono ?_); rintro r wq ⟨rfl, hBq⟩))
  all_goals (
    have hh := (‹Below W8.heap.size W8 _ ∧ _›).1
    go_wp2_with fail
    go_ret
    exact ⟨rfl, hBw8.trans (hh.mono hBw8.size)⟩)
set_option maxRecDepth 100000 in
set_option maxHeartbeats 8000000 in
theorem lowest_neg (a b c d f : Int) (w : World) (he : EnvR w) (la : -9223372036854775808 ≤ a) (ua : a ≤ 9223372036854775807) (lb : -9223372036854775808 ≤ b) (ub : b ≤ 9223372036854775807) (lc : -9223372036854775808 ≤ c) (uc : c ≤ 9223372036854775807) (ld : -9223372036854775808 ≤ d) (ud : d ≤ 9223372036854775807) (lf : -9223372036854775808 ≤ f) (uf : f ≤ 9223372036854775807) :
    Calls Tryz.prog 15 #[.agg #[.int .i64 a, .int .i64 b, .int .i64 c, .int .i64 d], .int .i64 f, .bool true] w fun e w' => e = .returned (.bool true) ∧ Below w.heap.size w w' := by
  have HE := Lib.hid he
  clear he
  have LG := Lib.hid (fun V => long21 a b c d V la ua lb ub lc uc ld ud)
  have PK := Lib.hid (fun V => pick28 f 1000000 V lf uf (by decide) (by decide))
  have hpb := pickN_bd f (show (0 : Int) < 1000000 by decide)
  clear la ua lb ub lc uc ld ud lf uf
  generalize pickN f 1000000 = pf at *
  have hw1 : IntKind.i64.wrap (1 + pf) = 1 + pf := by rw [IntKind.wrap_i64]; omega
  have hw2 : IntKind.i64.wrap (-(1 + pf)) = -(1 + pf) := by rw [IntKind.wrap_i64]; omega
  obtain ⟨k, hk⟩ : ∃ k : Int, k = -(1 + pf) := ⟨_, rfl⟩
  have hk7 : k.natAbs < 10 ^ 7 := by rw [show (10 : Nat) ^ 7 = 10000000 from rfl]; omega
  have hk0 : k ≠ 0 := by omega
  have hkl := N3.lim_of hk7 (by decide)
  have FI := Lib.hid (fun V => fromInt10 k V (by omega) (by omega))
  have hks := hk.symm
  clear hk
  obtain ⟨W0, hW0⟩ : ∃ W, w.alloc (.cells #[.int .i64 a, .int .i64 b, .int .i64 c, .int .i64 d] 22) = W := ⟨_, rfl⟩
  have kb : BlkT W0 w.heap.size #[.int .i64 a, .int .i64 b, .int .i64 c, .int .i64 d] 22 := hW0 ▸ BlkT.newAt w _ _ rfl
  have hBw0 : Below w.heap.size w W0 := hW0 ▸ (Below.refl _ _).alloc (Nat.le_refl _) _
  go_enter Tryz.func15, Tryz.ntmps15
  go_wp2_with (simp only [hW0])
  refine (sane04 _ (HE.out.below hBw0)).mono ?_
  rintro r V1 ⟨rfl, hb1⟩
  have hB1 := hBw0.trans (hb1.mono hBw0.size)
  have kb := BlkT.keep kb hb1
  have kbc0 := kb.cell 0
  have kbc1 := kb.cell 1
  have kbc2 := kb.cell 2
  have kbc3 := kb.cell 3
  simp only [List.getElem?_toArray, List.getElem?_cons_succ, List.getElem?_cons_zero] at kbc0 kbc1 kbc2 kbc3
  go_wp2_with fail
  refine (LG.out _).mono ?_
  rintro r V2 ⟨rr, rfl, hfit, hn100, hd100, hb2⟩
  have hB2 := hB1.trans (hb2.mono hB1.size)
  have kb := BlkT.keep kb hb2
  clear kbc0 kbc1 kbc2 kbc3
  have hln := hfit.num
  have hld := hfit.den
  have hnk : (rr.1 * k).natAbs < N3.lim := N3.lim_of (N3.natAbs_lt (k := 200) hn100 hk7 (by decide)) (by decide)
  have hdk : (rr.2 * k).natAbs < N3.lim := N3.lim_of (N3.natAbs_lt (k := 200) hd100 hk7 (by decide)) (by decide)
  have hd0 := N3.low_ne hfit.low
  have M1 := Lib.hid (fun V => mul10_S hln hkl hnk V)
  have M2 := Lib.hid (fun V => mul10_S hld hkl hdk V)
  have A1 := Lib.hid (fun V (hV : EnvR V) => by have q := make_S hnk hdk (Int.mul_ne_zero hd0 hk0) V hV.env; rw [low_scale hfit.low hk0] at q; exact q)
  have A2 := Lib.hid (fun V (hV : EnvR V) => by have q := make_S hln hld hd0 V hV.env; rw [N3.mk_self hfit.low] at q; exact q)
  have A3 := Lib.hid (fun V (hV : EnvR V) => by have q := make_S lim0 hkl hk0 V hV.env; rw [zero_low hk0, S_zero, S_one] at q; exact q)
  have z1 := S_size hln
  have z2 := S_size hld
  have VV := Lib.hid (fun V (hV : EnvR V) => by have q := valid04 (N3.S rr.1) (N3.S rr.2) V (by omega) (by omega) hV.env; rw [valid_S hfit] at q; exact q)
  have CV := Lib.hid (fun V (hV : EnvR V) => by have q := compare04 (N3.S rr.1) (N3.S rr.2) (N3.S rr.1) (N3.S rr.2) V (by omega) (by omega) (by omega) (by omega) hV.env; rw [cmp_S hfit hfit, (N3.cmpF_eq hfit.low hfit.low).2 rfl] at q; exact q)
  have PV := Lib.hid (fun V (hV : EnvR V) => print04 (N3.S rr.1) (N3.S rr.2) V (by omega) (by omega) hV.env)
  dsimp only [strR]
  clear z1 z2 hnk hdk hln hld hd0 hfit hn100 hd100 hk7 hk0 hkl
  generalize printR (N3.S rr.1) (N3.S rr.2) = pr at *
  generalize N3.S (rr.1 * k) = snk at *
  generalize N3.S (rr.2 * k) = sdk at *
  generalize N3.S rr.1 = sn at *
  generalize N3.S rr.2 = sd at *
  generalize N3.S k = sk at *
  go_wp2_with fail
  generalize hW2 : World.alloc V2 _ = W2
  have hw2 : Below V2.heap.size V2 W2 := hW2 ▸ (Below.refl _ _).alloc (Nat.le_refl _) _
  have hBw2 := hB2.trans (hw2.mono hB2.size)
  have k8 : BlkT W2 V2.heap.size #[.string sn, .string sd] 26 := hW2 ▸ BlkT.newAt _ _ _ rfl
  clear hW2
  refine (PK.out _).mono ?_
  rintro r V ⟨rfl, rfl⟩
  go_wp2_with (simp only [hks])
  refine (FI.out _).mono ?_
  rintro r V3 ⟨rfl, hb3⟩
  have hB3 := hBw2.trans (hb3.mono hBw2.size)
  have k8 := BlkT.keep k8 hb3
  have k8c0 := k8.cell 0
  have k8c1 := k8.cell 1
  simp only [List.getElem?_toArray, List.getElem?_cons_succ, List.getElem?_cons_zero] at k8c0 k8c1
  go_wp2_with fail
  refine (M1.out _).mono ?_
  rintro r V4 ⟨rfl, hb4⟩
  have hB4 := hB3.trans (hb4.mono hB3.size)
  have k8 := BlkT.keep k8 hb4
  clear k8c0 k8c1
  have k8c0 := k8.cell 0
  have k8c1 := k8.cell 1
  simp only [List.getElem?_toArray, List.getElem?_cons_succ, List.getElem?_cons_zero] at k8c0 k8c1
  go_wp2_with fail
  refine (M2.out _).mono ?_
  rintro r V5 ⟨rfl, hb5⟩
  have hB5 := hB4.trans (hb5.mono hB4.size)
  have k8 := BlkT.keep k8 hb5
  clear k8c0 k8c1
  go_wp2_with fail
  refine (A1.out _ (HE.out.below hB5)).mono ?_
  rintro r V6 ⟨rfl, hb6⟩
  have hB6 := hB5.trans (hb6.mono hB5.size)
  have k8 := BlkT.keep k8 hb6
  go_upto_region 10 with (fail)
  generalize hW6 : World.alloc V6 _ = W6
  have hw6 : Below V6.heap.size V6 W6 := hW6 ▸ (Below.refl _ _).alloc (Nat.le_refl _) _
  have hBw6 := hB6.trans (hw6.mono hB6.size)
  have k8 := BlkT.keep k8 hw6
  have k15 : BlkT W6 V6.heap.size #[.string sn, .string sd] 26 := hW6 ▸ BlkT.newAt _ _ _ rfl
  clear hW6
  have k8c0 := k8.cell 0
  have k8c1 := k8.cell 1
  simp only [List.getElem?_toArray, List.getElem?_cons_succ, List.getElem?_cons_zero] at k8c0 k8c1
  go_wp2_with fail
  refine (A2.out _ (HE.out.below hBw6)).mono ?_
  rintro r V7 ⟨rfl, hb7⟩
  have hB7 := hBw6.trans (hb7.mono hBw6.size)
  have k8 := BlkT.keep k8 hb7
  have k15 := BlkT.keep k15 hb7
  clear k8c0 k8c1
  go_wp2_with fail
  generalize hW7 : World.alloc V7 _ = W7
  have hw7 : Below V7.heap.size V7 W7 := hW7 ▸ (Below.refl _ _).alloc (Nat.le_refl _) _
  have hBw7 := hB7.trans (hw7.mono hB7.size)
  have k8 := BlkT.keep k8 hw7
  have k15 := BlkT.keep k15 hw7
  have k17 : BlkT W7 V7.heap.size #[.string sn, .string sd] 26 := hW7 ▸ BlkT.newAt _ _ _ rfl
  clear hW7
  refine (A3.out _ (HE.out.below hBw7)).mono ?_
  rintro r V8 ⟨rfl, hb8⟩
  have hB8 := hBw7.trans (hb8.mono hBw7.size)
  have k8 := BlkT.keep k8 hb8
  have k15 := BlkT.keep k15 hb8
  have k17 := BlkT.keep k17 hb8
  go_wp2_with fail
  generalize hW8 : World.alloc V8 _ = W8
  have hw8 : Below V8.heap.size V8 W8 := hW8 ▸ (Below.refl _ _).alloc (Nat.le_refl _) _
  have hBw8 := hB8.trans (hw8.mono hB8.size)
  have k8 := BlkT.keep k8 hw8
  have k15 := BlkT.keep k15 hw8
  have k17 := BlkT.keep k17 hw8
  have k19 : BlkT W8 V8.heap.size #[.string ⟨#[48]⟩, .string ⟨#[49]⟩] 26 := hW8 ▸ BlkT.newAt _ _ _ rfl
  clear hW8
  have HKS : Hid (∀ w', Below W8.heap.size W8 w' → (w'.cell? ⟨V2.heap.size, 0, none⟩ = some (.string sn) ∧ w'.cell? ⟨V2.heap.size, 1, none⟩ = some (.string sd)) ∧ (w'.cell? ⟨V6.heap.size, 0, none⟩ = some (.string sn) ∧ w'.cell? ⟨V6.heap.size, 1, none⟩ = some (.string sd)) ∧ (w'.cell? ⟨V7.heap.size, 0, none⟩ = some (.string sn) ∧ w'.cell? ⟨V7.heap.size, 1, none⟩ = some (.string sd)) ∧ (w'.cell? ⟨V8.heap.size, 0, none⟩ = some (.string ⟨#[48]⟩) ∧ w'.cell? ⟨V8.heap.size, 1, none⟩ = some (.string ⟨#[49]⟩))) := Lib.hid (fun V hV => (And.intro (And.intro ((BlkT.keep k8 hV).cell 0) ((BlkT.keep k8 hV).cell 1)) (And.intro (And.intro ((BlkT.keep k15 hV).cell 0) ((BlkT.keep k15 hV).cell 1)) (And.intro (And.intro ((BlkT.keep k17 hV).cell 0) ((BlkT.keep k17 hV).cell 1)) (And.intro ((BlkT.keep k19 hV).cell 0) ((BlkT.keep k19 hV).cell 1))))))
  have HEV := Lib.hid (fun V (hV : Below W8.heap.size W8 V) => HE.out.below (hBw8.trans (hV.mono hBw8.size)))
  have hsame : (sn.toList == sn.toList) = true := beq_self_eq_true _
  go_region_held3 (fun w' => Below W8.heap.size W8 w' ∧ (w'.cell? ⟨V2.heap.size, 0, none⟩ = some (.string sn) ∧ w'.cell? ⟨V2.heap.size, 1, none⟩ = some (.string sd)) ∧ (w'.cell? ⟨V6.heap.size, 0, none⟩ = some (.string sn) ∧ w'.cell? ⟨V6.heap.size, 1, none⟩ = some (.string sd)) ∧ (w'.cell? ⟨V7.heap.size, 0, none⟩ = some (.string sn) ∧ w'.cell? ⟨V7.heap.size, 1, none⟩ = some (.string sd)) ∧ (w'.cell? ⟨V8.heap.size, 0, none⟩ = some (.string ⟨#[48]⟩) ∧ w'.cell? ⟨V8.heap.size, 1, none⟩ = some (.string ⟨#[49]⟩)))
    (first | exact ⟨(Below.refl _ _).drew, HKS.out _ (Below.refl _ _).drew⟩ | (have hh := (‹Below W8.heap.size W8 _ ∧ _›).1; have hb := hh.trans (hBq.mono hh.size); exact ⟨hb, HKS.out _ hb⟩))
    (first
      | (go_at_call 25; (with_reducible refine (is_any _ _ _).mono ?_); rintro r wq ⟨rfl, hBq⟩)
      | (go_at_call 57; (with_reducible refine (PV.out _ (HEV.out _ (‹Below W8.heap.size W8 _ ∧ _›).1)).mono ?_); rintro r wq ⟨rfl, hBq⟩)
      | (go_at_call 23; (with_reducible refine (CV.out _ (HEV.out _ (‹Below W8.heap.size W8 _ ∧ _›).1)).mono ?_); rintro r wq ⟨rfl, hBq⟩)
      | (go_at_call 60; (with_reducible refine (VV.out _ (HEV.out _ (‹Below W8.heap.size W8 _ ∧ _›).1)).mono ?_); rintro r wq ⟨rfl, hBq⟩))
  all_goals (
    have hh := (‹Below W8.heap.size W8 _ ∧ _›).1
    go_wp2_with fail
    go_ret
    exact ⟨rfl, hBw8.trans (hh.mono hBw8.size)⟩)
theorem law_lowest (a b c d f : Int) (s : Bool) (w : World) (he : EnvR w) (ha : -9223372036854775808 ≤ a ∧ a ≤ 9223372036854775807) (hb : -9223372036854775808 ≤ b ∧ b ≤ 9223372036854775807) (hc : -9223372036854775808 ≤ c ∧ c ≤ 9223372036854775807) (hd : -9223372036854775808 ≤ d ∧ d ≤ 9223372036854775807) (lf : -9223372036854775808 ≤ f) (uf : f ≤ 9223372036854775807) :
    Calls Tryz.prog 15 #[.agg #[.int .i64 a, .int .i64 b, .int .i64 c, .int .i64 d], .int .i64 f, .bool s] w fun e w' => e = .returned (.bool true) ∧ Below w.heap.size w w' := by
  cases s
  · exact lowest_pos a b c d f w he ha.1 ha.2 hb.1 hb.2 hc.1 hc.2 hd.1 hd.2 lf uf
  · exact lowest_neg a b c d f w he ha.1 ha.2 hb.1 hb.2 hc.1 hc.2 hd.1 hd.2 lf uf
end Go.Proofs.YtjnpenljgfdaiaaGreatDoor

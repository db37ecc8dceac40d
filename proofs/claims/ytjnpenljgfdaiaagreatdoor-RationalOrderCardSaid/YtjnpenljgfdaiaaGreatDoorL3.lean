/- nadirlaw04: RationalOrder. -/
import Derived.Deep.RegionHeld3
import Derived.Deep.CutRange
import Derived.Test.YtjnpenljgfdaiaaGreatDoorFN
import Derived.Test.YtjnpenljgfdaiaaGreatDoorHA
namespace Go.Proofs.YtjnpenljgfdaiaaGreatDoor
open Go.RowKit Go.Shelf Lib

theorem small_num (x y : Int) : (smallF x y).1.natAbs < 10 ^ 3 ∧ (smallF x y).2.natAbs < 10 ^ 3 := by
  have h := small_bd x y
  have q := mk_natAbs (n := pickN x 1999 - 999) (d := 1 + pickN y 60) (by omega)
  unfold smallF
  rw [show (10 : Nat) ^ 3 = 1000 from rfl]
  omega
theorem S_toList {x y : Int} : ((N3.S x).toList == (N3.S y).toList) = decide (x = y) := by
  by_cases h : x = y
  · subst h; simp
  · rw [decide_eq_false h]; exact beq_eq_false_iff_ne.2 fun k => h (N3.S_inj (Go.WideShapes.bytes_inj (by rw [← ByteArray.toList_eq, ← ByteArray.toList_eq, k])))

set_option maxRecDepth 100000 in
set_option maxHeartbeats 16000000 in
theorem law_order4 (x0 x1 x2 x3 x4 x5 x6 x7 x8 x9 x10 x11 x12 x13 : Int) (w : World) (he : EnvR w) (m0 : -9223372036854775808 ≤ x0 ∧ x0 ≤ 9223372036854775807) (m1 : -9223372036854775808 ≤ x1 ∧ x1 ≤ 9223372036854775807) (m2 : -9223372036854775808 ≤ x2 ∧ x2 ≤ 9223372036854775807) (m3 : -9223372036854775808 ≤ x3 ∧ x3 ≤ 9223372036854775807) (m4 : -9223372036854775808 ≤ x4 ∧ x4 ≤ 9223372036854775807) (m5 : -9223372036854775808 ≤ x5 ∧ x5 ≤ 9223372036854775807) (m6 : -9223372036854775808 ≤ x6 ∧ x6 ≤ 9223372036854775807) (m7 : -9223372036854775808 ≤ x7 ∧ x7 ≤ 9223372036854775807) (m8 : -9223372036854775808 ≤ x8 ∧ x8 ≤ 9223372036854775807) (m9 : -9223372036854775808 ≤ x9 ∧ x9 ≤ 9223372036854775807) (m10 : -9223372036854775808 ≤ x10 ∧ x10 ≤ 9223372036854775807) (m11 : -9223372036854775808 ≤ x11 ∧ x11 ≤ 9223372036854775807) (m12 : -9223372036854775808 ≤ x12 ∧ x12 ≤ 9223372036854775807) (m13 : -9223372036854775808 ≤ x13 ∧ x13 ≤ 9223372036854775807) :
    Calls Tryz.prog 3 #[.agg #[.int .i64 x0, .int .i64 x1, .int .i64 x2, .int .i64 x3], .agg #[.int .i64 x4, .int .i64 x5, .int .i64 x6, .int .i64 x7], .agg #[.int .i64 x8, .int .i64 x9, .int .i64 x10, .int .i64 x11], .agg #[.int .i64 x12, .int .i64 x13]] w fun e w' => e = .returned (.bool true) ∧ Below w.heap.size w w' := by
  have HE := Lib.hid he
  clear he
  have LG0 := Lib.hid (fun V => long21 x0 x1 x2 x3 V m0.1 m0.2 m1.1 m1.2 m2.1 m2.2 m3.1 m3.2)
  have LG1 := Lib.hid (fun V => long21 x4 x5 x6 x7 V m4.1 m4.2 m5.1 m5.2 m6.1 m6.2 m7.1 m7.2)
  have LG2 := Lib.hid (fun V => long21 x8 x9 x10 x11 V m8.1 m8.2 m9.1 m9.2 m10.1 m10.2 m11.1 m11.2)
  have SM := Lib.hid (fun V => small22 x12 x13 V m12.1 m12.2 m13.1 m13.2)
  have tf := small_fitF x12 x13
  have tn := small_num x12 x13
  clear m0 m1 m2 m3 m4 m5 m6 m7 m8 m9 m10 m11 m12 m13
  generalize smallF x12 x13 = rt at *
  obtain ⟨W0, hW0⟩ : ∃ W, (((w.alloc (.cells #[.int .i64 x0, .int .i64 x1, .int .i64 x2, .int .i64 x3] 22)).alloc (.cells #[.int .i64 x4, .int .i64 x5, .int .i64 x6, .int .i64 x7] 22)).alloc (.cells #[.int .i64 x8, .int .i64 x9, .int .i64 x10, .int .i64 x11] 22)).alloc (.cells #[.int .i64 x12, .int .i64 x13] 23) = W := ⟨_, rfl⟩
  have b0 : BlkT W0 w.heap.size #[.int .i64 x0, .int .i64 x1, .int .i64 x2, .int .i64 x3] 22 := hW0 ▸ (((BlkT.newAt w _ _ rfl).alloc _).alloc _).alloc _
  have b1 : BlkT W0 (w.heap.size + 1) #[.int .i64 x4, .int .i64 x5, .int .i64 x6, .int .i64 x7] 22 := hW0 ▸ ((BlkT.newAt _ _ _ (by simp)).alloc _).alloc _
  have b2 : BlkT W0 (w.heap.size + 1 + 1) #[.int .i64 x8, .int .i64 x9, .int .i64 x10, .int .i64 x11] 22 := hW0 ▸ (BlkT.newAt _ _ _ (by simp)).alloc _
  have b3 : BlkT W0 (w.heap.size + 1 + 1 + 1) #[.int .i64 x12, .int .i64 x13] 23 := hW0 ▸ BlkT.newAt _ _ _ (by simp)
  have hBw0 : Below w.heap.size w W0 := hW0 ▸ ((((Below.refl _ _).alloc (Nat.le_refl _) _).alloc (by simp) _).alloc (by simp; omega) _).alloc (by simp; omega) _
  go_enter Tryz.func3, Tryz.ntmps3
  go_wp2_with (simp only [hW0])
  refine (sane04 _ (HE.out.below hBw0)).mono ?_
  rintro r V1 ⟨rfl, hb1⟩
  have hB1 := hBw0.trans (hb1.mono hBw0.size)
  have b0 := BlkT.keep b0 hb1
  have b1 := BlkT.keep b1 hb1
  have b2 := BlkT.keep b2 hb1
  have b3 := BlkT.keep b3 hb1
  have b0c0 := b0.cell 0
  have b0c1 := b0.cell 1
  have b0c2 := b0.cell 2
  have b0c3 := b0.cell 3
  simp only [List.getElem?_toArray, List.getElem?_cons_succ, List.getElem?_cons_zero] at b0c0 b0c1 b0c2 b0c3
  go_wp2_with fail
  refine (LG0.out _).mono ?_
  rintro r V2 ⟨ra, rfl, af, an, ad, hb2⟩
  have hB2 := hB1.trans (hb2.mono hB1.size)
  have b0 := BlkT.keep b0 hb2
  have b1 := BlkT.keep b1 hb2
  have b2 := BlkT.keep b2 hb2
  have b3 := BlkT.keep b3 hb2
  clear b0c0 b0c1 b0c2 b0c3
  dsimp only [strR]
  go_upto_region 3 with (fail)
  generalize hW2 : World.alloc V2 _ = W2
  have hw2 : Below V2.heap.size V2 W2 := hW2 ▸ (Below.refl _ _).alloc (Nat.le_refl _) _
  have hBw2 := hB2.trans (hw2.mono hB2.size)
  have b1 := BlkT.keep b1 hw2
  have b2 := BlkT.keep b2 hw2
  have b3 := BlkT.keep b3 hw2
  have ka : BlkT W2 V2.heap.size #[.string (N3.S ra.1), .string (N3.S ra.2)] 26 := hW2 ▸ BlkT.newAt _ _ _ rfl
  clear hW2
  have b1c0 := b1.cell 0
  have b1c1 := b1.cell 1
  have b1c2 := b1.cell 2
  have b1c3 := b1.cell 3
  simp only [List.getElem?_toArray, List.getElem?_cons_succ, List.getElem?_cons_zero] at b1c0 b1c1 b1c2 b1c3
  go_wp2_with fail
  refine (LG1.out _).mono ?_
  rintro r V3 ⟨rb, rfl, bf, bn, bd, hb3⟩
  have hB3 := hBw2.trans (hb3.mono hBw2.size)
  have b1 := BlkT.keep b1 hb3
  have b2 := BlkT.keep b2 hb3
  have b3 := BlkT.keep b3 hb3
  have ka := BlkT.keep ka hb3
  clear b1c0 b1c1 b1c2 b1c3
  dsimp only [strR]
  go_upto_region 4 with (fail)
  generalize hW3 : World.alloc V3 _ = W3
  have hw3 : Below V3.heap.size V3 W3 := hW3 ▸ (Below.refl _ _).alloc (Nat.le_refl _) _
  have hBw3 := hB3.trans (hw3.mono hB3.size)
  have b2 := BlkT.keep b2 hw3
  have b3 := BlkT.keep b3 hw3
  have ka := BlkT.keep ka hw3
  have kb : BlkT W3 V3.heap.size #[.string (N3.S rb.1), .string (N3.S rb.2)] 26 := hW3 ▸ BlkT.newAt _ _ _ rfl
  clear hW3
  have b2c0 := b2.cell 0
  have b2c1 := b2.cell 1
  have b2c2 := b2.cell 2
  have b2c3 := b2.cell 3
  simp only [List.getElem?_toArray, List.getElem?_cons_succ, List.getElem?_cons_zero] at b2c0 b2c1 b2c2 b2c3
  go_wp2_with fail
  refine (LG2.out _).mono ?_
  rintro r V4 ⟨rc, rfl, cf, cn, cd, hb4⟩
  have hB4 := hBw3.trans (hb4.mono hBw3.size)
  have b2 := BlkT.keep b2 hb4
  have b3 := BlkT.keep b3 hb4
  have ka := BlkT.keep ka hb4
  have kb := BlkT.keep kb hb4
  clear b2c0 b2c1 b2c2 b2c3
  dsimp only [strR]
  go_upto_region 5 with (fail)
  generalize hW4 : World.alloc V4 _ = W4
  have hw4 : Below V4.heap.size V4 W4 := hW4 ▸ (Below.refl _ _).alloc (Nat.le_refl _) _
  have hBw4 := hB4.trans (hw4.mono hB4.size)
  have b3 := BlkT.keep b3 hw4
  have ka := BlkT.keep ka hw4
  have kb := BlkT.keep kb hw4
  have kc : BlkT W4 V4.heap.size #[.string (N3.S rc.1), .string (N3.S rc.2)] 26 := hW4 ▸ BlkT.newAt _ _ _ rfl
  clear hW4
  have b3c0 := b3.cell 0
  have b3c1 := b3.cell 1
  simp only [List.getElem?_toArray, List.getElem?_cons_succ, List.getElem?_cons_zero] at b3c0 b3c1
  go_wp2_with fail
  refine (SM.out _).mono ?_
  rintro r V5 ⟨rfl, hb5⟩
  have hB5 := hBw4.trans (hb5.mono hBw4.size)
  have b3 := BlkT.keep b3 hb5
  have ka := BlkT.keep ka hb5
  have kb := BlkT.keep kb hb5
  have kc := BlkT.keep kc hb5
  clear b3c0 b3c1
  dsimp only [strR]
  go_upto_region 6 with (fail)
  generalize hW5 : World.alloc V5 _ = W5
  have hw5 : Below V5.heap.size V5 W5 := hW5 ▸ (Below.refl _ _).alloc (Nat.le_refl _) _
  have hBw5 := hB5.trans (hw5.mono hB5.size)
  have ka := BlkT.keep ka hw5
  have kb := BlkT.keep kb hw5
  have kc := BlkT.keep kc hw5
  have kt : BlkT W5 V5.heap.size #[.string (N3.S rt.1), .string (N3.S rt.2)] 26 := hW5 ▸ BlkT.newAt _ _ _ rfl
  clear hW5
  have CAB := Lib.hid (fun V (hV : EnvR V) => cmp_q af bf V hV)
  have CBC := Lib.hid (fun V (hV : EnvR V) => cmp_q bf cf V hV)
  have CAC := Lib.hid (fun V (hV : EnvR V) => cmp_q af cf V hV)
  have CBA := Lib.hid (fun V (hV : EnvR V) => cmp_q bf af V hV)
  have CAA := Lib.hid (fun V (hV : EnvR V) => cmp_q af af V hV)
  have qz : Fit (0, 1) := int_fit lim0
  have CT0 := Lib.hid (fun V (hV : EnvR V) => by have q := cmp_q tf qz V hV; rw [S_zero, S_one] at q; exact q)
  have hab := N3.cmpF_bd ra rb
  have hbc := N3.cmpF_bd rb rc
  have hac := N3.cmpF_bd ra rc
  have htz := N3.cmpF_bd rt (0, 1)
  have e1 := N3.cmpF_neg ra rb
  have e2 : N3.cmpF ra ra = 0 := (N3.cmpF_eq af.low af.low).2 rfl
  have tr := N3.cmpF_trans af.low bf.low cf.low
  have eqx : ((N3.S ra.1).toList == (N3.S rb.1).toList && (N3.S ra.2).toList == (N3.S rb.2).toList) = decide (N3.cmpF ra rb = 0) := by
    rw [S_toList, S_toList]
    have := N3.cmpF_eq af.low bf.low
    rw [Prod.ext_iff] at this
    simp [this]
  have pf : Fit (N3.addF ra rt) := (addQ_fit af tf (addQ_ok (a := 100) (b := 3) an ad tn.1 tn.2 (by decide))).2
  have qf : Fit (N3.addF rb rt) := (addQ_fit bf tf (addQ_ok (a := 100) (b := 3) bn bd tn.1 tn.2 (by decide))).2
  have yf : Fit (N3.mulF ra rt) := (mulQ_fit af tf (mulQ_ok (a := 100) (b := 3) an ad tn.1 tn.2 (by decide))).2
  have zf : Fit (N3.mulF rb rt) := (mulQ_fit bf tf (mulQ_ok (a := 100) (b := 3) bn bd tn.1 tn.2 (by decide))).2
  have AP := Lib.hid (fun V (hV : EnvR V) => by have q := add_q af tf V hV; rw [addQ_ok (a := 100) (b := 3) an ad tn.1 tn.2 (by decide)] at q; dsimp only [qV, qE] at q; exact q)
  have AQ := Lib.hid (fun V (hV : EnvR V) => by have q := add_q bf tf V hV; rw [addQ_ok (a := 100) (b := 3) bn bd tn.1 tn.2 (by decide)] at q; dsimp only [qV, qE] at q; exact q)
  have MP := Lib.hid (fun V (hV : EnvR V) => by have q := mul_q af tf V hV; rw [mulQ_ok (a := 100) (b := 3) an ad tn.1 tn.2 (by decide)] at q; dsimp only [qV, qE] at q; exact q)
  have MQ := Lib.hid (fun V (hV : EnvR V) => by have q := mul_q bf tf V hV; rw [mulQ_ok (a := 100) (b := 3) bn bd tn.1 tn.2 (by decide)] at q; dsimp only [qV, qE] at q; exact q)
  have CPQ := Lib.hid (fun V (hV : EnvR V) => by have q := cmp_q pf qf V hV; rw [N3.cmpF_add af.low bf.low tf.low] at q; exact q)
  have CYZ := Lib.hid (fun V (hV : EnvR V) => by have q := cmp_q yf zf V hV; rw [N3.cmpF_mul af.low bf.low tf.low] at q; exact q)
  have SB := Lib.hid (fun V (hV : EnvR V) => sub_q af bf V hV)
  obtain ⟨dn, dd, de, hsv, hse, hde⟩ : ∃ (dn dd : ByteArray) (de : Int), qV (subQ ra rb) = ratV dn dd ∧ qE (subQ ra rb) = de ∧ ((de = 0 ∧ Hid (∀ V, EnvR V → Calls Tryz.prog 23 #[ratV dn dd, ratV ⟨#[48]⟩ ⟨#[49]⟩] V fun e w' => e = .returned (.int .i64 (N3.cmpF ra rb)) ∧ Below V.heap.size V w')) ∨ de = 40) := by
    cases hq : subQ ra rb with
    | none => exact ⟨_, _, _, rfl, rfl, .inr rfl⟩
    | some d =>
      obtain ⟨rfl, df⟩ := subQ_fit af bf hq
      exact ⟨_, _, _, rfl, rfl, .inl ⟨rfl, Lib.hid (fun V hV => by have q := cmp_q df qz V hV; rw [N3.cmpF_sub af.low bf.low, S_zero, S_one] at q; exact q)⟩⟩
  simp only [hsv, hse] at SB
  clear hsv hse
  rw [e1] at CBA
  rw [e2] at CAA
  clear e1 e2 pf qf yf zf qz an ad bn bd cn cd tn
  generalize N3.cmpF ra rb = ab at *
  generalize N3.cmpF rb rc = bc at *
  generalize N3.cmpF ra rc = ac at *
  generalize N3.cmpF rt (0, 1) = tz at *
  clear af bf cf tf
  generalize N3.S ra.1 = san at *
  generalize N3.S ra.2 = sad at *
  generalize N3.S rb.1 = sbn at *
  generalize N3.S rb.2 = sbd at *
  generalize N3.S rc.1 = scn at *
  generalize N3.S rc.2 = scd at *
  generalize N3.S rt.1 = stn at *
  generalize N3.S rt.2 = std at *
  generalize N3.S (N3.addF ra rt).1 = spn at *
  generalize N3.S (N3.addF ra rt).2 = spd at *
  generalize N3.S (N3.addF rb rt).1 = sqn at *
  generalize N3.S (N3.addF rb rt).2 = sqd at *
  generalize N3.S (N3.mulF ra rt).1 = syn at *
  generalize N3.S (N3.mulF ra rt).2 = syd at *
  generalize N3.S (N3.mulF rb rt).1 = szn at *
  generalize N3.S (N3.mulF rb rt).2 = szd at *
  skip
  have kac0 := ka.cell 0
  have kac1 := ka.cell 1
  simp only [List.getElem?_toArray, List.getElem?_cons_succ, List.getElem?_cons_zero] at kac0 kac1
  have kbc0 := kb.cell 0
  have kbc1 := kb.cell 1
  simp only [List.getElem?_toArray, List.getElem?_cons_succ, List.getElem?_cons_zero] at kbc0 kbc1
  go_wp2_with fail
  refine (CAB.out _ (HE.out.below hBw5)).mono ?_
  rintro r V6 ⟨rfl, hb6⟩
  have hB6 := hBw5.trans (hb6.mono hBw5.size)
  have ka := BlkT.keep ka hb6
  have kb := BlkT.keep kb hb6
  have kc := BlkT.keep kc hb6
  have kt := BlkT.keep kt hb6
  clear kac0 kac1
  clear kbc0 kbc1
  have kbc0 := kb.cell 0
  have kbc1 := kb.cell 1
  simp only [List.getElem?_toArray, List.getElem?_cons_succ, List.getElem?_cons_zero] at kbc0 kbc1
  have kcc0 := kc.cell 0
  have kcc1 := kc.cell 1
  simp only [List.getElem?_toArray, List.getElem?_cons_succ, List.getElem?_cons_zero] at kcc0 kcc1
  go_wp2_with fail
  refine (CBC.out _ (HE.out.below hB6)).mono ?_
  rintro r V7 ⟨rfl, hb7⟩
  have hB7 := hB6.trans (hb7.mono hB6.size)
  have ka := BlkT.keep ka hb7
  have kb := BlkT.keep kb hb7
  have kc := BlkT.keep kc hb7
  have kt := BlkT.keep kt hb7
  clear kbc0 kbc1
  clear kcc0 kcc1
  have kac0 := ka.cell 0
  have kac1 := ka.cell 1
  simp only [List.getElem?_toArray, List.getElem?_cons_succ, List.getElem?_cons_zero] at kac0 kac1
  have kcc0 := kc.cell 0
  have kcc1 := kc.cell 1
  simp only [List.getElem?_toArray, List.getElem?_cons_succ, List.getElem?_cons_zero] at kcc0 kcc1
  go_wp2_with fail
  refine (CAC.out _ (HE.out.below hB7)).mono ?_
  rintro r V8 ⟨rfl, hb8⟩
  have hB8 := hB7.trans (hb8.mono hB7.size)
  have ka := BlkT.keep ka hb8
  have kb := BlkT.keep kb hb8
  have kc := BlkT.keep kc hb8
  have kt := BlkT.keep kt hb8
  clear kac0 kac1
  clear kcc0 kcc1
  have hwn : IntKind.i64.wrap (-ab) = -ab := by rw [IntKind.wrap_i64]; omega
  have hm : -1 ≤ ab * tz ∧ ab * tz ≤ 1 := by
    rcases (show ab = -1 ∨ ab = 0 ∨ ab = 1 by omega) with h | h | h <;> subst h <;> omega
  have hwm : IntKind.i64.wrap (ab * tz) = ab * tz := by rw [IntKind.wrap_i64]; omega
  have d1 : decide (ab < -1) = false := by rw [decide_eq_false_iff_not]; omega
  have d2 : decide (1 < ab) = false := by rw [decide_eq_false_iff_not]; omega
  obtain ⟨x, hx⟩ : ∃ x, (san.toList == sbn.toList) = x := ⟨_, rfl⟩
  obtain ⟨y, hy⟩ : ∃ y, (sad.toList == sbd.toList) = y := ⟨_, rfl⟩
  rw [hx, hy] at eqx
  have d3 : decide (ab = 0) = (x && y) := eqx.symm
  have d4 : (ab == 0) = (x && y) := eqx.symm
  have four : (Hid (0 < ab) ∧ decide (ab ≤ 0) = false) ∨ (decide (ab ≤ 0) = true ∧ decide (bc ≤ 0) = false ∧ decide (bc < 0) = false) ∨ (decide (ab ≤ 0) = true ∧ decide (bc ≤ 0) = true ∧ decide (bc < 0) = false ∧ decide (0 < ac) = false) ∨ (decide (ab ≤ 0) = true ∧ decide (bc ≤ 0) = true ∧ decide (bc < 0) = true ∧ decide (0 < ac) = false ∧ decide (0 ≤ ac) = false) := by
    simp only [decide_eq_true_eq, decide_eq_false_iff_not]
    by_cases h1 : ab ≤ 0
    · by_cases h2 : bc ≤ 0
      · obtain ⟨t1, t2⟩ := tr h1 h2
        by_cases h3 : bc < 0
        · have := t2 h3; right; right; right; omega
        · right; right; left; omega
      · right; left; omega
    · left; exact ⟨Lib.hid (by omega), by omega⟩
  clear eqx tr hbc hac hm
  clear hab
  have xy : x = false ∨ (x = true ∧ y = false) ∨ (x = true ∧ y = true) := by cases x <;> cases y <;> simp
  go_upto_region 9 with (fail)
  go_cut [92] from 43 to 92 (fun c wx => c = .bool false ∧ Below V8.heap.size V8 wx)
  case first =>
    have kac0 := ka.cell 0
    have kac1 := ka.cell 1
    simp only [List.getElem?_toArray, List.getElem?_cons_succ, List.getElem?_cons_zero] at kac0 kac1
    have kbc0 := kb.cell 0
    have kbc1 := kb.cell 1
    simp only [List.getElem?_toArray, List.getElem?_cons_succ, List.getElem?_cons_zero] at kbc0 kbc1
    rcases xy with rfl | ⟨rfl, rfl⟩ | ⟨rfl, rfl⟩
    · simp only [Bool.false_and] at d3 d4
      rcases four with ⟨f0, f1⟩ | ⟨f1, f2, f3⟩ | ⟨f1, f2, f3, f4⟩ | ⟨f1, f2, f3, f4, f5⟩
      · go_wp2_with fail
        refine (CBA.out _ (HE.out.below hB8)).mono ?_
        rintro r V9 ⟨rfl, hb9⟩
        have hB9 := hB8.trans (hb9.mono hB8.size)
        have ka := BlkT.keep ka hb9
        have kb := BlkT.keep kb hb9
        clear kac0 kac1 kbc0 kbc1
        have kac0 := ka.cell 0
        have kac1 := ka.cell 1
        simp only [List.getElem?_toArray, List.getElem?_cons_succ, List.getElem?_cons_zero] at kac0 kac1
        have kbc0 := kb.cell 0
        have kbc1 := kb.cell 1
        simp only [List.getElem?_toArray, List.getElem?_cons_succ, List.getElem?_cons_zero] at kbc0 kbc1
        go_wp2_with fail
        refine (CAA.out _ (HE.out.below hB9)).mono ?_
        rintro r V10 ⟨rfl, hb10⟩
        have hB10 := hB9.trans (hb10.mono hB9.size)
        have ka := BlkT.keep ka hb10
        have kb := BlkT.keep kb hb10
        go_wp2_with fail
        go_meet
        exact ⟨rfl, hb9.trans (hb10.mono hb9.size)⟩
      · go_wp2_with fail
        refine (CBA.out _ (HE.out.below hB8)).mono ?_
        rintro r V9 ⟨rfl, hb9⟩
        have hB9 := hB8.trans (hb9.mono hB8.size)
        have ka := BlkT.keep ka hb9
        have kb := BlkT.keep kb hb9
        clear kac0 kac1 kbc0 kbc1
        have kac0 := ka.cell 0
        have kac1 := ka.cell 1
        simp only [List.getElem?_toArray, List.getElem?_cons_succ, List.getElem?_cons_zero] at kac0 kac1
        have kbc0 := kb.cell 0
        have kbc1 := kb.cell 1
        simp only [List.getElem?_toArray, List.getElem?_cons_succ, List.getElem?_cons_zero] at kbc0 kbc1
        go_wp2_with fail
        refine (CAA.out _ (HE.out.below hB9)).mono ?_
        rintro r V10 ⟨rfl, hb10⟩
        have hB10 := hB9.trans (hb10.mono hB9.size)
        have ka := BlkT.keep ka hb10
        have kb := BlkT.keep kb hb10
        go_wp2_with fail
        go_meet
        exact ⟨rfl, hb9.trans (hb10.mono hb9.size)⟩
      · go_wp2_with fail
        refine (CBA.out _ (HE.out.below hB8)).mono ?_
        rintro r V9 ⟨rfl, hb9⟩
        have hB9 := hB8.trans (hb9.mono hB8.size)
        have ka := BlkT.keep ka hb9
        have kb := BlkT.keep kb hb9
        clear kac0 kac1 kbc0 kbc1
        have kac0 := ka.cell 0
        have kac1 := ka.cell 1
        simp only [List.getElem?_toArray, List.getElem?_cons_succ, List.getElem?_cons_zero] at kac0 kac1
        have kbc0 := kb.cell 0
        have kbc1 := kb.cell 1
        simp only [List.getElem?_toArray, List.getElem?_cons_succ, List.getElem?_cons_zero] at kbc0 kbc1
        go_wp2_with fail
        refine (CAA.out _ (HE.out.below hB9)).mono ?_
        rintro r V10 ⟨rfl, hb10⟩
        have hB10 := hB9.trans (hb10.mono hB9.size)
        have ka := BlkT.keep ka hb10
        have kb := BlkT.keep kb hb10
        go_wp2_with fail
        go_meet
        exact ⟨rfl, hb9.trans (hb10.mono hb9.size)⟩
      · go_wp2_with fail
        refine (CBA.out _ (HE.out.below hB8)).mono ?_
        rintro r V9 ⟨rfl, hb9⟩
        have hB9 := hB8.trans (hb9.mono hB8.size)
        have ka := BlkT.keep ka hb9
        have kb := BlkT.keep kb hb9
        clear kac0 kac1 kbc0 kbc1
        have kac0 := ka.cell 0
        have kac1 := ka.cell 1
        simp only [List.getElem?_toArray, List.getElem?_cons_succ, List.getElem?_cons_zero] at kac0 kac1
        have kbc0 := kb.cell 0
        have kbc1 := kb.cell 1
        simp only [List.getElem?_toArray, List.getElem?_cons_succ, List.getElem?_cons_zero] at kbc0 kbc1
        go_wp2_with fail
        refine (CAA.out _ (HE.out.below hB9)).mono ?_
        rintro r V10 ⟨rfl, hb10⟩
        have hB10 := hB9.trans (hb10.mono hB9.size)
        have ka := BlkT.keep ka hb10
        have kb := BlkT.keep kb hb10
        go_wp2_with fail
        go_meet
        exact ⟨rfl, hb9.trans (hb10.mono hb9.size)⟩
    · simp only [Bool.and_false] at d3 d4
      rcases four with ⟨f0, f1⟩ | ⟨f1, f2, f3⟩ | ⟨f1, f2, f3, f4⟩ | ⟨f1, f2, f3, f4, f5⟩
      · go_wp2_with fail
        refine (CBA.out _ (HE.out.below hB8)).mono ?_
        rintro r V9 ⟨rfl, hb9⟩
        have hB9 := hB8.trans (hb9.mono hB8.size)
        have ka := BlkT.keep ka hb9
        have kb := BlkT.keep kb hb9
        clear kac0 kac1 kbc0 kbc1
        have kac0 := ka.cell 0
        have kac1 := ka.cell 1
        simp only [List.getElem?_toArray, List.getElem?_cons_succ, List.getElem?_cons_zero] at kac0 kac1
        have kbc0 := kb.cell 0
        have kbc1 := kb.cell 1
        simp only [List.getElem?_toArray, List.getElem?_cons_succ, List.getElem?_cons_zero] at kbc0 kbc1
        go_wp2_with fail
        refine (CAA.out _ (HE.out.below hB9)).mono ?_
        rintro r V10 ⟨rfl, hb10⟩
        have hB10 := hB9.trans (hb10.mono hB9.size)
        have ka := BlkT.keep ka hb10
        have kb := BlkT.keep kb hb10
        go_wp2_with fail
        go_meet
        exact ⟨rfl, hb9.trans (hb10.mono hb9.size)⟩
      · go_wp2_with fail
        refine (CBA.out _ (HE.out.below hB8)).mono ?_
        rintro r V9 ⟨rfl, hb9⟩
        have hB9 := hB8.trans (hb9.mono hB8.size)
        have ka := BlkT.keep ka hb9
        have kb := BlkT.keep kb hb9
        clear kac0 kac1 kbc0 kbc1
        have kac0 := ka.cell 0
        have kac1 := ka.cell 1
        simp only [List.getElem?_toArray, List.getElem?_cons_succ, List.getElem?_cons_zero] at kac0 kac1
        have kbc0 := kb.cell 0
        have kbc1 := kb.cell 1
        simp only [List.getElem?_toArray, List.getElem?_cons_succ, List.getElem?_cons_zero] at kbc0 kbc1
        go_wp2_with fail
        refine (CAA.out _ (HE.out.below hB9)).mono ?_
        rintro r V10 ⟨rfl, hb10⟩
        have hB10 := hB9.trans (hb10.mono hB9.size)
        have ka := BlkT.keep ka hb10
        have kb := BlkT.keep kb hb10
        go_wp2_with fail
        go_meet
        exact ⟨rfl, hb9.trans (hb10.mono hb9.size)⟩
      · go_wp2_with fail
        refine (CBA.out _ (HE.out.below hB8)).mono ?_
        rintro r V9 ⟨rfl, hb9⟩
        have hB9 := hB8.trans (hb9.mono hB8.size)
        have ka := BlkT.keep ka hb9
        have kb := BlkT.keep kb hb9
        clear kac0 kac1 kbc0 kbc1
        have kac0 := ka.cell 0
        have kac1 := ka.cell 1
        simp only [List.getElem?_toArray, List.getElem?_cons_succ, List.getElem?_cons_zero] at kac0 kac1
        have kbc0 := kb.cell 0
        have kbc1 := kb.cell 1
        simp only [List.getElem?_toArray, List.getElem?_cons_succ, List.getElem?_cons_zero] at kbc0 kbc1
        go_wp2_with fail
        refine (CAA.out _ (HE.out.below hB9)).mono ?_
        rintro r V10 ⟨rfl, hb10⟩
        have hB10 := hB9.trans (hb10.mono hB9.size)
        have ka := BlkT.keep ka hb10
        have kb := BlkT.keep kb hb10
        go_wp2_with fail
        go_meet
        exact ⟨rfl, hb9.trans (hb10.mono hb9.size)⟩
      · go_wp2_with fail
        refine (CBA.out _ (HE.out.below hB8)).mono ?_
        rintro r V9 ⟨rfl, hb9⟩
        have hB9 := hB8.trans (hb9.mono hB8.size)
        have ka := BlkT.keep ka hb9
        have kb := BlkT.keep kb hb9
        clear kac0 kac1 kbc0 kbc1
        have kac0 := ka.cell 0
        have kac1 := ka.cell 1
        simp only [List.getElem?_toArray, List.getElem?_cons_succ, List.getElem?_cons_zero] at kac0 kac1
        have kbc0 := kb.cell 0
        have kbc1 := kb.cell 1
        simp only [List.getElem?_toArray, List.getElem?_cons_succ, List.getElem?_cons_zero] at kbc0 kbc1
        go_wp2_with fail
        refine (CAA.out _ (HE.out.below hB9)).mono ?_
        rintro r V10 ⟨rfl, hb10⟩
        have hB10 := hB9.trans (hb10.mono hB9.size)
        have ka := BlkT.keep ka hb10
        have kb := BlkT.keep kb hb10
        go_wp2_with fail
        go_meet
        exact ⟨rfl, hb9.trans (hb10.mono hb9.size)⟩
    · simp only [Bool.and_self] at d3 d4
      rcases four with ⟨f0, f1⟩ | ⟨f1, f2, f3⟩ | ⟨f1, f2, f3, f4⟩ | ⟨f1, f2, f3, f4, f5⟩
      · exact absurd (of_decide_eq_true d3) (by have := f0.out; omega)
      · go_wp2_with fail
        refine (CBA.out _ (HE.out.below hB8)).mono ?_
        rintro r V9 ⟨rfl, hb9⟩
        have hB9 := hB8.trans (hb9.mono hB8.size)
        have ka := BlkT.keep ka hb9
        have kb := BlkT.keep kb hb9
        clear kac0 kac1 kbc0 kbc1
        have kac0 := ka.cell 0
        have kac1 := ka.cell 1
        simp only [List.getElem?_toArray, List.getElem?_cons_succ, List.getElem?_cons_zero] at kac0 kac1
        have kbc0 := kb.cell 0
        have kbc1 := kb.cell 1
        simp only [List.getElem?_toArray, List.getElem?_cons_succ, List.getElem?_cons_zero] at kbc0 kbc1
        go_wp2_with fail
        refine (CAA.out _ (HE.out.below hB9)).mono ?_
        rintro r V10 ⟨rfl, hb10⟩
        have hB10 := hB9.trans (hb10.mono hB9.size)
        have ka := BlkT.keep ka hb10
        have kb := BlkT.keep kb hb10
        go_wp2_with fail
        go_meet
        exact ⟨rfl, hb9.trans (hb10.mono hb9.size)⟩
      · go_wp2_with fail
        refine (CBA.out _ (HE.out.below hB8)).mono ?_
        rintro r V9 ⟨rfl, hb9⟩
        have hB9 := hB8.trans (hb9.mono hB8.size)
        have ka := BlkT.keep ka hb9
        have kb := BlkT.keep kb hb9
        clear kac0 kac1 kbc0 kbc1
        have kac0 := ka.cell 0
        have kac1 := ka.cell 1
        simp only [List.getElem?_toArray, List.getElem?_cons_succ, List.getElem?_cons_zero] at kac0 kac1
        have kbc0 := kb.cell 0
        have kbc1 := kb.cell 1
        simp only [List.getElem?_toArray, List.getElem?_cons_succ, List.getElem?_cons_zero] at kbc0 kbc1
        go_wp2_with fail
        refine (CAA.out _ (HE.out.below hB9)).mono ?_
        rintro r V10 ⟨rfl, hb10⟩
        have hB10 := hB9.trans (hb10.mono hB9.size)
        have ka := BlkT.keep ka hb10
        have kb := BlkT.keep kb hb10
        go_wp2_with fail
        go_meet
        exact ⟨rfl, hb9.trans (hb10.mono hb9.size)⟩
      · go_wp2_with fail
        refine (CBA.out _ (HE.out.below hB8)).mono ?_
        rintro r V9 ⟨rfl, hb9⟩
        have hB9 := hB8.trans (hb9.mono hB8.size)
        have ka := BlkT.keep ka hb9
        have kb := BlkT.keep kb hb9
        clear kac0 kac1 kbc0 kbc1
        have kac0 := ka.cell 0
        have kac1 := ka.cell 1
        simp only [List.getElem?_toArray, List.getElem?_cons_succ, List.getElem?_cons_zero] at kac0 kac1
        have kbc0 := kb.cell 0
        have kbc1 := kb.cell 1
        simp only [List.getElem?_toArray, List.getElem?_cons_succ, List.getElem?_cons_zero] at kbc0 kbc1
        go_wp2_with fail
        refine (CAA.out _ (HE.out.below hB9)).mono ?_
        rintro r V10 ⟨rfl, hb10⟩
        have hB10 := hB9.trans (hb10.mono hB9.size)
        have ka := BlkT.keep ka hb10
        have kb := BlkT.keep kb hb10
        go_wp2_with fail
        go_meet
        exact ⟨rfl, hb9.trans (hb10.mono hb9.size)⟩
  case rest =>
    rename World => V10
    obtain ⟨rfl, hb10⟩ := hcut
    have hB10 := hB8.trans (hb10.mono hB8.size)
    have ka := BlkT.keep ka hb10
    have kb := BlkT.keep kb hb10
    have kc := BlkT.keep kc hb10
    have kt := BlkT.keep kt hb10
    clear d1 d2 d3 d4 xy four hx hy hwn
    go_upto_region 11 with (fail)
    have kac0 := ka.cell 0
    have kac1 := ka.cell 1
    simp only [List.getElem?_toArray, List.getElem?_cons_succ, List.getElem?_cons_zero] at kac0 kac1
    have kbc0 := kb.cell 0
    have kbc1 := kb.cell 1
    simp only [List.getElem?_toArray, List.getElem?_cons_succ, List.getElem?_cons_zero] at kbc0 kbc1
    go_wp2_with fail
    refine (SB.out _ (HE.out.below hB10)).mono ?_
    rintro r V11 ⟨rfl, hb11⟩
    have hB11 := hB10.trans (hb11.mono hB10.size)
    have ka := BlkT.keep ka hb11
    have kb := BlkT.keep kb hb11
    have kc := BlkT.keep kc hb11
    have kt := BlkT.keep kt hb11
    clear kac0 kac1
    clear kbc0 kbc1
    go_upto_region 12 with (fail)
    generalize hW11 : World.alloc V11 _ = W11
    have hw11 : Below V11.heap.size V11 W11 := hW11 ▸ (Below.refl _ _).alloc (Nat.le_refl _) _
    have hBw11 := hB11.trans (hw11.mono hB11.size)
    have ka := BlkT.keep ka hw11
    have kb := BlkT.keep kb hw11
    have kc := BlkT.keep kc hw11
    have kt := BlkT.keep kt hw11
    have kd : BlkT W11 V11.heap.size #[.string dn, .string dd] 26 := hW11 ▸ BlkT.newAt _ _ _ rfl
    clear hW11
    go_cut [107] from 99 to 107 (fun c wx => c = .bool false ∧ Below W11.heap.size W11 wx)
    case first =>
      rcases hde with ⟨rfl, CD⟩ | rfl
      · skip
        have HK40 : Hid (∀ w', Below W11.heap.size W11 w' → (w'.cell? ⟨V11.heap.size, 0, none⟩ = some (.string dn) ∧ w'.cell? ⟨V11.heap.size, 1, none⟩ = some (.string dd))) := Lib.hid (fun V hV => (And.intro ((BlkT.keep kd hV).cell 0) ((BlkT.keep kd hV).cell 1)))
        have HK40E := Lib.hid (fun V (hV : Below W11.heap.size W11 V) => HE.out.below (hBw11.trans (hV.mono hBw11.size)))
        go_region_held3 (fun w' => Below W11.heap.size W11 w' ∧ (w'.cell? ⟨V11.heap.size, 0, none⟩ = some (.string dn) ∧ w'.cell? ⟨V11.heap.size, 1, none⟩ = some (.string dd)))
          (first | exact ⟨(Below.refl _ _).drew, HK40.out _ (Below.refl _ _).drew⟩ | (have hh := (‹Below W11.heap.size W11 _ ∧ _›).1; have hb := hh.trans (hBq.mono hh.size); exact ⟨hb, HK40.out _ hb⟩))
          (first
            | (go_at_call 25; (with_reducible refine (is_any _ _ _).mono ?_); rintro r wq ⟨rfl, hBq⟩)
            | (go_at_call 23; (with_reducible refine (CD.out _ (HK40E.out _ (‹Below W11.heap.size W11 _ ∧ _›).1)).mono ?_); rintro r wq ⟨rfl, hBq⟩))
        all_goals (
          have hh := (‹Below W11.heap.size W11 _ ∧ _›).1
          go_wp2_with fail
          go_meet
          exact ⟨rfl, hh⟩)
      · skip
        refine wp_region_noPanic ?_
        refine wp_region_held_drew (S := (fun w' => Below W11.heap.size W11 w')) (by kernel_rfl) ((Below.refl _ _).drew) (fun hHeld => ?_)
        refine wpAnyH_take (i := 0) (oi := { dst := some 99, op := Op.move (Operand.tmp 18), type := 30, pos := "law.go:211", after := #[], guard := none }) (v := ?_) rfl (by kernel_rfl) (by kernel_rfl) (by kernel_rfl) (fun _ _ _ h => h) (Or.inl ⟨by kernel_rfl, ?_⟩) (by assumption) ?_
        rotate_left
        · intro w hSw
          (try dsimp only at hSw)
          go_simp
          all_goals (with_reducible rfl)
        (try simp only [Act.put, List.setIfInBounds_toArray, List.set_cons_zero, List.set_cons_succ])
        refine wpAnyH_take (i := 1) (oi := { dst := some 100, op := Op.binOp BinOp.eql 30 (Operand.tmp 99) (Operand.const (Value.int IntKind.i64 0)) 30, type := 4, pos := "law.go:211", after := #[{ on := 0, ground := Ground.data }], guard := none }) (v := ?_) rfl (by kernel_rfl) (by kernel_rfl) (by kernel_rfl) (fun _ _ _ h => h) (Or.inl ⟨by kernel_rfl, ?_⟩) (by assumption) ?_
        rotate_left
        · intro w hSw
          (try dsimp only at hSw)
          go_simp
          all_goals (with_reducible rfl)
        (try simp only [Act.put, List.setIfInBounds_toArray, List.set_cons_zero, List.set_cons_succ])
        refine wpAnyH_take (i := 2) (oi := { dst := some 101, op := Op.move (Operand.tmp 100), type := 4, pos := "law.go:211", after := #[{ on := 1, ground := Ground.data }], guard := none }) (v := ?_) rfl (by kernel_rfl) (by kernel_rfl) (by kernel_rfl) (fun _ _ _ h => h) (Or.inl ⟨by kernel_rfl, ?_⟩) (by assumption) ?_
        rotate_left
        · intro w hSw
          (try dsimp only at hSw)
          go_simp
          all_goals (with_reducible rfl)
        (try simp only [Act.put, List.setIfInBounds_toArray, List.set_cons_zero, List.set_cons_succ])
        refine wpAnyH_take (i := 3) (oi := { dst := some 102, op := Op.load 26 (Operand.tmp 17), type := 26, pos := "law.go:211", after := #[{ on := 2, ground := Ground.guard }], guard := some (2, true) }) (v := undef) rfl (by kernel_rfl) (by kernel_rfl) (by kernel_rfl) (fun _ _ _ h => h) (Or.inr ⟨by kernel_rfl, rfl⟩) (by assumption) ?_
        (try simp only [Act.put, List.setIfInBounds_toArray, List.set_cons_zero, List.set_cons_succ])
        refine wpAnyH_take (i := 4) (oi := { dst := some 103, op := Op.call { callee := Callee.value (Operand.func 25), args := #[Operand.const (Value.string { data := #[48] }), Operand.const (Value.string { data := #[49] })], argTypes := #[9, 9] }, type := 26, pos := "law.go:211", after := #[{ on := 2, ground := Ground.chain }, { on := 2, ground := Ground.guard }], guard := some (2, true) }) (v := undef) rfl (by kernel_rfl) (by kernel_rfl) (by kernel_rfl) (fun _ _ _ h => h) (Or.inr ⟨by kernel_rfl, rfl⟩) (by assumption) ?_
        (try simp only [Act.put, List.setIfInBounds_toArray, List.set_cons_zero, List.set_cons_succ])
        refine wpAnyH_take (i := 5) (oi := { dst := some 104, op := Op.call { callee := Callee.value (Operand.func 23), args := #[Operand.tmp 102, Operand.tmp 103], argTypes := #[26, 26] }, type := 3, pos := "law.go:211", after := #[{ on := 3, ground := Ground.data }, { on := 4, ground := Ground.data }, { on := 4, ground := Ground.chain }, { on := 2, ground := Ground.guard }], guard := some (2, true) }) (v := undef) rfl (by kernel_rfl) (by kernel_rfl) (by kernel_rfl) (fun _ _ _ h => h) (Or.inr ⟨by kernel_rfl, rfl⟩) (by assumption) ?_
        (try simp only [Act.put, List.setIfInBounds_toArray, List.set_cons_zero, List.set_cons_succ])
        refine wpAnyH_take (i := 6) (oi := { dst := some 105, op := Op.move (Operand.tmp 14), type := 3, pos := "law.go:211", after := #[{ on := 2, ground := Ground.guard }], guard := some (2, true) }) (v := undef) rfl (by kernel_rfl) (by kernel_rfl) (by kernel_rfl) (fun _ _ _ h => h) (Or.inr ⟨by kernel_rfl, rfl⟩) (by assumption) ?_
        (try simp only [Act.put, List.setIfInBounds_toArray, List.set_cons_zero, List.set_cons_succ])
        refine wpAnyH_take (i := 7) (oi := { dst := some 106, op := Op.binOp BinOp.neq 3 (Operand.tmp 104) (Operand.tmp 105) 3, type := 4, pos := "law.go:211", after := #[{ on := 5, ground := Ground.data }, { on := 6, ground := Ground.data }, { on := 2, ground := Ground.guard }], guard := some (2, true) }) (v := undef) rfl (by kernel_rfl) (by kernel_rfl) (by kernel_rfl) (fun _ _ _ h => h) (Or.inr ⟨by kernel_rfl, rfl⟩) (by assumption) ?_
        (try simp only [Act.put, List.setIfInBounds_toArray, List.set_cons_zero, List.set_cons_succ])
        refine wpAnyH_take (i := 8) (oi := { dst := some 107, op := Op.pick (Operand.tmp 101) (Operand.tmp 106) (Operand.const (Value.bool false)), type := 4, pos := "law.go:211", after := #[{ on := 2, ground := Ground.data }, { on := 7, ground := Ground.data }], guard := none }) (v := ?_) rfl (by kernel_rfl) (by kernel_rfl) (by kernel_rfl) (fun _ _ _ h => h) (Or.inl ⟨by kernel_rfl, ?_⟩) (by assumption) ?_
        rotate_left
        · intro w hSw
          (try dsimp only at hSw)
          go_simp
          all_goals (with_reducible rfl)
        (try simp only [Act.put, List.setIfInBounds_toArray, List.set_cons_zero, List.set_cons_succ])
        refine wpAnyH_done (by kernel_rfl) ?_ _
        refine NoPanic.normal ?_
        go_wp2_with fail
        go_meet
        exact ⟨rfl, hHeld⟩
    case rest =>
      rename World => V40
      obtain ⟨rfl, hb40⟩ := hcut
      have hB40 := hBw11.trans (hb40.mono hBw11.size)
      have ka := BlkT.keep ka hb40
      have kb := BlkT.keep kb hb40
      have kc := BlkT.keep kc hb40
      have kt := BlkT.keep kt hb40
      have kd := BlkT.keep kd hb40
      clear hde
      go_upto_region 14 with (fail)
      have kac0 := ka.cell 0
      have kac1 := ka.cell 1
      simp only [List.getElem?_toArray, List.getElem?_cons_succ, List.getElem?_cons_zero] at kac0 kac1
      have ktc0 := kt.cell 0
      have ktc1 := kt.cell 1
      simp only [List.getElem?_toArray, List.getElem?_cons_succ, List.getElem?_cons_zero] at ktc0 ktc1
      go_wp2_with fail
      refine (AP.out _ (HE.out.below hB40)).mono ?_
      rintro r V41 ⟨rfl, hb41⟩
      have hB41 := hB40.trans (hb41.mono hB40.size)
      have ka := BlkT.keep ka hb41
      have kb := BlkT.keep kb hb41
      have kc := BlkT.keep kc hb41
      have kt := BlkT.keep kt hb41
      clear kac0 kac1
      clear ktc0 ktc1
      have lkakp := Lib.hid ka.lt
      have lkbkp := Lib.hid kb.lt
      have lkckp := Lib.hid kc.lt
      have lktkp := Lib.hid kt.lt
      go_upto_region 15 with (fail)
      generalize hW41 : World.alloc V41 _ = W41
      have hw41 : Below V41.heap.size V41 W41 := hW41 ▸ (Below.refl _ _).alloc (Nat.le_refl _) _
      have hBw41 := hB41.trans (hw41.mono hB41.size)
      have ka := BlkT.keep ka hw41
      have kb := BlkT.keep kb hw41
      have kc := BlkT.keep kc hw41
      have kt := BlkT.keep kt hw41
      have kp : BlkT W41 V41.heap.size #[.string spn, .string spd] 26 := hW41 ▸ BlkT.newAt _ _ _ rfl
      clear hW41
      have kbc0 := kb.cell 0
      have kbc1 := kb.cell 1
      simp only [List.getElem?_toArray, List.getElem?_cons_succ, List.getElem?_cons_zero] at kbc0 kbc1
      have ktc0 := kt.cell 0
      have ktc1 := kt.cell 1
      simp only [List.getElem?_toArray, List.getElem?_cons_succ, List.getElem?_cons_zero] at ktc0 ktc1
      go_wp2_with fail
      refine (AQ.out _ (HE.out.below hBw41)).mono ?_
      rintro r V42 ⟨rfl, hb42⟩
      have hB42 := hBw41.trans (hb42.mono hBw41.size)
      have ka := BlkT.keep ka hb42
      have kb := BlkT.keep kb hb42
      have kc := BlkT.keep kc hb42
      have kt := BlkT.keep kt hb42
      have kp := BlkT.keep kp hb42
      clear kbc0 kbc1
      clear ktc0 ktc1
      have lkakq := Lib.hid ka.lt
      have lkbkq := Lib.hid kb.lt
      have lkckq := Lib.hid kc.lt
      have lktkq := Lib.hid kt.lt
      have lkpkq := Lib.hid kp.lt
      go_upto_region 16 with (fail)
      generalize hW42 : World.alloc V42 _ = W42
      have hw42 : Below V42.heap.size V42 W42 := hW42 ▸ (Below.refl _ _).alloc (Nat.le_refl _) _
      have hBw42 := hB42.trans (hw42.mono hB42.size)
      have ka := BlkT.keep ka hw42
      have kb := BlkT.keep kb hw42
      have kc := BlkT.keep kc hw42
      have kt := BlkT.keep kt hw42
      have kp := BlkT.keep kp hw42
      have kq : BlkT W42 V42.heap.size #[.string sqn, .string sqd] 26 := hW42 ▸ BlkT.newAt _ _ _ rfl
      clear hW42
      have kpc0 := kp.cell 0
      have kpc1 := kp.cell 1
      simp only [List.getElem?_toArray, List.getElem?_cons_succ, List.getElem?_cons_zero] at kpc0 kpc1
      have kqc0 := kq.cell 0
      have kqc1 := kq.cell 1
      simp only [List.getElem?_toArray, List.getElem?_cons_succ, List.getElem?_cons_zero] at kqc0 kqc1
      go_wp2_with fail
      refine (CPQ.out _ (HE.out.below hBw42)).mono ?_
      rintro r V43 ⟨rfl, hb43⟩
      have hB43 := hBw42.trans (hb43.mono hBw42.size)
      have ka := BlkT.keep ka hb43
      have kb := BlkT.keep kb hb43
      have kc := BlkT.keep kc hb43
      have kt := BlkT.keep kt hb43
      have kp := BlkT.keep kp hb43
      have kq := BlkT.keep kq hb43
      clear kpc0 kpc1
      clear kqc0 kqc1
      go_upto_region 18 with (fail)
      have kac0 := ka.cell 0
      have kac1 := ka.cell 1
      simp only [List.getElem?_toArray, List.getElem?_cons_succ, List.getElem?_cons_zero] at kac0 kac1
      have ktc0 := kt.cell 0
      have ktc1 := kt.cell 1
      simp only [List.getElem?_toArray, List.getElem?_cons_succ, List.getElem?_cons_zero] at ktc0 ktc1
      go_wp2_with fail
      refine (MP.out _ (HE.out.below hB43)).mono ?_
      rintro r V44 ⟨rfl, hb44⟩
      have hB44 := hB43.trans (hb44.mono hB43.size)
      have ka := BlkT.keep ka hb44
      have kb := BlkT.keep kb hb44
      have kc := BlkT.keep kc hb44
      have kt := BlkT.keep kt hb44
      have kp := BlkT.keep kp hb44
      have kq := BlkT.keep kq hb44
      clear kac0 kac1
      clear ktc0 ktc1
      have kpf0 := kp.frozen 0
      have kpf1 := kp.frozen 1
      have kpc0 := kp.cell 0
      have kpc1 := kp.cell 1
      simp only [List.getElem?_toArray, List.getElem?_cons_succ, List.getElem?_cons_zero] at kpc0 kpc1
      go_upto_region 19 with (fail)
      clear kpc0 kpc1
      clear kpf0 kpf1
      have ka := (BlkT.other ka (a := ⟨V41.heap.size, 0, none⟩) (.string syn) (Nat.ne_of_lt lkakp.out)).other (a := ⟨V41.heap.size, 1, none⟩) (.string syd) (Nat.ne_of_lt lkakp.out)
      have kb := (BlkT.other kb (a := ⟨V41.heap.size, 0, none⟩) (.string syn) (Nat.ne_of_lt lkbkp.out)).other (a := ⟨V41.heap.size, 1, none⟩) (.string syd) (Nat.ne_of_lt lkbkp.out)
      have kc := (BlkT.other kc (a := ⟨V41.heap.size, 0, none⟩) (.string syn) (Nat.ne_of_lt lkckp.out)).other (a := ⟨V41.heap.size, 1, none⟩) (.string syd) (Nat.ne_of_lt lkckp.out)
      have kt := (BlkT.other kt (a := ⟨V41.heap.size, 0, none⟩) (.string syn) (Nat.ne_of_lt lktkp.out)).other (a := ⟨V41.heap.size, 1, none⟩) (.string syd) (Nat.ne_of_lt lktkp.out)
      have kp : BlkT ((V44.setCell ⟨V41.heap.size, 0, none⟩ (.string syn)).setCell ⟨V41.heap.size, 1, none⟩ (.string syd)) V41.heap.size #[.string syn, .string syd] 26 := (kp.set 0 _).set 1 _
      have kq := (BlkT.other kq (a := ⟨V41.heap.size, 0, none⟩) (.string syn) (Nat.ne_of_gt lkpkq.out)).other (a := ⟨V41.heap.size, 1, none⟩) (.string syd) (Nat.ne_of_gt lkpkq.out)
      have hBu44 : Below w.heap.size w ((V44.setCell ⟨V41.heap.size, 0, none⟩ (.string syn)).setCell ⟨V41.heap.size, 1, none⟩ (.string syd)) := (hB44.setCell hB41.size _).setCell hB41.size _
      generalize (V44.setCell ⟨V41.heap.size, 0, none⟩ (.string syn)).setCell ⟨V41.heap.size, 1, none⟩ (.string syd) = U44 at *
      have kbc0 := kb.cell 0
      have kbc1 := kb.cell 1
      simp only [List.getElem?_toArray, List.getElem?_cons_succ, List.getElem?_cons_zero] at kbc0 kbc1
      have ktc0 := kt.cell 0
      have ktc1 := kt.cell 1
      simp only [List.getElem?_toArray, List.getElem?_cons_succ, List.getElem?_cons_zero] at ktc0 ktc1
      go_wp2_with fail
      refine (MQ.out _ (HE.out.below hBu44)).mono ?_
      rintro r V45 ⟨rfl, hb45⟩
      have hB45 := hBu44.trans (hb45.mono hBu44.size)
      have ka := BlkT.keep ka hb45
      have kb := BlkT.keep kb hb45
      have kc := BlkT.keep kc hb45
      have kt := BlkT.keep kt hb45
      have kp := BlkT.keep kp hb45
      have kq := BlkT.keep kq hb45
      clear kbc0 kbc1
      clear ktc0 ktc1
      have kqf0 := kq.frozen 0
      have kqf1 := kq.frozen 1
      have kqc0 := kq.cell 0
      have kqc1 := kq.cell 1
      simp only [List.getElem?_toArray, List.getElem?_cons_succ, List.getElem?_cons_zero] at kqc0 kqc1
      go_upto_region 20 with (fail)
      clear kqc0 kqc1
      clear kqf0 kqf1
      have ka := (BlkT.other ka (a := ⟨V42.heap.size, 0, none⟩) (.string szn) (Nat.ne_of_lt lkakq.out)).other (a := ⟨V42.heap.size, 1, none⟩) (.string szd) (Nat.ne_of_lt lkakq.out)
      have kb := (BlkT.other kb (a := ⟨V42.heap.size, 0, none⟩) (.string szn) (Nat.ne_of_lt lkbkq.out)).other (a := ⟨V42.heap.size, 1, none⟩) (.string szd) (Nat.ne_of_lt lkbkq.out)
      have kc := (BlkT.other kc (a := ⟨V42.heap.size, 0, none⟩) (.string szn) (Nat.ne_of_lt lkckq.out)).other (a := ⟨V42.heap.size, 1, none⟩) (.string szd) (Nat.ne_of_lt lkckq.out)
      have kt := (BlkT.other kt (a := ⟨V42.heap.size, 0, none⟩) (.string szn) (Nat.ne_of_lt lktkq.out)).other (a := ⟨V42.heap.size, 1, none⟩) (.string szd) (Nat.ne_of_lt lktkq.out)
      have kp := (BlkT.other kp (a := ⟨V42.heap.size, 0, none⟩) (.string szn) (Nat.ne_of_lt lkpkq.out)).other (a := ⟨V42.heap.size, 1, none⟩) (.string szd) (Nat.ne_of_lt lkpkq.out)
      have kq : BlkT ((V45.setCell ⟨V42.heap.size, 0, none⟩ (.string szn)).setCell ⟨V42.heap.size, 1, none⟩ (.string szd)) V42.heap.size #[.string szn, .string szd] 26 := (kq.set 0 _).set 1 _
      have hBu45 : Below w.heap.size w ((V45.setCell ⟨V42.heap.size, 0, none⟩ (.string szn)).setCell ⟨V42.heap.size, 1, none⟩ (.string szd)) := (hB45.setCell hB42.size _).setCell hB42.size _
      generalize (V45.setCell ⟨V42.heap.size, 0, none⟩ (.string szn)).setCell ⟨V42.heap.size, 1, none⟩ (.string szd) = U45 at *
      go_wp2_with fail
      have HK50 : Hid (∀ w', Below U45.heap.size U45 w' → (w'.cell? ⟨V41.heap.size, 0, none⟩ = some (.string syn) ∧ w'.cell? ⟨V41.heap.size, 1, none⟩ = some (.string syd)) ∧ (w'.cell? ⟨V42.heap.size, 0, none⟩ = some (.string szn) ∧ w'.cell? ⟨V42.heap.size, 1, none⟩ = some (.string szd)) ∧ (w'.cell? ⟨V5.heap.size, 0, none⟩ = some (.string stn) ∧ w'.cell? ⟨V5.heap.size, 1, none⟩ = some (.string std))) := Lib.hid (fun V hV => (And.intro (And.intro ((BlkT.keep kp hV).cell 0) ((BlkT.keep kp hV).cell 1)) (And.intro (And.intro ((BlkT.keep kq hV).cell 0) ((BlkT.keep kq hV).cell 1)) (And.intro ((BlkT.keep kt hV).cell 0) ((BlkT.keep kt hV).cell 1)))))
      have HK50E := Lib.hid (fun V (hV : Below U45.heap.size U45 V) => HE.out.below (hBu45.trans (hV.mono hBu45.size)))
      go_region_held3 (fun w' => Below U45.heap.size U45 w' ∧ (w'.cell? ⟨V41.heap.size, 0, none⟩ = some (.string syn) ∧ w'.cell? ⟨V41.heap.size, 1, none⟩ = some (.string syd)) ∧ (w'.cell? ⟨V42.heap.size, 0, none⟩ = some (.string szn) ∧ w'.cell? ⟨V42.heap.size, 1, none⟩ = some (.string szd)) ∧ (w'.cell? ⟨V5.heap.size, 0, none⟩ = some (.string stn) ∧ w'.cell? ⟨V5.heap.size, 1, none⟩ = some (.string std)))
        (first | exact ⟨(Below.refl _ _).drew, HK50.out _ (Below.refl _ _).drew⟩ | (have hh := (‹Below U45.heap.size U45 _ ∧ _›).1; have hb := hh.trans (hBq.mono hh.size); exact ⟨hb, HK50.out _ hb⟩))
        (first
          | (go_at_call 25; (with_reducible refine (is_any _ _ _).mono ?_); rintro r wq ⟨rfl, hBq⟩)
          | (go_at_call 23; (with_reducible refine (CYZ.out _ (HK50E.out _ (‹Below U45.heap.size U45 _ ∧ _›).1)).mono ?_); rintro r wq ⟨rfl, hBq⟩)
          | (go_at_call 23; (with_reducible refine (CT0.out _ (HK50E.out _ (‹Below U45.heap.size U45 _ ∧ _›).1)).mono ?_); rintro r wq ⟨rfl, hBq⟩))
      all_goals (
        have hh := (‹Below U45.heap.size U45 _ ∧ _›).1
        go_wp2_with fail
        go_ret
        exact ⟨rfl, hBu45.trans (hh.mono hBu45.size)⟩)
end Go.Proofs.YtjnpenljgfdaiaaGreatDoor

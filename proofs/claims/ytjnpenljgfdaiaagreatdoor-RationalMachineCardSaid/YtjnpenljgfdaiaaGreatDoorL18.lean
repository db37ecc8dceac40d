/- nadirlaw04: RationalMachine. -/
import Derived.Deep.RegionHeld3
import Derived.Deep.CutRange
import Derived.Test.YtjnpenljgfdaiaaGreatDoorNB
namespace Go.Proofs.YtjnpenljgfdaiaaGreatDoor
open Go.RowKit Go.Shelf Lib

set_option maxRecDepth 100000 in
set_option maxHeartbeats 16000000 in
theorem machine_z (x0 x1 x2 x3 p0 p1 p2 p3 n d m c : Int) (w : World) (he : EnvR w) (hM : Mach n d m c) (hm0 : m = 0) (h0 : n = p0 - 30000) (h1 : d = 1 + p1) (h2 : m = p2 - 30000) (h3 : c = 1 + p3)
    (P0 : ∀ V : World, Calls Tryz.prog 28 #[.int .i64 x0, .int .i64 60001] V fun e w' => e = .returned (.int .i64 p0) ∧ V = w')
    (P1 : ∀ V : World, Calls Tryz.prog 28 #[.int .i64 x1, .int .i64 30000] V fun e w' => e = .returned (.int .i64 p1) ∧ V = w')
    (P2 : ∀ V : World, Calls Tryz.prog 28 #[.int .i64 x2, .int .i64 60001] V fun e w' => e = .returned (.int .i64 p2) ∧ V = w')
    (P3 : ∀ V : World, Calls Tryz.prog 28 #[.int .i64 x3, .int .i64 30000] V fun e w' => e = .returned (.int .i64 p3) ∧ V = w') :
    Calls Tryz.prog 18 #[.int .i64 x0, .int .i64 x1, .int .i64 x2, .int .i64 x3] w fun e w' => e = .returned (.bool true) ∧ Below w.heap.size w w' := by
  have HE := Lib.hid he
  clear he
  have Q0 := Lib.hid P0
  have Q1 := Lib.hid P1
  have Q2 := Lib.hid P2
  have Q3 := Lib.hid P3
  clear P0 P1 P2 P3
  have bn := hM.n; have bm := hM.m; have bd := hM.d; have bc := hM.c
  have a0 : IntKind.i64.wrap (p0 - 30000) = n := by rw [IntKind.wrap_i64]; omega
  have a2 : IntKind.i64.wrap (p2 - 30000) = m := by rw [IntKind.wrap_i64]; omega
  have a1 : IntKind.i64.wrap (1 + p1) = d := by rw [IntKind.wrap_i64]; omega
  have a3 : IntKind.i64.wrap (1 + p3) = c := by rw [IntKind.wrap_i64]; omega
  have OA := Lib.hid (fun V (hV : EnvR V) => of_q (n := n) (d := d) (by omega) (by omega) (by omega) (by omega) (by omega) V hV)
  have OB := Lib.hid (fun V (hV : EnvR V) => of_q (n := m) (d := c) (by omega) (by omega) (by omega) (by omega) (by omega) V hV)
  obtain ⟨fa, fb⟩ := hM.fits
  obtain ⟨o0, o1, o2, o3n, o3z⟩ := hM.oks
  have FO := Lib.hid (fun V (hV : EnvR V) => by have q := four_Q fa fb V hV; rw [o0, o1, o2, o3z hm0] at q; dsimp only [nQ, dQ, qE] at q; exact q)
  obtain ⟨v0, v1, v2, v3⟩ := hM.vals
  obtain ⟨b0, b1, b2, b3, b4, b5, b6⟩ := hM.bounds
  obtain ⟨c0, c1, c2, c3, c4, c5⟩ := hM.size
  have CV := Lib.hid (fun V (hV : EnvR V) => by have q := cmp_q fa fb V hV; rw [hM.cmp] at q; exact q)
  obtain ⟨⟨T0, tx0, ty0⟩, td0⟩ := mach v0 b0 b1 c0 c2
  have TN0 := Lib.hid (fun V => toInt10_S (show (N3.addF (N3.mk n d) (N3.mk m c)).1.natAbs < 9223372036854775808 by have := b0; omega) V)
  have TD0 := Lib.hid (fun V => toInt10_S (show (N3.addF (N3.mk n d) (N3.mk m c)).2.natAbs < 9223372036854775808 by have := b1; omega) V)
  have VF0 := Lib.hid (fun V (hV : EnvR V) => valid_q (show Fit (N3.addF (N3.mk n d) (N3.mk m c)) from fit_small v0 b0 b1) V hV)
  obtain ⟨⟨T1, tx1, ty1⟩, td1⟩ := mach v1 b2 b3 c1 c2
  have TN1 := Lib.hid (fun V => toInt10_S (show (N3.subF (N3.mk n d) (N3.mk m c)).1.natAbs < 9223372036854775808 by have := b2; omega) V)
  have TD1 := Lib.hid (fun V => toInt10_S (show (N3.subF (N3.mk n d) (N3.mk m c)).2.natAbs < 9223372036854775808 by have := b3; omega) V)
  have VF1 := Lib.hid (fun V (hV : EnvR V) => valid_q (show Fit (N3.subF (N3.mk n d) (N3.mk m c)) from fit_small v1 b2 b3) V hV)
  obtain ⟨⟨T2, tx2, ty2⟩, td2⟩ := mach v2 b4 b5 c3 c2
  have TN2 := Lib.hid (fun V => toInt10_S (show (N3.mulF (N3.mk n d) (N3.mk m c)).1.natAbs < 9223372036854775808 by have := b4; omega) V)
  have TD2 := Lib.hid (fun V => toInt10_S (show (N3.mulF (N3.mk n d) (N3.mk m c)).2.natAbs < 9223372036854775808 by have := b5; omega) V)
  have VF2 := Lib.hid (fun V (hV : EnvR V) => valid_q (show Fit (N3.mulF (N3.mk n d) (N3.mk m c)) from fit_small v2 b4 b5) V hV)
  obtain ⟨g0, g1, g2, g3, g4, g5, g6⟩ := hM.wraps
  have hcb := N3.cmpI_bd (n * c) (m * d)
  have hcmp : N3.cmpI (n * c) (m * d) = if n * c < m * d then -1 else if m * d < n * c then 1 else 0 := rfl
  clear c0 c1 c2 c3 c4 c5 b0 b1 b2 b3 b4 b5 b6 v0 v1 v2 v3 o0 o1 o2 o3n o3z fa fb bn bm bd bc hM h0 h1 h2 h3
  generalize N3.S (N3.addF (N3.mk n d) (N3.mk m c)).1 = u0 at *
  generalize N3.S (N3.addF (N3.mk n d) (N3.mk m c)).2 = y0 at *
  generalize (N3.addF (N3.mk n d) (N3.mk m c)).1 = i0 at *
  generalize (N3.addF (N3.mk n d) (N3.mk m c)).2 = j0 at *
  generalize N3.S (N3.subF (N3.mk n d) (N3.mk m c)).1 = u1 at *
  generalize N3.S (N3.subF (N3.mk n d) (N3.mk m c)).2 = y1 at *
  generalize (N3.subF (N3.mk n d) (N3.mk m c)).1 = i1 at *
  generalize (N3.subF (N3.mk n d) (N3.mk m c)).2 = j1 at *
  generalize N3.S (N3.mulF (N3.mk n d) (N3.mk m c)).1 = u2 at *
  generalize N3.S (N3.mulF (N3.mk n d) (N3.mk m c)).2 = y2 at *
  generalize (N3.mulF (N3.mk n d) (N3.mk m c)).1 = i2 at *
  generalize (N3.mulF (N3.mk n d) (N3.mk m c)).2 = j2 at *
  generalize N3.S (N3.mk n d).1 = an at *
  generalize N3.S (N3.mk n d).2 = ad at *
  generalize N3.S (N3.mk m c).1 = bn at *
  generalize N3.S (N3.mk m c).2 = bd at *
  generalize N3.cmpI (n * c) (m * d) = cv at *
  have HM0 := Lib.hid hm0
  clear hm0
  go_enter Tryz.func18, Tryz.ntmps18
  go_wp2_with fail
  refine (sane04 _ HE.out).mono ?_
  rintro r V1 ⟨rfl, hb1⟩
  have hB1 := hb1
  go_wp2_with fail
  refine (Q0.out _).mono ?_
  rintro r V ⟨rfl, rfl⟩
  go_wp2_with fail
  refine (Q2.out _).mono ?_
  rintro r V ⟨rfl, rfl⟩
  go_wp2_with fail
  refine (Q1.out _).mono ?_
  rintro r V ⟨rfl, rfl⟩
  go_wp2_with fail
  refine (Q3.out _).mono ?_
  rintro r V ⟨rfl, rfl⟩
  go_wp2_with fail
  refine (OA.out _ (HE.out.below hB1)).mono ?_
  rintro r V2 ⟨rfl, hb2⟩
  have hB2 := hB1.trans (hb2.mono hB1.size)
  go_upto_region 7 with (fail)
  generalize hW2 : World.alloc V2 _ = W2
  have hw2 : Below V2.heap.size V2 W2 := hW2 ▸ (Below.refl _ _).alloc (Nat.le_refl _) _
  have hBw2 := hB2.trans (hw2.mono hB2.size)
  have ka : BlkT W2 V2.heap.size #[(.string an), (.string ad)] 26 := hW2 ▸ BlkT.newAt _ _ _ rfl
  clear hW2
  go_wp2_with fail
  refine (OB.out _ (HE.out.below hBw2)).mono ?_
  rintro r V3 ⟨rfl, hb3⟩
  have hB3 := hBw2.trans (hb3.mono hBw2.size)
  have ka := BlkT.keep ka hb3
  go_upto_region 8 with (fail)
  have lkakb := Lib.hid ka.lt
  generalize hW3 : World.alloc V3 _ = W3
  have hw3 : Below V3.heap.size V3 W3 := hW3 ▸ (Below.refl _ _).alloc (Nat.le_refl _) _
  have hBw3 := hB3.trans (hw3.mono hB3.size)
  have ka := BlkT.keep ka hw3
  have kb : BlkT W3 V3.heap.size #[(.string bn), (.string bd)] 26 := hW3 ▸ BlkT.newAt _ _ _ rfl
  clear hW3
  have kac0 := ka.cell 0
  have kac1 := ka.cell 1
  have kbc0 := kb.cell 0
  have kbc1 := kb.cell 1
  simp only [List.getElem?_toArray, List.getElem?_cons_succ, List.getElem?_cons_zero] at kac0 kac1 kbc0 kbc1
  go_wp2_with fail
  refine (FO.out _ (HE.out.below hBw3)).mono ?_
  rintro r V4 ⟨rfl, hb4⟩
  have hB4 := hBw3.trans (hb4.mono hBw3.size)
  clear kac0 kac1 kbc0 kbc1
  have ka := BlkT.keep ka hb4
  have kb := BlkT.keep kb hb4
  go_upto_region 9 with (fail)
  generalize hW4 : World.alloc (World.alloc V4 _) _ = W4
  have hw4 : Below V4.heap.size V4 W4 := hW4 ▸ ((Below.refl _ _).alloc (Nat.le_refl _) _).alloc (by simp) _
  have hBw4 := hB4.trans (hw4.mono hB4.size)
  have ka := BlkT.keep ka hw4
  have kb := BlkT.keep kb hw4
  have r14 : BlkT W4 (V4.heap.size) #[(.string u0), (.string y0), (.string u1), (.string y1), (.string u2), (.string y2), (.string ⟨#[]⟩), (.string ⟨#[]⟩)] 68 := hW4 ▸ (BlkT.newAt _ _ _ rfl).alloc _
  have r15 : BlkT W4 (V4.heap.size + 1) #[(.int .i64 0), (.int .i64 0), (.int .i64 0), (.int .i64 40)] 69 := hW4 ▸ BlkT.newAt _ _ _ (by simp)
  clear hW4
  go_upto_region 10 with (fail)
  generalize hW5 : World.alloc W4 _ = W5
  have hw5 : Below W4.heap.size W4 W5 := hW5 ▸ (Below.refl _ _).alloc (Nat.le_refl _) _
  have hBw5 := hBw4.trans (hw5.mono hBw4.size)
  have ka := BlkT.keep ka hw5
  have kb := BlkT.keep kb hw5
  have r14 := BlkT.keep r14 hw5
  have r15 := BlkT.keep r15 hw5
  have r16 : BlkT W5 W4.heap.size #[(.int .i64 (n * c + m * d)), (.int .i64 (d * c)), (.int .i64 (n * c - m * d)), (.int .i64 (d * c)), (.int .i64 (n * m)), (.int .i64 (d * c)), (.int .i64 (n * c)), (.int .i64 (d * m))] 75 := hW5 ▸ BlkT.newAt _ _ _ rfl
  clear hW5
  have K14 := Lib.hid r14; have K15 := Lib.hid r15; have K16 := Lib.hid r16; have KA := Lib.hid ka; have KB := Lib.hid kb
  clear r14 r15 r16 ka kb
  go_wp2_with fail
  go_loopw [17, 18, 19, 20, 21] (fun u17 u18 u19 u20 u21 wr => (u17 = .int .i64 0 ∨ u17 = .int .i64 1 ∨ u17 = .int .i64 2 ∨ u17 = .int .i64 3 ∨ u17 = .int .i64 4) ∧ Below W5.heap.size W5 wr) (fun u17 _ _ _ _ _ => (4 - Go.RowKit.intOf u17).toNat)
  case atStart => exact ⟨.inl rfl, Below.refl _ _⟩
  case round =>
    rename World => V6
    obtain ⟨hu, hb6⟩ := hrel
    have hB6 := hBw5.trans (hb6.mono hBw5.size)
    have r14 := BlkT.keep K14.out hb6
    have r15 := BlkT.keep K15.out hb6
    have r16 := BlkT.keep K16.out hb6
    have ka := BlkT.keep KA.out hb6
    have kb := BlkT.keep KB.out hb6
    clear K14 K15 K16 KA KB
    rcases hu with rfl | rfl | rfl | rfl | rfl
    · skip
      have r14c0 := r14.cell 0
      have r14c1 := r14.cell 1
      simp only [List.getElem?_toArray, List.getElem?_cons_succ, List.getElem?_cons_zero] at r14c0 r14c1
      go_wp2_with fail
      refine (TN0.out _).mono ?_
      rintro r V7 ⟨rfl, hb7⟩
      have hB7 := hB6.trans (hb7.mono hB6.size)
      clear r14c0 r14c1
      have ka := BlkT.keep ka hb7
      have kb := BlkT.keep kb hb7
      have r14 := BlkT.keep r14 hb7
      have r15 := BlkT.keep r15 hb7
      have r16 := BlkT.keep r16 hb7
      have r14c0 := r14.cell 0
      have r14c1 := r14.cell 1
      simp only [List.getElem?_toArray, List.getElem?_cons_succ, List.getElem?_cons_zero] at r14c0 r14c1
      go_wp2_with fail
      refine (TD0.out _).mono ?_
      rintro r V8 ⟨rfl, hb8⟩
      have hB8 := hB7.trans (hb8.mono hB7.size)
      clear r14c0 r14c1
      have ka := BlkT.keep ka hb8
      have kb := BlkT.keep kb hb8
      have r14 := BlkT.keep r14 hb8
      have r15 := BlkT.keep r15 hb8
      have r16 := BlkT.keep r16 hb8
      have hb8' : Below W5.heap.size W5 V8 := hb6.trans ((hb7.mono hb6.size).trans (hb8.mono (hb6.trans (hb7.mono hb6.size)).size))
      go_wp2_with fail
      have HKS : Hid (∀ w', Below V8.heap.size V8 w' → w'.cell? ⟨V4.heap.size + 1, 0, none⟩ = some (.int .i64 0) ∧ w'.cell? ⟨V4.heap.size, 0, none⟩ = some (.string u0) ∧ w'.cell? ⟨V4.heap.size, 1, none⟩ = some (.string y0) ∧ w'.cell? ⟨W4.heap.size, 0, none⟩ = some (.int .i64 (n * c + m * d)) ∧ w'.cell? ⟨W4.heap.size, 1, none⟩ = some (.int .i64 (d * c))) := Lib.hid (fun V hV => (And.intro ((BlkT.keep r15 hV).cell 0) (And.intro ((BlkT.keep r14 hV).cell 0) (And.intro ((BlkT.keep r14 hV).cell 1) (And.intro ((BlkT.keep r16 hV).cell 0) ((BlkT.keep r16 hV).cell 1))))))
      have HKE := Lib.hid (fun V (hV : Below V8.heap.size V8 V) => HE.out.below (hB8.trans (hV.mono hB8.size)))
      go_region_held3 (fun w' => Below V8.heap.size V8 w' ∧ w'.cell? ⟨V4.heap.size + 1, 0, none⟩ = some (.int .i64 0) ∧ w'.cell? ⟨V4.heap.size, 0, none⟩ = some (.string u0) ∧ w'.cell? ⟨V4.heap.size, 1, none⟩ = some (.string y0) ∧ w'.cell? ⟨W4.heap.size, 0, none⟩ = some (.int .i64 (n * c + m * d)) ∧ w'.cell? ⟨W4.heap.size, 1, none⟩ = some (.int .i64 (d * c)))
        (first | exact ⟨(Below.refl _ _).drew, HKS.out _ (Below.refl _ _).drew⟩ | (have hh := (‹Below V8.heap.size V8 _ ∧ _›).1; have hb := hh.trans (hBq.mono hh.size); exact ⟨hb, HKS.out _ hb⟩))
        (first
          | (go_at_call 60; (with_reducible refine (VF0.out _ (HKE.out _ (‹Below V8.heap.size V8 _ ∧ _›).1)).mono ?_); rintro r wq ⟨rfl, hBq⟩))
      all_goals (
        have hh := (‹Below V8.heap.size V8 _ ∧ _›).1
        go_wp2_with fail
        go_roundw
        case rel => exact ⟨.inr (.inl rfl), hb8'.trans (hh.mono hb8'.size)⟩
        case measure => simp only [Go.RowKit.intOf]; omega)
    · skip
      have r14c2 := r14.cell 2
      have r14c3 := r14.cell 3
      simp only [List.getElem?_toArray, List.getElem?_cons_succ, List.getElem?_cons_zero] at r14c2 r14c3
      go_wp2_with fail
      refine (TN1.out _).mono ?_
      rintro r V7 ⟨rfl, hb7⟩
      have hB7 := hB6.trans (hb7.mono hB6.size)
      clear r14c2 r14c3
      have ka := BlkT.keep ka hb7
      have kb := BlkT.keep kb hb7
      have r14 := BlkT.keep r14 hb7
      have r15 := BlkT.keep r15 hb7
      have r16 := BlkT.keep r16 hb7
      have r14c2 := r14.cell 2
      have r14c3 := r14.cell 3
      simp only [List.getElem?_toArray, List.getElem?_cons_succ, List.getElem?_cons_zero] at r14c2 r14c3
      go_wp2_with fail
      refine (TD1.out _).mono ?_
      rintro r V8 ⟨rfl, hb8⟩
      have hB8 := hB7.trans (hb8.mono hB7.size)
      clear r14c2 r14c3
      have ka := BlkT.keep ka hb8
      have kb := BlkT.keep kb hb8
      have r14 := BlkT.keep r14 hb8
      have r15 := BlkT.keep r15 hb8
      have r16 := BlkT.keep r16 hb8
      have hb8' : Below W5.heap.size W5 V8 := hb6.trans ((hb7.mono hb6.size).trans (hb8.mono (hb6.trans (hb7.mono hb6.size)).size))
      go_wp2_with fail
      have HKS : Hid (∀ w', Below V8.heap.size V8 w' → w'.cell? ⟨V4.heap.size + 1, 1, none⟩ = some (.int .i64 0) ∧ w'.cell? ⟨V4.heap.size, 2, none⟩ = some (.string u1) ∧ w'.cell? ⟨V4.heap.size, 3, none⟩ = some (.string y1) ∧ w'.cell? ⟨W4.heap.size, 2, none⟩ = some (.int .i64 (n * c - m * d)) ∧ w'.cell? ⟨W4.heap.size, 3, none⟩ = some (.int .i64 (d * c))) := Lib.hid (fun V hV => (And.intro ((BlkT.keep r15 hV).cell 1) (And.intro ((BlkT.keep r14 hV).cell 2) (And.intro ((BlkT.keep r14 hV).cell 3) (And.intro ((BlkT.keep r16 hV).cell 2) ((BlkT.keep r16 hV).cell 3))))))
      have HKE := Lib.hid (fun V (hV : Below V8.heap.size V8 V) => HE.out.below (hB8.trans (hV.mono hB8.size)))
      go_region_held3 (fun w' => Below V8.heap.size V8 w' ∧ w'.cell? ⟨V4.heap.size + 1, 1, none⟩ = some (.int .i64 0) ∧ w'.cell? ⟨V4.heap.size, 2, none⟩ = some (.string u1) ∧ w'.cell? ⟨V4.heap.size, 3, none⟩ = some (.string y1) ∧ w'.cell? ⟨W4.heap.size, 2, none⟩ = some (.int .i64 (n * c - m * d)) ∧ w'.cell? ⟨W4.heap.size, 3, none⟩ = some (.int .i64 (d * c)))
        (first | exact ⟨(Below.refl _ _).drew, HKS.out _ (Below.refl _ _).drew⟩ | (have hh := (‹Below V8.heap.size V8 _ ∧ _›).1; have hb := hh.trans (hBq.mono hh.size); exact ⟨hb, HKS.out _ hb⟩))
        (first
          | (go_at_call 60; (with_reducible refine (VF1.out _ (HKE.out _ (‹Below V8.heap.size V8 _ ∧ _›).1)).mono ?_); rintro r wq ⟨rfl, hBq⟩))
      all_goals (
        have hh := (‹Below V8.heap.size V8 _ ∧ _›).1
        go_wp2_with fail
        go_roundw
        case rel => exact ⟨.inr (.inr (.inl rfl)), hb8'.trans (hh.mono hb8'.size)⟩
        case measure => simp only [Go.RowKit.intOf]; omega)
    · skip
      have r14c4 := r14.cell 4
      have r14c5 := r14.cell 5
      simp only [List.getElem?_toArray, List.getElem?_cons_succ, List.getElem?_cons_zero] at r14c4 r14c5
      go_wp2_with fail
      refine (TN2.out _).mono ?_
      rintro r V7 ⟨rfl, hb7⟩
      have hB7 := hB6.trans (hb7.mono hB6.size)
      clear r14c4 r14c5
      have ka := BlkT.keep ka hb7
      have kb := BlkT.keep kb hb7
      have r14 := BlkT.keep r14 hb7
      have r15 := BlkT.keep r15 hb7
      have r16 := BlkT.keep r16 hb7
      have r14c4 := r14.cell 4
      have r14c5 := r14.cell 5
      simp only [List.getElem?_toArray, List.getElem?_cons_succ, List.getElem?_cons_zero] at r14c4 r14c5
      go_wp2_with fail
      refine (TD2.out _).mono ?_
      rintro r V8 ⟨rfl, hb8⟩
      have hB8 := hB7.trans (hb8.mono hB7.size)
      clear r14c4 r14c5
      have ka := BlkT.keep ka hb8
      have kb := BlkT.keep kb hb8
      have r14 := BlkT.keep r14 hb8
      have r15 := BlkT.keep r15 hb8
      have r16 := BlkT.keep r16 hb8
      have hb8' : Below W5.heap.size W5 V8 := hb6.trans ((hb7.mono hb6.size).trans (hb8.mono (hb6.trans (hb7.mono hb6.size)).size))
      go_wp2_with fail
      have HKS : Hid (∀ w', Below V8.heap.size V8 w' → w'.cell? ⟨V4.heap.size + 1, 2, none⟩ = some (.int .i64 0) ∧ w'.cell? ⟨V4.heap.size, 4, none⟩ = some (.string u2) ∧ w'.cell? ⟨V4.heap.size, 5, none⟩ = some (.string y2) ∧ w'.cell? ⟨W4.heap.size, 4, none⟩ = some (.int .i64 (n * m)) ∧ w'.cell? ⟨W4.heap.size, 5, none⟩ = some (.int .i64 (d * c))) := Lib.hid (fun V hV => (And.intro ((BlkT.keep r15 hV).cell 2) (And.intro ((BlkT.keep r14 hV).cell 4) (And.intro ((BlkT.keep r14 hV).cell 5) (And.intro ((BlkT.keep r16 hV).cell 4) ((BlkT.keep r16 hV).cell 5))))))
      have HKE := Lib.hid (fun V (hV : Below V8.heap.size V8 V) => HE.out.below (hB8.trans (hV.mono hB8.size)))
      go_region_held3 (fun w' => Below V8.heap.size V8 w' ∧ w'.cell? ⟨V4.heap.size + 1, 2, none⟩ = some (.int .i64 0) ∧ w'.cell? ⟨V4.heap.size, 4, none⟩ = some (.string u2) ∧ w'.cell? ⟨V4.heap.size, 5, none⟩ = some (.string y2) ∧ w'.cell? ⟨W4.heap.size, 4, none⟩ = some (.int .i64 (n * m)) ∧ w'.cell? ⟨W4.heap.size, 5, none⟩ = some (.int .i64 (d * c)))
        (first | exact ⟨(Below.refl _ _).drew, HKS.out _ (Below.refl _ _).drew⟩ | (have hh := (‹Below V8.heap.size V8 _ ∧ _›).1; have hb := hh.trans (hBq.mono hh.size); exact ⟨hb, HKS.out _ hb⟩))
        (first
          | (go_at_call 60; (with_reducible refine (VF2.out _ (HKE.out _ (‹Below V8.heap.size V8 _ ∧ _›).1)).mono ?_); rintro r wq ⟨rfl, hBq⟩))
      all_goals (
        have hh := (‹Below V8.heap.size V8 _ ∧ _›).1
        go_wp2_with fail
        go_roundw
        case rel => exact ⟨.inr (.inr (.inr (.inl rfl))), hb8'.trans (hh.mono hb8'.size)⟩
        case measure => simp only [Go.RowKit.intOf]; omega)
    · skip
      have hm1 : (m == 0) = true := beq_iff_eq.2 HM0.out
      have r15c3 := r15.cell 3
      have r14c6 := r14.cell 6
      have r14c7 := r14.cell 7
      simp only [List.getElem?_toArray, List.getElem?_cons_succ, List.getElem?_cons_zero] at r15c3 r14c6 r14c7
      go_wp2_with fail
      go_roundw
      case rel => exact ⟨.inr (.inr (.inr (.inr rfl))), hb6⟩
      case measure => simp only [Go.RowKit.intOf]; omega
    · skip
      rcases Int.lt_trichotomy (n * c) (m * d) with h | h | h
      · have hcv : cv = -1 := by rw [hcmp]; (repeat' split) <;> omega
        subst hcv
        have t1 : decide (n * c < m * d) = true := decide_eq_true h
        clear h hcmp
        have kac0 := ka.cell 0
        have kac1 := ka.cell 1
        have kbc0 := kb.cell 0
        have kbc1 := kb.cell 1
        simp only [List.getElem?_toArray, List.getElem?_cons_succ, List.getElem?_cons_zero] at kac0 kac1 kbc0 kbc1
        go_wp2_with fail
        refine (CV.out _ (HE.out.below hB6)).mono ?_
        rintro r V7 ⟨rfl, hb7⟩
        have hB7 := hB6.trans (hb7.mono hB6.size)
        clear kac0 kac1 kbc0 kbc1
        have ka := BlkT.keep ka hb7
        have kb := BlkT.keep kb hb7
        have r14 := BlkT.keep r14 hb7
        have r15 := BlkT.keep r15 hb7
        have r16 := BlkT.keep r16 hb7
        go_wp2_with fail
        go_ret
        exact ⟨rfl, hB7⟩
      · have hcv : cv = 0 := by rw [hcmp]; (repeat' split) <;> omega
        subst hcv
        have t1 : decide (n * c < m * d) = false := decide_eq_false (by omega)
        have t2 : decide (m * d < n * c) = false := decide_eq_false (by omega)
        clear h hcmp
        have kac0 := ka.cell 0
        have kac1 := ka.cell 1
        have kbc0 := kb.cell 0
        have kbc1 := kb.cell 1
        simp only [List.getElem?_toArray, List.getElem?_cons_succ, List.getElem?_cons_zero] at kac0 kac1 kbc0 kbc1
        go_wp2_with fail
        refine (CV.out _ (HE.out.below hB6)).mono ?_
        rintro r V7 ⟨rfl, hb7⟩
        have hB7 := hB6.trans (hb7.mono hB6.size)
        clear kac0 kac1 kbc0 kbc1
        have ka := BlkT.keep ka hb7
        have kb := BlkT.keep kb hb7
        have r14 := BlkT.keep r14 hb7
        have r15 := BlkT.keep r15 hb7
        have r16 := BlkT.keep r16 hb7
        go_wp2_with fail
        go_ret
        exact ⟨rfl, hB7⟩
      · have hcv : cv = 1 := by rw [hcmp]; (repeat' split) <;> omega
        subst hcv
        have t1 : decide (n * c < m * d) = false := decide_eq_false (by omega)
        have t2 : decide (m * d < n * c) = true := decide_eq_true h
        clear h hcmp
        have kac0 := ka.cell 0
        have kac1 := ka.cell 1
        have kbc0 := kb.cell 0
        have kbc1 := kb.cell 1
        simp only [List.getElem?_toArray, List.getElem?_cons_succ, List.getElem?_cons_zero] at kac0 kac1 kbc0 kbc1
        go_wp2_with fail
        refine (CV.out _ (HE.out.below hB6)).mono ?_
        rintro r V7 ⟨rfl, hb7⟩
        have hB7 := hB6.trans (hb7.mono hB6.size)
        clear kac0 kac1 kbc0 kbc1
        have ka := BlkT.keep ka hb7
        have kb := BlkT.keep kb hb7
        have r14 := BlkT.keep r14 hb7
        have r15 := BlkT.keep r15 hb7
        have r16 := BlkT.keep r16 hb7
        go_wp2_with fail
        go_ret
        exact ⟨rfl, hB7⟩
set_option maxRecDepth 100000 in
set_option maxHeartbeats 16000000 in
theorem machine_n (x0 x1 x2 x3 p0 p1 p2 p3 n d m c : Int) (w : World) (he : EnvR w) (hM : Mach n d m c) (hm0 : m ≠ 0) (h0 : n = p0 - 30000) (h1 : d = 1 + p1) (h2 : m = p2 - 30000) (h3 : c = 1 + p3)
    (P0 : ∀ V : World, Calls Tryz.prog 28 #[.int .i64 x0, .int .i64 60001] V fun e w' => e = .returned (.int .i64 p0) ∧ V = w')
    (P1 : ∀ V : World, Calls Tryz.prog 28 #[.int .i64 x1, .int .i64 30000] V fun e w' => e = .returned (.int .i64 p1) ∧ V = w')
    (P2 : ∀ V : World, Calls Tryz.prog 28 #[.int .i64 x2, .int .i64 60001] V fun e w' => e = .returned (.int .i64 p2) ∧ V = w')
    (P3 : ∀ V : World, Calls Tryz.prog 28 #[.int .i64 x3, .int .i64 30000] V fun e w' => e = .returned (.int .i64 p3) ∧ V = w') :
    Calls Tryz.prog 18 #[.int .i64 x0, .int .i64 x1, .int .i64 x2, .int .i64 x3] w fun e w' => e = .returned (.bool true) ∧ Below w.heap.size w w' := by
  have HE := Lib.hid he
  clear he
  have Q0 := Lib.hid P0
  have Q1 := Lib.hid P1
  have Q2 := Lib.hid P2
  have Q3 := Lib.hid P3
  clear P0 P1 P2 P3
  have bn := hM.n; have bm := hM.m; have bd := hM.d; have bc := hM.c
  have a0 : IntKind.i64.wrap (p0 - 30000) = n := by rw [IntKind.wrap_i64]; omega
  have a2 : IntKind.i64.wrap (p2 - 30000) = m := by rw [IntKind.wrap_i64]; omega
  have a1 : IntKind.i64.wrap (1 + p1) = d := by rw [IntKind.wrap_i64]; omega
  have a3 : IntKind.i64.wrap (1 + p3) = c := by rw [IntKind.wrap_i64]; omega
  have OA := Lib.hid (fun V (hV : EnvR V) => of_q (n := n) (d := d) (by omega) (by omega) (by omega) (by omega) (by omega) V hV)
  have OB := Lib.hid (fun V (hV : EnvR V) => of_q (n := m) (d := c) (by omega) (by omega) (by omega) (by omega) (by omega) V hV)
  obtain ⟨fa, fb⟩ := hM.fits
  obtain ⟨o0, o1, o2, o3n, o3z⟩ := hM.oks
  have FO := Lib.hid (fun V (hV : EnvR V) => by have q := four_Q fa fb V hV; rw [o0, o1, o2, o3n hm0] at q; dsimp only [nQ, dQ, qE] at q; exact q)
  obtain ⟨v0, v1, v2, v3⟩ := hM.vals
  obtain ⟨b0, b1, b2, b3, b4, b5, b6⟩ := hM.bounds
  obtain ⟨c0, c1, c2, c3, c4, c5⟩ := hM.size
  have CV := Lib.hid (fun V (hV : EnvR V) => by have q := cmp_q fa fb V hV; rw [hM.cmp] at q; exact q)
  obtain ⟨⟨T0, tx0, ty0⟩, td0⟩ := mach v0 b0 b1 c0 c2
  have TN0 := Lib.hid (fun V => toInt10_S (show (N3.addF (N3.mk n d) (N3.mk m c)).1.natAbs < 9223372036854775808 by have := b0; omega) V)
  have TD0 := Lib.hid (fun V => toInt10_S (show (N3.addF (N3.mk n d) (N3.mk m c)).2.natAbs < 9223372036854775808 by have := b1; omega) V)
  have VF0 := Lib.hid (fun V (hV : EnvR V) => valid_q (show Fit (N3.addF (N3.mk n d) (N3.mk m c)) from fit_small v0 b0 b1) V hV)
  obtain ⟨⟨T1, tx1, ty1⟩, td1⟩ := mach v1 b2 b3 c1 c2
  have TN1 := Lib.hid (fun V => toInt10_S (show (N3.subF (N3.mk n d) (N3.mk m c)).1.natAbs < 9223372036854775808 by have := b2; omega) V)
  have TD1 := Lib.hid (fun V => toInt10_S (show (N3.subF (N3.mk n d) (N3.mk m c)).2.natAbs < 9223372036854775808 by have := b3; omega) V)
  have VF1 := Lib.hid (fun V (hV : EnvR V) => valid_q (show Fit (N3.subF (N3.mk n d) (N3.mk m c)) from fit_small v1 b2 b3) V hV)
  obtain ⟨⟨T2, tx2, ty2⟩, td2⟩ := mach v2 b4 b5 c3 c2
  have TN2 := Lib.hid (fun V => toInt10_S (show (N3.mulF (N3.mk n d) (N3.mk m c)).1.natAbs < 9223372036854775808 by have := b4; omega) V)
  have TD2 := Lib.hid (fun V => toInt10_S (show (N3.mulF (N3.mk n d) (N3.mk m c)).2.natAbs < 9223372036854775808 by have := b5; omega) V)
  have VF2 := Lib.hid (fun V (hV : EnvR V) => valid_q (show Fit (N3.mulF (N3.mk n d) (N3.mk m c)) from fit_small v2 b4 b5) V hV)
  obtain ⟨⟨T3, tx3, ty3⟩, td3⟩ := mach (v3 hm0) (b6 hm0).1 (b6 hm0).2 c5 c4
  have TN3 := Lib.hid (fun V => toInt10_S (show (N3.divF (N3.mk n d) (N3.mk m c)).1.natAbs < 9223372036854775808 by have := (b6 hm0).1; omega) V)
  have TD3 := Lib.hid (fun V => toInt10_S (show (N3.divF (N3.mk n d) (N3.mk m c)).2.natAbs < 9223372036854775808 by have := (b6 hm0).2; omega) V)
  have VF3 := Lib.hid (fun V (hV : EnvR V) => valid_q (show Fit (N3.divF (N3.mk n d) (N3.mk m c)) from fit_small (v3 hm0) (b6 hm0).1 (b6 hm0).2) V hV)
  obtain ⟨g0, g1, g2, g3, g4, g5, g6⟩ := hM.wraps
  have hcb := N3.cmpI_bd (n * c) (m * d)
  have hcmp : N3.cmpI (n * c) (m * d) = if n * c < m * d then -1 else if m * d < n * c then 1 else 0 := rfl
  clear c0 c1 c2 c3 c4 c5 b0 b1 b2 b3 b4 b5 b6 v0 v1 v2 v3 o0 o1 o2 o3n o3z fa fb bn bm bd bc hM h0 h1 h2 h3
  generalize N3.S (N3.addF (N3.mk n d) (N3.mk m c)).1 = u0 at *
  generalize N3.S (N3.addF (N3.mk n d) (N3.mk m c)).2 = y0 at *
  generalize (N3.addF (N3.mk n d) (N3.mk m c)).1 = i0 at *
  generalize (N3.addF (N3.mk n d) (N3.mk m c)).2 = j0 at *
  generalize N3.S (N3.subF (N3.mk n d) (N3.mk m c)).1 = u1 at *
  generalize N3.S (N3.subF (N3.mk n d) (N3.mk m c)).2 = y1 at *
  generalize (N3.subF (N3.mk n d) (N3.mk m c)).1 = i1 at *
  generalize (N3.subF (N3.mk n d) (N3.mk m c)).2 = j1 at *
  generalize N3.S (N3.mulF (N3.mk n d) (N3.mk m c)).1 = u2 at *
  generalize N3.S (N3.mulF (N3.mk n d) (N3.mk m c)).2 = y2 at *
  generalize (N3.mulF (N3.mk n d) (N3.mk m c)).1 = i2 at *
  generalize (N3.mulF (N3.mk n d) (N3.mk m c)).2 = j2 at *
  generalize N3.S (N3.divF (N3.mk n d) (N3.mk m c)).1 = u3 at *
  generalize N3.S (N3.divF (N3.mk n d) (N3.mk m c)).2 = y3 at *
  generalize (N3.divF (N3.mk n d) (N3.mk m c)).1 = i3 at *
  generalize (N3.divF (N3.mk n d) (N3.mk m c)).2 = j3 at *
  generalize N3.S (N3.mk n d).1 = an at *
  generalize N3.S (N3.mk n d).2 = ad at *
  generalize N3.S (N3.mk m c).1 = bn at *
  generalize N3.S (N3.mk m c).2 = bd at *
  generalize N3.cmpI (n * c) (m * d) = cv at *
  have HM0 := Lib.hid hm0
  clear hm0
  go_enter Tryz.func18, Tryz.ntmps18
  go_wp2_with fail
  refine (sane04 _ HE.out).mono ?_
  rintro r V1 ⟨rfl, hb1⟩
  have hB1 := hb1
  go_wp2_with fail
  refine (Q0.out _).mono ?_
  rintro r V ⟨rfl, rfl⟩
  go_wp2_with fail
  refine (Q2.out _).mono ?_
  rintro r V ⟨rfl, rfl⟩
  go_wp2_with fail
  refine (Q1.out _).mono ?_
  rintro r V ⟨rfl, rfl⟩
  go_wp2_with fail
  refine (Q3.out _).mono ?_
  rintro r V ⟨rfl, rfl⟩
  go_wp2_with fail
  refine (OA.out _ (HE.out.below hB1)).mono ?_
  rintro r V2 ⟨rfl, hb2⟩
  have hB2 := hB1.trans (hb2.mono hB1.size)
  go_upto_region 7 with (fail)
  generalize hW2 : World.alloc V2 _ = W2
  have hw2 : Below V2.heap.size V2 W2 := hW2 ▸ (Below.refl _ _).alloc (Nat.le_refl _) _
  have hBw2 := hB2.trans (hw2.mono hB2.size)
  have ka : BlkT W2 V2.heap.size #[(.string an), (.string ad)] 26 := hW2 ▸ BlkT.newAt _ _ _ rfl
  clear hW2
  go_wp2_with fail
  refine (OB.out _ (HE.out.below hBw2)).mono ?_
  rintro r V3 ⟨rfl, hb3⟩
  have hB3 := hBw2.trans (hb3.mono hBw2.size)
  have ka := BlkT.keep ka hb3
  go_upto_region 8 with (fail)
  have lkakb := Lib.hid ka.lt
  generalize hW3 : World.alloc V3 _ = W3
  have hw3 : Below V3.heap.size V3 W3 := hW3 ▸ (Below.refl _ _).alloc (Nat.le_refl _) _
  have hBw3 := hB3.trans (hw3.mono hB3.size)
  have ka := BlkT.keep ka hw3
  have kb : BlkT W3 V3.heap.size #[(.string bn), (.string bd)] 26 := hW3 ▸ BlkT.newAt _ _ _ rfl
  clear hW3
  have kac0 := ka.cell 0
  have kac1 := ka.cell 1
  have kbc0 := kb.cell 0
  have kbc1 := kb.cell 1
  simp only [List.getElem?_toArray, List.getElem?_cons_succ, List.getElem?_cons_zero] at kac0 kac1 kbc0 kbc1
  go_wp2_with fail
  refine (FO.out _ (HE.out.below hBw3)).mono ?_
  rintro r V4 ⟨rfl, hb4⟩
  have hB4 := hBw3.trans (hb4.mono hBw3.size)
  clear kac0 kac1 kbc0 kbc1
  have ka := BlkT.keep ka hb4
  have kb := BlkT.keep kb hb4
  go_upto_region 9 with (fail)
  generalize hW4 : World.alloc (World.alloc V4 _) _ = W4
  have hw4 : Below V4.heap.size V4 W4 := hW4 ▸ ((Below.refl _ _).alloc (Nat.le_refl _) _).alloc (by simp) _
  have hBw4 := hB4.trans (hw4.mono hB4.size)
  have ka := BlkT.keep ka hw4
  have kb := BlkT.keep kb hw4
  have r14 : BlkT W4 (V4.heap.size) #[(.string u0), (.string y0), (.string u1), (.string y1), (.string u2), (.string y2), (.string u3), (.string y3)] 68 := hW4 ▸ (BlkT.newAt _ _ _ rfl).alloc _
  have r15 : BlkT W4 (V4.heap.size + 1) #[(.int .i64 0), (.int .i64 0), (.int .i64 0), (.int .i64 0)] 69 := hW4 ▸ BlkT.newAt _ _ _ (by simp)
  clear hW4
  go_upto_region 10 with (fail)
  generalize hW5 : World.alloc W4 _ = W5
  have hw5 : Below W4.heap.size W4 W5 := hW5 ▸ (Below.refl _ _).alloc (Nat.le_refl _) _
  have hBw5 := hBw4.trans (hw5.mono hBw4.size)
  have ka := BlkT.keep ka hw5
  have kb := BlkT.keep kb hw5
  have r14 := BlkT.keep r14 hw5
  have r15 := BlkT.keep r15 hw5
  have r16 : BlkT W5 W4.heap.size #[(.int .i64 (n * c + m * d)), (.int .i64 (d * c)), (.int .i64 (n * c - m * d)), (.int .i64 (d * c)), (.int .i64 (n * m)), (.int .i64 (d * c)), (.int .i64 (n * c)), (.int .i64 (d * m))] 75 := hW5 ▸ BlkT.newAt _ _ _ rfl
  clear hW5
  have K14 := Lib.hid r14; have K15 := Lib.hid r15; have K16 := Lib.hid r16; have KA := Lib.hid ka; have KB := Lib.hid kb
  clear r14 r15 r16 ka kb
  go_wp2_with fail
  go_loopw [17, 18, 19, 20, 21] (fun u17 u18 u19 u20 u21 wr => (u17 = .int .i64 0 ∨ u17 = .int .i64 1 ∨ u17 = .int .i64 2 ∨ u17 = .int .i64 3 ∨ u17 = .int .i64 4) ∧ Below W5.heap.size W5 wr) (fun u17 _ _ _ _ _ => (4 - Go.RowKit.intOf u17).toNat)
  case atStart => exact ⟨.inl rfl, Below.refl _ _⟩
  case round =>
    rename World => V6
    obtain ⟨hu, hb6⟩ := hrel
    have hB6 := hBw5.trans (hb6.mono hBw5.size)
    have r14 := BlkT.keep K14.out hb6
    have r15 := BlkT.keep K15.out hb6
    have r16 := BlkT.keep K16.out hb6
    have ka := BlkT.keep KA.out hb6
    have kb := BlkT.keep KB.out hb6
    clear K14 K15 K16 KA KB
    rcases hu with rfl | rfl | rfl | rfl | rfl
    · skip
      have r14c0 := r14.cell 0
      have r14c1 := r14.cell 1
      simp only [List.getElem?_toArray, List.getElem?_cons_succ, List.getElem?_cons_zero] at r14c0 r14c1
      go_wp2_with fail
      refine (TN0.out _).mono ?_
      rintro r V7 ⟨rfl, hb7⟩
      have hB7 := hB6.trans (hb7.mono hB6.size)
      clear r14c0 r14c1
      have ka := BlkT.keep ka hb7
      have kb := BlkT.keep kb hb7
      have r14 := BlkT.keep r14 hb7
      have r15 := BlkT.keep r15 hb7
      have r16 := BlkT.keep r16 hb7
      have r14c0 := r14.cell 0
      have r14c1 := r14.cell 1
      simp only [List.getElem?_toArray, List.getElem?_cons_succ, List.getElem?_cons_zero] at r14c0 r14c1
      go_wp2_with fail
      refine (TD0.out _).mono ?_
      rintro r V8 ⟨rfl, hb8⟩
      have hB8 := hB7.trans (hb8.mono hB7.size)
      clear r14c0 r14c1
      have ka := BlkT.keep ka hb8
      have kb := BlkT.keep kb hb8
      have r14 := BlkT.keep r14 hb8
      have r15 := BlkT.keep r15 hb8
      have r16 := BlkT.keep r16 hb8
      have hb8' : Below W5.heap.size W5 V8 := hb6.trans ((hb7.mono hb6.size).trans (hb8.mono (hb6.trans (hb7.mono hb6.size)).size))
      go_wp2_with fail
      have HKS : Hid (∀ w', Below V8.heap.size V8 w' → w'.cell? ⟨V4.heap.size + 1, 0, none⟩ = some (.int .i64 0) ∧ w'.cell? ⟨V4.heap.size, 0, none⟩ = some (.string u0) ∧ w'.cell? ⟨V4.heap.size, 1, none⟩ = some (.string y0) ∧ w'.cell? ⟨W4.heap.size, 0, none⟩ = some (.int .i64 (n * c + m * d)) ∧ w'.cell? ⟨W4.heap.size, 1, none⟩ = some (.int .i64 (d * c))) := Lib.hid (fun V hV => (And.intro ((BlkT.keep r15 hV).cell 0) (And.intro ((BlkT.keep r14 hV).cell 0) (And.intro ((BlkT.keep r14 hV).cell 1) (And.intro ((BlkT.keep r16 hV).cell 0) ((BlkT.keep r16 hV).cell 1))))))
      have HKE := Lib.hid (fun V (hV : Below V8.heap.size V8 V) => HE.out.below (hB8.trans (hV.mono hB8.size)))
      go_region_held3 (fun w' => Below V8.heap.size V8 w' ∧ w'.cell? ⟨V4.heap.size + 1, 0, none⟩ = some (.int .i64 0) ∧ w'.cell? ⟨V4.heap.size, 0, none⟩ = some (.string u0) ∧ w'.cell? ⟨V4.heap.size, 1, none⟩ = some (.string y0) ∧ w'.cell? ⟨W4.heap.size, 0, none⟩ = some (.int .i64 (n * c + m * d)) ∧ w'.cell? ⟨W4.heap.size, 1, none⟩ = some (.int .i64 (d * c)))
        (first | exact ⟨(Below.refl _ _).drew, HKS.out _ (Below.refl _ _).drew⟩ | (have hh := (‹Below V8.heap.size V8 _ ∧ _›).1; have hb := hh.trans (hBq.mono hh.size); exact ⟨hb, HKS.out _ hb⟩))
        (first
          | (go_at_call 60; (with_reducible refine (VF0.out _ (HKE.out _ (‹Below V8.heap.size V8 _ ∧ _›).1)).mono ?_); rintro r wq ⟨rfl, hBq⟩))
      all_goals (
        have hh := (‹Below V8.heap.size V8 _ ∧ _›).1
        go_wp2_with fail
        go_roundw
        case rel => exact ⟨.inr (.inl rfl), hb8'.trans (hh.mono hb8'.size)⟩
        case measure => simp only [Go.RowKit.intOf]; omega)
    · skip
      have r14c2 := r14.cell 2
      have r14c3 := r14.cell 3
      simp only [List.getElem?_toArray, List.getElem?_cons_succ, List.getElem?_cons_zero] at r14c2 r14c3
      go_wp2_with fail
      refine (TN1.out _).mono ?_
      rintro r V7 ⟨rfl, hb7⟩
      have hB7 := hB6.trans (hb7.mono hB6.size)
      clear r14c2 r14c3
      have ka := BlkT.keep ka hb7
      have kb := BlkT.keep kb hb7
      have r14 := BlkT.keep r14 hb7
      have r15 := BlkT.keep r15 hb7
      have r16 := BlkT.keep r16 hb7
      have r14c2 := r14.cell 2
      have r14c3 := r14.cell 3
      simp only [List.getElem?_toArray, List.getElem?_cons_succ, List.getElem?_cons_zero] at r14c2 r14c3
      go_wp2_with fail
      refine (TD1.out _).mono ?_
      rintro r V8 ⟨rfl, hb8⟩
      have hB8 := hB7.trans (hb8.mono hB7.size)
      clear r14c2 r14c3
      have ka := BlkT.keep ka hb8
      have kb := BlkT.keep kb hb8
      have r14 := BlkT.keep r14 hb8
      have r15 := BlkT.keep r15 hb8
      have r16 := BlkT.keep r16 hb8
      have hb8' : Below W5.heap.size W5 V8 := hb6.trans ((hb7.mono hb6.size).trans (hb8.mono (hb6.trans (hb7.mono hb6.size)).size))
      go_wp2_with fail
      have HKS : Hid (∀ w', Below V8.heap.size V8 w' → w'.cell? ⟨V4.heap.size + 1, 1, none⟩ = some (.int .i64 0) ∧ w'.cell? ⟨V4.heap.size, 2, none⟩ = some (.string u1) ∧ w'.cell? ⟨V4.heap.size, 3, none⟩ = some (.string y1) ∧ w'.cell? ⟨W4.heap.size, 2, none⟩ = some (.int .i64 (n * c - m * d)) ∧ w'.cell? ⟨W4.heap.size, 3, none⟩ = some (.int .i64 (d * c))) := Lib.hid (fun V hV => (And.intro ((BlkT.keep r15 hV).cell 1) (And.intro ((BlkT.keep r14 hV).cell 2) (And.intro ((BlkT.keep r14 hV).cell 3) (And.intro ((BlkT.keep r16 hV).cell 2) ((BlkT.keep r16 hV).cell 3))))))
      have HKE := Lib.hid (fun V (hV : Below V8.heap.size V8 V) => HE.out.below (hB8.trans (hV.mono hB8.size)))
      go_region_held3 (fun w' => Below V8.heap.size V8 w' ∧ w'.cell? ⟨V4.heap.size + 1, 1, none⟩ = some (.int .i64 0) ∧ w'.cell? ⟨V4.heap.size, 2, none⟩ = some (.string u1) ∧ w'.cell? ⟨V4.heap.size, 3, none⟩ = some (.string y1) ∧ w'.cell? ⟨W4.heap.size, 2, none⟩ = some (.int .i64 (n * c - m * d)) ∧ w'.cell? ⟨W4.heap.size, 3, none⟩ = some (.int .i64 (d * c)))
        (first | exact ⟨(Below.refl _ _).drew, HKS.out _ (Below.refl _ _).drew⟩ | (have hh := (‹Below V8.heap.size V8 _ ∧ _›).1; have hb := hh.trans (hBq.mono hh.size); exact ⟨hb, HKS.out _ hb⟩))
        (first
          | (go_at_call 60; (with_reducible refine (VF1.out _ (HKE.out _ (‹Below V8.heap.size V8 _ ∧ _›).1)).mono ?_); rintro r wq ⟨rfl, hBq⟩))
      all_goals (
        have hh := (‹Below V8.heap.size V8 _ ∧ _›).1
        go_wp2_with fail
        go_roundw
        case rel => exact ⟨.inr (.inr (.inl rfl)), hb8'.trans (hh.mono hb8'.size)⟩
        case measure => simp only [Go.RowKit.intOf]; omega)
    · skip
      have r14c4 := r14.cell 4
      have r14c5 := r14.cell 5
      simp only [List.getElem?_toArray, List.getElem?_cons_succ, List.getElem?_cons_zero] at r14c4 r14c5
      go_wp2_with fail
      refine (TN2.out _).mono ?_
      rintro r V7 ⟨rfl, hb7⟩
      have hB7 := hB6.trans (hb7.mono hB6.size)
      clear r14c4 r14c5
      have ka := BlkT.keep ka hb7
      have kb := BlkT.keep kb hb7
      have r14 := BlkT.keep r14 hb7
      have r15 := BlkT.keep r15 hb7
      have r16 := BlkT.keep r16 hb7
      have r14c4 := r14.cell 4
      have r14c5 := r14.cell 5
      simp only [List.getElem?_toArray, List.getElem?_cons_succ, List.getElem?_cons_zero] at r14c4 r14c5
      go_wp2_with fail
      refine (TD2.out _).mono ?_
      rintro r V8 ⟨rfl, hb8⟩
      have hB8 := hB7.trans (hb8.mono hB7.size)
      clear r14c4 r14c5
      have ka := BlkT.keep ka hb8
      have kb := BlkT.keep kb hb8
      have r14 := BlkT.keep r14 hb8
      have r15 := BlkT.keep r15 hb8
      have r16 := BlkT.keep r16 hb8
      have hb8' : Below W5.heap.size W5 V8 := hb6.trans ((hb7.mono hb6.size).trans (hb8.mono (hb6.trans (hb7.mono hb6.size)).size))
      go_wp2_with fail
      have HKS : Hid (∀ w', Below V8.heap.size V8 w' → w'.cell? ⟨V4.heap.size + 1, 2, none⟩ = some (.int .i64 0) ∧ w'.cell? ⟨V4.heap.size, 4, none⟩ = some (.string u2) ∧ w'.cell? ⟨V4.heap.size, 5, none⟩ = some (.string y2) ∧ w'.cell? ⟨W4.heap.size, 4, none⟩ = some (.int .i64 (n * m)) ∧ w'.cell? ⟨W4.heap.size, 5, none⟩ = some (.int .i64 (d * c))) := Lib.hid (fun V hV => (And.intro ((BlkT.keep r15 hV).cell 2) (And.intro ((BlkT.keep r14 hV).cell 4) (And.intro ((BlkT.keep r14 hV).cell 5) (And.intro ((BlkT.keep r16 hV).cell 4) ((BlkT.keep r16 hV).cell 5))))))
      have HKE := Lib.hid (fun V (hV : Below V8.heap.size V8 V) => HE.out.below (hB8.trans (hV.mono hB8.size)))
      go_region_held3 (fun w' => Below V8.heap.size V8 w' ∧ w'.cell? ⟨V4.heap.size + 1, 2, none⟩ = some (.int .i64 0) ∧ w'.cell? ⟨V4.heap.size, 4, none⟩ = some (.string u2) ∧ w'.cell? ⟨V4.heap.size, 5, none⟩ = some (.string y2) ∧ w'.cell? ⟨W4.heap.size, 4, none⟩ = some (.int .i64 (n * m)) ∧ w'.cell? ⟨W4.heap.size, 5, none⟩ = some (.int .i64 (d * c)))
        (first | exact ⟨(Below.refl _ _).drew, HKS.out _ (Below.refl _ _).drew⟩ | (have hh := (‹Below V8.heap.size V8 _ ∧ _›).1; have hb := hh.trans (hBq.mono hh.size); exact ⟨hb, HKS.out _ hb⟩))
        (first
          | (go_at_call 60; (with_reducible refine (VF2.out _ (HKE.out _ (‹Below V8.heap.size V8 _ ∧ _›).1)).mono ?_); rintro r wq ⟨rfl, hBq⟩))
      all_goals (
        have hh := (‹Below V8.heap.size V8 _ ∧ _›).1
        go_wp2_with fail
        go_roundw
        case rel => exact ⟨.inr (.inr (.inr (.inl rfl))), hb8'.trans (hh.mono hb8'.size)⟩
        case measure => simp only [Go.RowKit.intOf]; omega)
    · skip
      have hm1 : (m == 0) = false := beq_eq_false_iff_ne.2 HM0.out
      have r14c6 := r14.cell 6
      have r14c7 := r14.cell 7
      simp only [List.getElem?_toArray, List.getElem?_cons_succ, List.getElem?_cons_zero] at r14c6 r14c7
      go_wp2_with fail
      refine (TN3.out _).mono ?_
      rintro r V7 ⟨rfl, hb7⟩
      have hB7 := hB6.trans (hb7.mono hB6.size)
      clear r14c6 r14c7
      have ka := BlkT.keep ka hb7
      have kb := BlkT.keep kb hb7
      have r14 := BlkT.keep r14 hb7
      have r15 := BlkT.keep r15 hb7
      have r16 := BlkT.keep r16 hb7
      have r14c6 := r14.cell 6
      have r14c7 := r14.cell 7
      simp only [List.getElem?_toArray, List.getElem?_cons_succ, List.getElem?_cons_zero] at r14c6 r14c7
      go_wp2_with fail
      refine (TD3.out _).mono ?_
      rintro r V8 ⟨rfl, hb8⟩
      have hB8 := hB7.trans (hb8.mono hB7.size)
      clear r14c6 r14c7
      have ka := BlkT.keep ka hb8
      have kb := BlkT.keep kb hb8
      have r14 := BlkT.keep r14 hb8
      have r15 := BlkT.keep r15 hb8
      have r16 := BlkT.keep r16 hb8
      have hb8' : Below W5.heap.size W5 V8 := hb6.trans ((hb7.mono hb6.size).trans (hb8.mono (hb6.trans (hb7.mono hb6.size)).size))
      go_wp2_with fail
      have HKS : Hid (∀ w', Below V8.heap.size V8 w' → w'.cell? ⟨V4.heap.size + 1, 3, none⟩ = some (.int .i64 0) ∧ w'.cell? ⟨V4.heap.size, 6, none⟩ = some (.string u3) ∧ w'.cell? ⟨V4.heap.size, 7, none⟩ = some (.string y3) ∧ w'.cell? ⟨W4.heap.size, 6, none⟩ = some (.int .i64 (n * c)) ∧ w'.cell? ⟨W4.heap.size, 7, none⟩ = some (.int .i64 (d * m))) := Lib.hid (fun V hV => (And.intro ((BlkT.keep r15 hV).cell 3) (And.intro ((BlkT.keep r14 hV).cell 6) (And.intro ((BlkT.keep r14 hV).cell 7) (And.intro ((BlkT.keep r16 hV).cell 6) ((BlkT.keep r16 hV).cell 7))))))
      have HKE := Lib.hid (fun V (hV : Below V8.heap.size V8 V) => HE.out.below (hB8.trans (hV.mono hB8.size)))
      go_region_held3 (fun w' => Below V8.heap.size V8 w' ∧ w'.cell? ⟨V4.heap.size + 1, 3, none⟩ = some (.int .i64 0) ∧ w'.cell? ⟨V4.heap.size, 6, none⟩ = some (.string u3) ∧ w'.cell? ⟨V4.heap.size, 7, none⟩ = some (.string y3) ∧ w'.cell? ⟨W4.heap.size, 6, none⟩ = some (.int .i64 (n * c)) ∧ w'.cell? ⟨W4.heap.size, 7, none⟩ = some (.int .i64 (d * m)))
        (first | exact ⟨(Below.refl _ _).drew, HKS.out _ (Below.refl _ _).drew⟩ | (have hh := (‹Below V8.heap.size V8 _ ∧ _›).1; have hb := hh.trans (hBq.mono hh.size); exact ⟨hb, HKS.out _ hb⟩))
        (first
          | (go_at_call 60; (with_reducible refine (VF3.out _ (HKE.out _ (‹Below V8.heap.size V8 _ ∧ _›).1)).mono ?_); rintro r wq ⟨rfl, hBq⟩))
      all_goals (
        have hh := (‹Below V8.heap.size V8 _ ∧ _›).1
        go_wp2_with fail
        go_roundw
        case rel => exact ⟨.inr (.inr (.inr (.inr (rfl)))), hb8'.trans (hh.mono hb8'.size)⟩
        case measure => simp only [Go.RowKit.intOf]; omega)
    · skip
      rcases Int.lt_trichotomy (n * c) (m * d) with h | h | h
      · have hcv : cv = -1 := by rw [hcmp]; (repeat' split) <;> omega
        subst hcv
        have t1 : decide (n * c < m * d) = true := decide_eq_true h
        clear h hcmp
        have kac0 := ka.cell 0
        have kac1 := ka.cell 1
        have kbc0 := kb.cell 0
        have kbc1 := kb.cell 1
        simp only [List.getElem?_toArray, List.getElem?_cons_succ, List.getElem?_cons_zero] at kac0 kac1 kbc0 kbc1
        go_wp2_with fail
        refine (CV.out _ (HE.out.below hB6)).mono ?_
        rintro r V7 ⟨rfl, hb7⟩
        have hB7 := hB6.trans (hb7.mono hB6.size)
        clear kac0 kac1 kbc0 kbc1
        have ka := BlkT.keep ka hb7
        have kb := BlkT.keep kb hb7
        have r14 := BlkT.keep r14 hb7
        have r15 := BlkT.keep r15 hb7
        have r16 := BlkT.keep r16 hb7
        go_wp2_with fail
        go_ret
        exact ⟨rfl, hB7⟩
      · have hcv : cv = 0 := by rw [hcmp]; (repeat' split) <;> omega
        subst hcv
        have t1 : decide (n * c < m * d) = false := decide_eq_false (by omega)
        have t2 : decide (m * d < n * c) = false := decide_eq_false (by omega)
        clear h hcmp
        have kac0 := ka.cell 0
        have kac1 := ka.cell 1
        have kbc0 := kb.cell 0
        have kbc1 := kb.cell 1
        simp only [List.getElem?_toArray, List.getElem?_cons_succ, List.getElem?_cons_zero] at kac0 kac1 kbc0 kbc1
        go_wp2_with fail
        refine (CV.out _ (HE.out.below hB6)).mono ?_
        rintro r V7 ⟨rfl, hb7⟩
        have hB7 := hB6.trans (hb7.mono hB6.size)
        clear kac0 kac1 kbc0 kbc1
        have ka := BlkT.keep ka hb7
        have kb := BlkT.keep kb hb7
        have r14 := BlkT.keep r14 hb7
        have r15 := BlkT.keep r15 hb7
        have r16 := BlkT.keep r16 hb7
        go_wp2_with fail
        go_ret
        exact ⟨rfl, hB7⟩
      · have hcv : cv = 1 := by rw [hcmp]; (repeat' split) <;> omega
        subst hcv
        have t1 : decide (n * c < m * d) = false := decide_eq_false (by omega)
        have t2 : decide (m * d < n * c) = true := decide_eq_true h
        clear h hcmp
        have kac0 := ka.cell 0
        have kac1 := ka.cell 1
        have kbc0 := kb.cell 0
        have kbc1 := kb.cell 1
        simp only [List.getElem?_toArray, List.getElem?_cons_succ, List.getElem?_cons_zero] at kac0 kac1 kbc0 kbc1
        go_wp2_with fail
        refine (CV.out _ (HE.out.below hB6)).mono ?_
        rintro r V7 ⟨rfl, hb7⟩
        have hB7 := hB6.trans (hb7.mono hB6.size)
        clear kac0 kac1 kbc0 kbc1
        have ka := BlkT.keep ka hb7
        have kb := BlkT.keep kb hb7
        have r14 := BlkT.keep r14 hb7
        have r15 := BlkT.keep r15 hb7
        have r16 := BlkT.keep r16 hb7
        go_wp2_with fail
        go_ret
        exact ⟨rfl, hB7⟩
theorem law_machine4 (x0 x1 x2 x3 : Int) (w : World) (he : EnvR w) (m0 : -9223372036854775808 ≤ x0 ∧ x0 ≤ 9223372036854775807) (m1 : -9223372036854775808 ≤ x1 ∧ x1 ≤ 9223372036854775807) (m2 : -9223372036854775808 ≤ x2 ∧ x2 ≤ 9223372036854775807) (m3 : -9223372036854775808 ≤ x3 ∧ x3 ≤ 9223372036854775807) :
    Calls Tryz.prog 18 #[.int .i64 x0, .int .i64 x1, .int .i64 x2, .int .i64 x3] w fun e w' => e = .returned (.bool true) ∧ Below w.heap.size w w' := by
  have P0 := fun V : World => pick28 x0 60001 V m0.1 m0.2 (by decide) (by decide)
  have P1 := fun V : World => pick28 x1 30000 V m1.1 m1.2 (by decide) (by decide)
  have P2 := fun V : World => pick28 x2 60001 V m2.1 m2.2 (by decide) (by decide)
  have P3 := fun V : World => pick28 x3 30000 V m3.1 m3.2 (by decide) (by decide)
  have b0 := pickN_bd x0 (show (0 : Int) < 60001 by decide)
  have b1 := pickN_bd x1 (show (0 : Int) < 30000 by decide)
  have b2 := pickN_bd x2 (show (0 : Int) < 60001 by decide)
  have b3 := pickN_bd x3 (show (0 : Int) < 30000 by decide)
  generalize pickN x0 60001 = p0 at *
  generalize pickN x1 30000 = p1 at *
  generalize pickN x2 60001 = p2 at *
  generalize pickN x3 30000 = p3 at *
  have hM : Mach (p0 - 30000) (1 + p1) (p2 - 30000) (1 + p3) := ⟨by omega, by omega, by omega, by omega⟩
  by_cases hm : p2 - 30000 = 0
  · exact machine_z x0 x1 x2 x3 p0 p1 p2 p3 _ _ _ _ w he hM hm rfl rfl rfl rfl P0 P1 P2 P3
  · exact machine_n x0 x1 x2 x3 p0 p1 p2 p3 _ _ _ _ w he hM hm rfl rfl rfl rfl P0 P1 P2 P3
end Go.Proofs.YtjnpenljgfdaiaaGreatDoor

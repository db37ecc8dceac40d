/- nadirlaw18.LossMatchesReference, no passes. -/
import Derived.Test.YtmajkagmcdlncaaN3
namespace Go.Proofs.Ytmajkagmcdlncaa
open Go.RowKit Go.Shelf
open L18 (Pass Slot noPass noSlot validB passesG optV pickV X3 ownV mostV sentV allowB limB)

set_option maxRecDepth 100000 in
set_option maxHeartbeats 8000000 in
theorem matches_nil (vx vy vo vl : Value) (x : List X3) (y : List Int) (od0 : OptD) (sp : Pass) (wh st kk : Int) (lo : List Int) (w : World) (hx : XsAt w vx x) (hy : IntsAt w vy y) (ho : OptV w vo od0) (hlo : IntsAt w vl lo) (hxr : ∀ a ∈ x, XR a) (hyr : ∀ a ∈ y, InR a) (_hwh : InR wh) (hst : InR st) (hkk : InR kk) (hnil : passesG x = []) :
    Calls Try.prog 3 #[vx, vy, vo, passVal sp, .int .i64 wh, vl, .int .i64 st, .int .i64 kk] w fun e w' => e = .returned (.bool true) ∧ Below w.heap.size w w' := by
  obtain ⟨vs0, rfl, hs⟩ := ho
  obtain ⟨⟨i0, i1, i2, i3, i4, i5, i6, i7⟩, so⟩ := od0
  unfold passVal
  dsimp only at hs ⊢
  obtain ⟨sa, sc, rfl, hsle, hscm⟩ := hs.len
  obtain ⟨la, lc, rfl, hlle, hlcm⟩ := SliceOf.len hlo
  have HX := Lib.hid hx
  have HY := Lib.hid hy
  have HXR := Lib.hid hxr
  have HYR := Lib.hid hyr
  have HSL := Lib.hid hs
  have HLO := Lib.hid hlo
  have hp13 := fun V0 => pick13 kk 5 V0 hkk (by decide) (by decide)
  obtain ⟨kp, hkp⟩ : ∃ kp, pickV kk 5 = kp := ⟨_, rfl⟩
  rw [hkp] at hp13
  have HP13 := Lib.hid hp13
  have hs13 := fun V0 => pick13 st 4096 V0 hst (by decide) (by decide)
  obtain ⟨s, hse⟩ : ∃ s, pickV st 4096 = s := ⟨_, rfl⟩
  have hsb := L18.pickV_bd st (n := 4096) (by decide)
  rw [hse] at hs13 hsb
  have HS13 := Lib.hid hs13
  clear hx hy hxr hyr hs hlo hp13 hkp hkk hs13 hse hst
  go_enter Try.func3, Try.ntmps3
  go_wp2_with fail
  have hb0 := ((Below.refl w.heap.size w).alloc (Nat.le_refl _) (.cells #[.int .i64 i0, .int .i64 i1, .int .i64 i2, .int .i64 i3, .int .i64 i4, .int .i64 i5, .int .i64 i6, .int .i64 i7, .slice sa so.length sc] 28)).alloc (by simp) (.cells #[.int .i64 sp.sat, .int .i64 sp.stn, .int .i64 sp.sf, .int .i64 sp.su, .int .i64 sp.cf, .int .i64 sp.cu] 30)
  have kB := (Blk.new w #[.int .i64 i0, .int .i64 i1, .int .i64 i2, .int .i64 i3, .int .i64 i4, .int .i64 i5, .int .i64 i6, .int .i64 i7, .slice sa so.length sc] 28).alloc (.cells #[.int .i64 sp.sat, .int .i64 sp.stn, .int .i64 sp.sf, .int .i64 sp.su, .int .i64 sp.cf, .int .i64 sp.cu] 30)
  have kP := Blk.newAt (w.alloc (.cells #[.int .i64 i0, .int .i64 i1, .int .i64 i2, .int .i64 i3, .int .i64 i4, .int .i64 i5, .int .i64 i6, .int .i64 i7, .slice sa so.length sc] 28)) #[.int .i64 sp.sat, .int .i64 sp.stn, .int .i64 sp.sf, .int .i64 sp.su, .int .i64 sp.cf, .int .i64 sp.cu] 30 (n := w.heap.size + 1) (by simp)
  generalize (w.alloc (.cells #[.int .i64 i0, .int .i64 i1, .int .i64 i2, .int .i64 i3, .int .i64 i4, .int .i64 i5, .int .i64 i6, .int .i64 i7, .slice sa so.length sc] 28)).alloc (.cells #[.int .i64 sp.sat, .int .i64 sp.stn, .int .i64 sp.sf, .int .i64 sp.su, .int .i64 sp.cf, .int .i64 sp.cu] 30) = W0 at hb0 kB kP ⊢
  obtain ⟨B, hB⟩ : ∃ B, w.heap.size = B := ⟨_, rfl⟩
  rw [hB] at kB kP ⊢
  refine (sane10 _).mono ?_
  rintro e w1 ⟨rfl, b1⟩
  have b01 := hb0.trans (b1.mono hb0.size)
  have hq := passes11 _ x w1 (HX.out.later b01) HXR.out
  go_wp2_with fail
  refine hq.mono ?_
  rintro e w2 ⟨vp, rfl, hp, b2⟩
  clear hq
  have hps := hp.passes
  have b12 := b01.trans (b2.mono b01.size)
  have hpl := passesG_len x
  have hq := option12 1 vp _ _ y w2 hps (HY.out.below b12) (sureOK_G x) HYR.out (by omega)
  obtain ⟨pa, pc, rfl, hple, hpcm⟩ := hps.len
  unfold maxLen at hpcm
  generalize hl : passesG x = l at hnil hps hq hple hpl
  generalize hov : optV l y = o at hq
  have HNIL := Lib.hid hnil
  clear hnil
  have HP := Lib.hid hps
  clear hps hl hov hp
  go_wp2_with fail
  refine hq.mono ?_
  rintro e w3 ⟨⟨vo, rfl, vs, rfl, hs⟩, b3⟩
  dsimp only [optHd] at hs ⊢
  clear hq
  obtain ⟨oa, oc, rfl, hole, hocm⟩ := hs.len
  have b13 := b12.trans (b3.mono b12.size)
  obtain ⟨V0, hW⟩ : ∃ V0, V0 = w3.alloc (.cells #[.int .i64 1, .int .i64 0, .int .i64 0, .int .i64 0, .int .i64 0, .int .i64 0, .int .i64 0, .int .i64 1, .slice oa o.length oc] 28) := ⟨_, rfl⟩
  have hbV0 : Below w3.heap.size w3 V0 := by rw [hW]; exact (Below.refl _ _).alloc (Nat.le_refl _) _
  have kO : Blk V0 w3.heap.size #[.int .i64 1, .int .i64 0, .int .i64 0, .int .i64 0, .int .i64 0, .int .i64 0, .int .i64 0, .int .i64 1, .slice oa o.length oc] 28 := by rw [hW]; exact Blk.new _ _ _
  have k1 := (kB.below b1 kB.lt).below b2 (kB.below b1 kB.lt).lt
  have k3 := (k1.below b3 k1.lt).below hbV0 (k1.below b3 k1.lt).lt
  have m1 := (kP.below b1 kP.lt).below b2 (kP.below b1 kP.lt).lt
  have m3 := (m1.below b3 m1.lt).below hbV0 (m1.below b3 m1.lt).lt
  have HSO := Lib.hid (SlotsAt.later hs hbV0)
  have HPW := Lib.hid (PassesAt.later (PassesAt.later HP.out b3) hbV0)
  have b1W := b13.trans (hbV0.mono b13.size)
  have HSD := Lib.hid (SlotsAt.later HSL.out b1W)
  have HLW := Lib.hid (IntsAt_below HLO.out b1W)
  go_upto_region 5 with (fail)
  rw [← hW]
  obtain ⟨C, hC⟩ : ∃ C, w3.heap.size = C := ⟨_, rfl⟩
  rw [hC] at kO ⊢
  have KO := Lib.hid kO
  have KB := Lib.hid k3
  have KP := Lib.hid m3
  clear hW hbV0 hs b1 b2 b3 b01 b12 b13 hb0 kB kP k1 m1 k3 m3 kO HX HY HXR HYR HP HSL HLO
  have hpc := passes_cells HPW.out
  have e6 : decide ((0 : Int) < (l.length : Int)) = false := decide_eq_false (by rw [HNIL.out]; decide)
  have e6b : decide (0 < l.length) = false := decide_eq_false (by rw [HNIL.out]; decide)
  go_upto_region 6 with (at_builtin; refine wpList_copyN E32 (f := passCs) (l := l) rfl _ _ rfl (B := V0.heap.size) (Nat.le_refl _) rfl rfl (fun _ => rfl) hpc (by omega) (by decide) ?_; intro v5 w5 ho5 hb5)
  have hbb : PassesAt w5 v5 l := owned_structs (f := passCs) (fun _ => rfl) ho5 (fun _ _ => rfl)
  obtain ⟨ba, bc, rfl, hbl, hbc⟩ := hbb.len
  unfold maxLen at hbc
  have HBB := Lib.hid hbb
  have hbw := hb5
  generalize w5 = wb at ho5 hbb HBB hbw ⊢
  obtain ⟨lb, hlbe⟩ : ∃ lb, l = lb := ⟨_, rfl⟩
  have hlb : lb.length = l.length := by rw [hlbe]
  have hbb2 := HBB.out
  clear HBB
  have hbb3 : PassesAt wb (.slice ba l.length bc) lb := by rw [← hlbe]; exact hbb2
  have HBB := Lib.hid hbb3
  clear hbb hbb2 hbb3 ho5 hlbe hb5 hpc
  have HPB := Lib.hid (PassesAt.later HPW.out hbw)
  have HSO2 := Lib.hid (SlotsAt.later HSO.out hbw)
  have HSD2 := Lib.hid (SlotsAt.later HSD.out hbw)
  have HLW2 := Lib.hid (IntsAt_below HLW.out hbw)
  have KO2 := Lib.hid (KO.out.below hbw KO.out.lt)
  have KB2 := Lib.hid (KB.out.below hbw KB.out.lt)
  have b1b := b1W.trans (hbw.mono b1W.size)
  clear HSO HSD HLW KO KB KP HPW b1W
  have HSO := HSO2
  have HSD := HSD2
  have HLW := HLW2
  have KO := KO2
  have KB := KB2
  clear HSO2 HSD2 HLW2 KO2 KB2
  go_wp2
  go_loopw [21, 22] (fun u21 u22 wr => ∃ i : Nat, i ≤ l.length ∧ u22 = .int .i64 (i : Int) ∧ OwnI wr wb.heap.size u21 (bitsL s i) ∧ Below wb.heap.size wb wr) (fun _ u22 _ => (l.length - intOf u22).toNat)
  case atStart => exact ⟨0, by omega, rfl, World.ownsRow_nil _ _ _ _, Below.refl _ _⟩
  case round =>
    obtain ⟨i, hi, rfl, ho1, hBr⟩ := hrel
    by_cases hil : i < l.length
    · have i1 : (i : Int) < 64 := by omega
      have hlen := bitsL_len s i
      have HO1 := Lib.hid ho1
      clear ho1
      by_cases hb : bitI s i = true
      · have q1 : ((s / 2 ^ i).tmod 2 == 1) = true := hb
        have HB := Lib.hid (show bitsL s (i + 1) = bitsL s i ++ [(i : Int)] by rw [bitsL_succ, if_pos hb])
        clear hb
        go_wp2_with fail
        refine (HS13.out _).mono ?_
        rintro e wq ⟨rfl, rfl⟩
        go_wp2_with (at_builtin; refine wpList_pushI rfl _ _ rfl HO1.out rfl rfl (by omega) hBr.size ?_; intro v' wz hown' hbb hkeep)
        go_simp
        refine ⟨⟨i + 1, by omega, by omega, by rw [HB.out]; exact hown', hBr.trans hbb⟩, ?_⟩
        simp [intOf]; omega
      · have q1 : ((s / 2 ^ i).tmod 2 == 1) = false := Bool.eq_false_iff.2 hb
        have HB := Lib.hid (show bitsL s (i + 1) = bitsL s i by rw [bitsL_succ, if_neg hb])
        clear hb
        go_wp2_with fail
        refine (HS13.out _).mono ?_
        rintro e wq ⟨rfl, rfl⟩
        go_wp2
        go_roundw
        case rel => exact ⟨i + 1, by omega, by go_num, by rw [HB.out]; exact HO1.out, hBr⟩
        case measure => simp [intOf]; omega
    · obtain rfl : i = l.length := by omega
      obtain ⟨w9, hren⟩ : ∃ z, z = wr := ⟨_, rfl⟩
      subst hren
      have hsl := bitsL_len s l.length
      have hsi := ho1.ints
      generalize bitsL s l.length = sm at hsl hsi ho1
      obtain ⟨ma, mc, rfl, hmle, hmcm⟩ := SliceOf.len hsi
      unfold maxLen at hmcm
      have HSM := Lib.hid hsi
      have HPR := Lib.hid (PassesAt.later HPB.out hBr)
      have HBR := Lib.hid (PassesAt.later HBB.out hBr)
      have HSO1 := Lib.hid (SlotsAt.later HSO.out hBr)
      have HSD1 := Lib.hid (SlotsAt.later HSD.out hBr)
      have HLR := Lib.hid (IntsAt_below HLW.out hBr)
      have KO1 := Lib.hid (KO.out.below hBr KO.out.lt)
      have KB1 := Lib.hid (KB.out.below hBr KB.out.lt)
      have b1r := b1b.trans (hBr.mono b1b.size)
      clear ho1 hsi HPB HBB HSO HSD HLW KO KB hBr HS13 b1b
      go_wp2
      have kZ := Blk.new w9 #[.slice pa l.length pc, .slice ba l.length bc] 32
      have hbZ := (Below.refl w9.heap.size w9).alloc (Nat.le_refl _) (.cells #[.slice pa l.length pc, .slice ba l.length bc] 32)
      generalize hZB : w9.heap.size = ZB at kZ ⊢
      generalize w9.alloc (.cells #[.slice pa l.length pc, .slice ba l.length bc] 32) = WZ at kZ hbZ ⊢
      have KZ := Lib.hid kZ
      clear kZ
      have HZL := Lib.hid (fun j => pick2_all (R := fun v l' => PassesAt w9 v l') HPR.out HBR.out j)
      have HZS := Lib.hid (fun j => pick2_all (R := fun (v : Value) (l' : List Pass) => ∃ a c, v = .slice a l.length c ∧ l'.length = l.length) (a := .slice pa l.length pc) (b := .slice ba l.length bc) (x := l) (y := lb) ⟨pa, pc, rfl, rfl⟩ ⟨ba, bc, rfl, hlb⟩ j)
      go_loopw [24, 26, 27, 28, 29, 30, 32, 33, 34, 35, 36, 37, 38, 39, 40, 41, 42, 43, 44, 45, 46, 47, 48, 50, 51, 52, 53, 54, 98] (fun _ _ _ _ _ _ _ _ _ _ _ _ _ _ _ _ _ _ _ _ _ _ _ _ _ _ _ _ u98 wq => ∃ j : Nat, j ≤ 2 ∧ u98 = .int .i64 (j : Int) ∧ Blk wq ZB #[.slice pa l.length pc, .slice ba l.length bc] 32 ∧ Below w9.heap.size w9 wq) (fun _ _ _ _ _ _ _ _ _ _ _ _ _ _ _ _ _ _ _ _ _ _ _ _ _ _ _ _ u98 _ => (2 - intOf u98).toNat)
      case atStart => exact ⟨0, by omega, rfl, KZ.out, hbZ⟩
      case round =>
        obtain ⟨wq, hren⟩ : ∃ z, z = wr := ⟨_, rfl⟩
        subst hren
        obtain ⟨j, hj, rfl, kq, hBq⟩ := hrel
        by_cases hj2 : j < 2
        · have j1 : (0 : Int) ≤ (j : Int) ∧ (j : Int) < 2 := by omega
          have e3 : decide ((j : Int) < 2) = true := decide_eq_true (by omega)
          have c1 := cells2v kq hj2
          have hz := HZL.out j
          obtain ⟨a', c', e', hlz⟩ := HZS.out j
          rw [e'] at c1 hz
          generalize pick2 l lb j = lz at c1 hz hlz
          have HLZ := Lib.hid hz
          have KQ := Lib.hid kq
          have kO := KO1.out.below hBq KO1.out.lt
          have kB := KB1.out.below hBq KB1.out.lt
          have lC := kO.lt
          have lB := kB.lt
          have z0 := kO.cell 0
          have z1 := kO.cell 1
          have z2 := kO.cell 2
          have z3 := kO.cell 3
          have z4 := kO.cell 4
          have z5 := kO.cell 5
          have z6 := kO.cell 6
          have z7 := kO.cell 7
          have z8 := kO.cell 8
          simp only [List.getElem?_toArray, List.getElem?_cons_zero, List.getElem?_cons_succ] at z0 z1 z2 z3 z4 z5 z6 z7 z8
          have y0 := kB.cell 0
          have y1 := kB.cell 1
          have y2 := kB.cell 2
          have y3 := kB.cell 3
          have y4 := kB.cell 4
          have y5 := kB.cell 5
          have y6 := kB.cell 6
          have y7 := kB.cell 7
          have y8 := kB.cell 8
          simp only [List.getElem?_toArray, List.getElem?_cons_zero, List.getElem?_cons_succ] at y0 y1 y2 y3 y4 y5 y6 y7 y8
          clear kq hz e' kO kB
          go_upto_region 17 with (fail)
          have HC := Lib.hid (fun W (hW : Below wq.heap.size wq W) => show W.cell? ⟨C, 0, none⟩ = some (.int .i64 1) ∧ W.cell? ⟨C, 1, none⟩ = some (.int .i64 0) ∧ W.cell? ⟨C, 2, none⟩ = some (.int .i64 0) ∧ W.cell? ⟨C, 3, none⟩ = some (.int .i64 0) ∧ W.cell? ⟨C, 4, none⟩ = some (.int .i64 0) ∧ W.cell? ⟨C, 5, none⟩ = some (.int .i64 0) ∧ W.cell? ⟨C, 6, none⟩ = some (.int .i64 0) ∧ W.cell? ⟨C, 7, none⟩ = some (.int .i64 1) ∧ W.cell? ⟨C, 8, none⟩ = some (.slice oa o.length oc) ∧ W.cell? ⟨B, 0, none⟩ = some (.int .i64 i0) ∧ W.cell? ⟨B, 1, none⟩ = some (.int .i64 i1) ∧ W.cell? ⟨B, 2, none⟩ = some (.int .i64 i2) ∧ W.cell? ⟨B, 3, none⟩ = some (.int .i64 i3) ∧ W.cell? ⟨B, 4, none⟩ = some (.int .i64 i4) ∧ W.cell? ⟨B, 5, none⟩ = some (.int .i64 i5) ∧ W.cell? ⟨B, 6, none⟩ = some (.int .i64 i6) ∧ W.cell? ⟨B, 7, none⟩ = some (.int .i64 i7) ∧ W.cell? ⟨B, 8, none⟩ = some (.slice sa so.length sc) from ⟨(hW.cell (p := ⟨C, 0, none⟩) lC).trans z0, (hW.cell (p := ⟨C, 1, none⟩) lC).trans z1, (hW.cell (p := ⟨C, 2, none⟩) lC).trans z2, (hW.cell (p := ⟨C, 3, none⟩) lC).trans z3, (hW.cell (p := ⟨C, 4, none⟩) lC).trans z4, (hW.cell (p := ⟨C, 5, none⟩) lC).trans z5, (hW.cell (p := ⟨C, 6, none⟩) lC).trans z6, (hW.cell (p := ⟨C, 7, none⟩) lC).trans z7, (hW.cell (p := ⟨C, 8, none⟩) lC).trans z8, (hW.cell (p := ⟨B, 0, none⟩) lB).trans y0, (hW.cell (p := ⟨B, 1, none⟩) lB).trans y1, (hW.cell (p := ⟨B, 2, none⟩) lB).trans y2, (hW.cell (p := ⟨B, 3, none⟩) lB).trans y3, (hW.cell (p := ⟨B, 4, none⟩) lB).trans y4, (hW.cell (p := ⟨B, 5, none⟩) lB).trans y5, (hW.cell (p := ⟨B, 6, none⟩) lB).trans y6, (hW.cell (p := ⟨B, 7, none⟩) lB).trans y7, (hW.cell (p := ⟨B, 8, none⟩) lB).trans y8⟩)
          refine wp_region_noPanic ?_
          refine wp_region_held_drew (S := (fun w' => Below wq.heap.size wq w' ∧ w'.cell? ⟨C, 0, none⟩ = some (.int .i64 1) ∧ w'.cell? ⟨C, 1, none⟩ = some (.int .i64 0) ∧ w'.cell? ⟨C, 2, none⟩ = some (.int .i64 0) ∧ w'.cell? ⟨C, 3, none⟩ = some (.int .i64 0) ∧ w'.cell? ⟨C, 4, none⟩ = some (.int .i64 0) ∧ w'.cell? ⟨C, 5, none⟩ = some (.int .i64 0) ∧ w'.cell? ⟨C, 6, none⟩ = some (.int .i64 0) ∧ w'.cell? ⟨C, 7, none⟩ = some (.int .i64 1) ∧ w'.cell? ⟨C, 8, none⟩ = some (.slice oa o.length oc) ∧ w'.cell? ⟨B, 0, none⟩ = some (.int .i64 i0) ∧ w'.cell? ⟨B, 1, none⟩ = some (.int .i64 i1) ∧ w'.cell? ⟨B, 2, none⟩ = some (.int .i64 i2) ∧ w'.cell? ⟨B, 3, none⟩ = some (.int .i64 i3) ∧ w'.cell? ⟨B, 4, none⟩ = some (.int .i64 i4) ∧ w'.cell? ⟨B, 5, none⟩ = some (.int .i64 i5) ∧ w'.cell? ⟨B, 6, none⟩ = some (.int .i64 i6) ∧ w'.cell? ⟨B, 7, none⟩ = some (.int .i64 i7) ∧ w'.cell? ⟨B, 8, none⟩ = some (.slice sa so.length sc))) (by kernel_rfl) ⟨(Below.refl _ _).drew, HC.out _ (Below.refl _ _).drew⟩ (fun hHeld => ?_)
          refine wpAnyH_take (i := 0) (oi := { dst := some 102, op := Op.load 28 (Operand.tmp 18), type := 28, pos := "law.go:88", after := #[], guard := none }) (v := ?_) rfl (by kernel_rfl) (by kernel_rfl) (by kernel_rfl) (fun _ _ _ h => h) (Or.inl ⟨by kernel_rfl, ?_⟩) (by assumption) ?_
          rotate_left
          · intro w hSw
            (try dsimp only at hSw)
            go_simp
            all_goals (with_reducible rfl)
          (try simp only [Act.put, List.setIfInBounds_toArray, List.set_cons_zero, List.set_cons_succ])
          refine wpAnyH_take (i := 1) (oi := { dst := some 103, op := Op.load 28 (Operand.tmp 10), type := 28, pos := "law.go:88", after := #[], guard := none }) (v := ?_) rfl (by kernel_rfl) (by kernel_rfl) (by kernel_rfl) (fun _ _ _ h => h) (Or.inl ⟨by kernel_rfl, ?_⟩) (by assumption) ?_
          rotate_left
          · intro w hSw
            (try dsimp only at hSw)
            go_simp
            all_goals (with_reducible rfl)
          (try simp only [Act.put, List.setIfInBounds_toArray, List.set_cons_zero, List.set_cons_succ])
          refine wpAnyH_take (i := 5) (oi := { dst := some 107, op := Op.move (Operand.const (Value.int IntKind.i64 0)), type := 3, pos := "law.go:88", after := #[], guard := none }) (v := ?_) rfl (by kernel_rfl) (by kernel_rfl) (by kernel_rfl) (fun _ _ _ h => h) (Or.inl ⟨by kernel_rfl, ?_⟩) (by assumption) ?_
          rotate_left
          · intro w hSw
            (try dsimp only at hSw)
            go_simp
            all_goals (with_reducible rfl)
          (try simp only [Act.put, List.setIfInBounds_toArray, List.set_cons_zero, List.set_cons_succ])
          refine wpAnyH_one1 (i := 2) (o := { dst := some 104, op := Op.call { callee := Callee.value (Operand.func 14), args := #[Operand.tmp 103], argTypes := #[28] }, type := 28, pos := "law.go:88", after := #[{ on := 1, ground := Ground.data }], guard := none }) (by kernel_rfl) rfl (fun K hK => ?_)
          go_simp
          go_at_call 14
          refine (short14x i0 i1 i2 i3 i4 i5 i6 i7 sa so.length sc _ hsle hscm).mono ?_
          rintro e wy ⟨rfl, hBy⟩
          have hb1 := hHeld.1.trans (hBy.mono hHeld.1.size)
          refine hK.out _ _ ?_ (fun hHeld2 => ?_)
          · first | (with_reducible exact ⟨hb2, HC.out _ hb2⟩) | exact ⟨hb1, HC.out _ hb1⟩
          clear hHeld
          have hHeld := hHeld2
          clear hHeld2
          clear hK K
          (try simp only [Act.put, List.setIfInBounds_toArray, List.set_cons_zero, List.set_cons_succ])
          refine wpAnyH_one1 (i := 3) (o := { dst := some 105, op := Op.buildSlice 39 2 #[(0, Operand.tmp 102), (1, Operand.tmp 104)], type := 39, pos := "law.go:88", after := #[{ on := 0, ground := Ground.data }, { on := 2, ground := Ground.data }], guard := none }) (by kernel_rfl) rfl (fun K hK => ?_)
          go_simp
          have hb2 := hb1.alloc hb1.size (.cells #[.int .i64 1, .int .i64 0, .int .i64 0, .int .i64 0, .int .i64 0, .int .i64 0, .int .i64 0, .int .i64 1, .slice oa o.length oc, .int .i64 i0, .int .i64 i1, .int .i64 i2, .int .i64 i3, .int .i64 i4, .int .i64 i5, .int .i64 i6, .int .i64 i7, .slice sa (min so.length 7) sc] 28)
          refine hK.out _ _ ?_ (fun hHeld2 => ?_)
          · first | (with_reducible exact ⟨hb2, HC.out _ hb2⟩) | exact ⟨hb1, HC.out _ hb1⟩
          clear hHeld
          have hHeld := hHeld2
          clear hHeld2
          clear hK K
          (try simp only [Act.put, List.setIfInBounds_toArray, List.set_cons_zero, List.set_cons_succ])
          refine wpAnyH_take (i := 4) (oi := { dst := some 106, op := Op.call { callee := Callee.builtin Builtin.len, args := #[Operand.tmp 105], argTypes := #[39] }, type := 3, pos := "law.go:88", after := #[{ on := 3, ground := Ground.data }], guard := none }) (v := ?_) rfl (by kernel_rfl) (by kernel_rfl) (by kernel_rfl) (fun _ _ _ h => h) (Or.inl ⟨by kernel_rfl, ?_⟩) (by assumption) ?_
          rotate_left
          · intro w hSw
            (try dsimp only at hSw)
            go_simp
            all_goals (with_reducible rfl)
          (try simp only [Act.put, List.setIfInBounds_toArray, List.set_cons_zero, List.set_cons_succ])
          refine wpAnyH_done (by kernel_rfl) ?_ _
          refine NoPanic.normal ?_
          have hX := hHeld.1
          clear hHeld hb1 hb2 HC z0 z1 z2 z3 z4 z5 z6 z7 z8 y0 y1 y2 y3 y4 y5 y6 y7 y8 c1
          go_wp2
          have hBX := hBq.trans (hX.mono hBq.size)
          have KQX := Lib.hid (KQ.out.below hX KQ.out.lt)
          have kG : Blk (wy.alloc (.cells #[.int .i64 1, .int .i64 0, .int .i64 0, .int .i64 0, .int .i64 0, .int .i64 0, .int .i64 0, .int .i64 1, .slice oa o.length oc, .int .i64 i0, .int .i64 i1, .int .i64 i2, .int .i64 i3, .int .i64 i4, .int .i64 i5, .int .i64 i6, .int .i64 i7, .slice sa (min so.length 7) sc] 28)) wy.heap.size #[.int .i64 1, .int .i64 0, .int .i64 0, .int .i64 0, .int .i64 0, .int .i64 0, .int .i64 0, .int .i64 1, .slice oa o.length oc, .int .i64 i0, .int .i64 i1, .int .i64 i2, .int .i64 i3, .int .i64 i4, .int .i64 i5, .int .i64 i6, .int .i64 i7, .slice sa (min so.length 7) sc] 28 := Blk.new _ _ _
          generalize wy.alloc (.cells #[.int .i64 1, .int .i64 0, .int .i64 0, .int .i64 0, .int .i64 0, .int .i64 0, .int .i64 0, .int .i64 1, .slice oa o.length oc, .int .i64 i0, .int .i64 i1, .int .i64 i2, .int .i64 i3, .int .i64 i4, .int .i64 i5, .int .i64 i6, .int .i64 i7, .slice sa (min so.length 7) sc] 28) = WX at hX hBX KQX kG ⊢
          generalize wy.heap.size = G at kG ⊢
          have HOX := Lib.hid (opts_two (h1 := ⟨1, 0, 0, 0, 0, 0, 0, 1⟩) (h2 := ⟨i0, i1, i2, i3, i4, i5, i6, i7⟩) kG (SlotsAt.later HSO1.out hBX) (slots_short (SlotsAt.later HSD1.out hBX)))
          have hol2 : ([⟨⟨1, 0, 0, 0, 0, 0, 0, 1⟩, o⟩, ⟨⟨i0, i1, i2, i3, i4, i5, i6, i7⟩, so.take 7⟩] : List OptD).length = 2 := rfl
          generalize ([⟨⟨1, 0, 0, 0, 0, 0, 0, 1⟩, o⟩, ⟨⟨i0, i1, i2, i3, i4, i5, i6, i7⟩, so.take 7⟩] : List OptD) = o2 at HOX hol2
          clear kG
          go_loopw [26, 27, 28, 29, 30, 32, 33, 34, 35, 36, 37, 38, 39, 40, 41, 42, 43, 44, 45, 46, 47, 48, 50, 51, 52, 53, 54, 107] (fun _ _ _ _ _ _ _ _ _ _ _ _ _ _ _ _ _ _ _ _ _ _ _ _ _ _ _ u107 wt => ∃ m : Nat, m ≤ 2 ∧ u107 = .int .i64 (m : Int) ∧ Below WX.heap.size WX wt) (fun _ _ _ _ _ _ _ _ _ _ _ _ _ _ _ _ _ _ _ _ _ _ _ _ _ _ _ u107 _ => (2 - intOf u107).toNat)
          case atStart => exact ⟨0, by omega, rfl, Below.refl _ _⟩
          case round =>
            obtain ⟨wt, hren⟩ : ∃ z, z = wr := ⟨_, rfl⟩
            subst hren
            obtain ⟨m, hm, rfl, hBt⟩ := hrel
            by_cases hm2 : m < 2
            · have m1 : (0 : Int) ≤ (m : Int) ∧ (m : Int) < 2 := by omega
              have e4 : decide ((m : Int) < 2) = true := decide_eq_true (by omega)
              obtain ⟨b', off', vsl, e', d0, d1, d2, d3, d4, d5, d6, d7, d8, hsl2⟩ := (HOX.out.later hBt).get (getD_some dOpt (show m < o2.length by omega))
              cases e'
              simp only [Nat.zero_add] at d0 d1 d2 d3 d4 d5 d6 d7 d8
              generalize o2.getD m dOpt = od at d0 d1 d2 d3 d4 d5 d6 d7 d8 hsl2
              obtain ⟨ta, tc, rfl, htle, htcm⟩ := hsl2.len
              have HT := Lib.hid (SlotsAt.later hsl2 ((Below.refl wt.heap.size wt).alloc (Nat.le_refl _) (.cells #[.int .i64 od.hd.id, .int .i64 od.hd.order, .int .i64 od.hd.clause, .int .i64 od.hd.sat, .int .i64 od.hd.fr, .int .i64 od.hd.to, .int .i64 od.hd.look, .int .i64 od.hd.size, .slice ta od.slots.length tc] 28)))
              clear hsl2
              have hBt2 := hBt.alloc hBt.size (.cells #[.int .i64 od.hd.id, .int .i64 od.hd.order, .int .i64 od.hd.clause, .int .i64 od.hd.sat, .int .i64 od.hd.fr, .int .i64 od.hd.to, .int .i64 od.hd.look, .int .i64 od.hd.size, .slice ta od.slots.length tc] 28)
              have kE := Blk.new wt #[.int .i64 od.hd.id, .int .i64 od.hd.order, .int .i64 od.hd.clause, .int .i64 od.hd.sat, .int .i64 od.hd.fr, .int .i64 od.hd.to, .int .i64 od.hd.look, .int .i64 od.hd.size, .slice ta od.slots.length tc] 28
              go_upto_region 20 with (fail)
              clear d0 d1 d2 d3 d4 d5 d6 d7 d8
              generalize wt.alloc (.cells #[.int .i64 od.hd.id, .int .i64 od.hd.order, .int .i64 od.hd.clause, .int .i64 od.hd.sat, .int .i64 od.hd.fr, .int .i64 od.hd.to, .int .i64 od.hd.look, .int .i64 od.hd.size, .slice ta od.slots.length tc] 28) = wT at HT hBt2 kE ⊢
              generalize wt.heap.size = EB at kE ⊢
              have hBqT := hBX.trans (hBt2.mono hBX.size)
              have HO2 := Lib.hid (fun W (hW : Below wT.heap.size wT W) => show OptV W (.agg #[.int .i64 od.hd.id, .int .i64 od.hd.order, .int .i64 od.hd.clause, .int .i64 od.hd.sat, .int .i64 od.hd.fr, .int .i64 od.hd.to, .int .i64 od.hd.look, .int .i64 od.hd.size, .slice ta od.slots.length tc]) od from ⟨_, rfl, SlotsAt.later HT.out hW⟩)
              have HL2 := Lib.hid (fun W (hW : Below wT.heap.size wT W) => PassesAt.later HLZ.out (hBqT.trans (hW.mono hBqT.size)))
              have lE := kE.lt
              have HE := Lib.hid (fun W (hW : Below wT.heap.size wT W) => (kE.below hW lE))
              have z0 := kE.cell 0
              have z1 := kE.cell 1
              have z2 := kE.cell 2
              have z3 := kE.cell 3
              have z4 := kE.cell 4
              have z5 := kE.cell 5
              have z6 := kE.cell 6
              have z7 := kE.cell 7
              have z8 := kE.cell 8
              simp only [List.getElem?_toArray, List.getElem?_cons_zero, List.getElem?_cons_succ] at z0 z1 z2 z3 z4 z5 z6 z7 z8
              clear hBt kE HT
              have hBwT : Below wT.heap.size wT wT := Below.refl _ _
              obtain ⟨na, hna⟩ : ∃ z, needN lz od.slots = z := ⟨_, rfl⟩
              obtain ⟨ne, hne⟩ : ∃ z, needE lz od.slots = z := ⟨_, rfl⟩
              have HNN := Lib.hid (And.intro hna hne)
              clear hna hne
              have hq := needed15 _ _ od lz _ (HO2.out _ hBwT) (HL2.out _ hBwT)
              rw [HNN.out.1, HNN.out.2] at hq
              go_wp2_with fail
              refine hq.mono ?_
              rintro e wa ⟨rfl, hv⟩
              clear hq z0 z1 z2 z3 z4 z5 z6 z7 z8
              have hBwa := hBwT.trans (hv.mono hBwT.size)
              clear hv
              have z0 := (HE.out _ hBwa).cell 0
              have z1 := (HE.out _ hBwa).cell 1
              have z2 := (HE.out _ hBwa).cell 2
              have z3 := (HE.out _ hBwa).cell 3
              have z4 := (HE.out _ hBwa).cell 4
              have z5 := (HE.out _ hBwa).cell 5
              have z6 := (HE.out _ hBwa).cell 6
              have z7 := (HE.out _ hBwa).cell 7
              have z8 := (HE.out _ hBwa).cell 8
              simp only [List.getElem?_toArray, List.getElem?_cons_zero, List.getElem?_cons_succ] at z0 z1 z2 z3 z4 z5 z6 z7 z8

              have hq := needed16 _ _ od lz _ (HO2.out _ hBwa) (HL2.out _ hBwa)
              rw [HNN.out.1, HNN.out.2] at hq
              go_wp2_with fail
              refine hq.mono ?_
              rintro e wb2 ⟨rfl, hv⟩
              clear hq z0 z1 z2 z3 z4 z5 z6 z7 z8
              have hBwb2 := hBwa.trans (hv.mono hBwa.size)
              clear hv
              have z0 := (HE.out _ hBwb2).cell 0
              have z1 := (HE.out _ hBwb2).cell 1
              have z2 := (HE.out _ hBwb2).cell 2
              have z3 := (HE.out _ hBwb2).cell 3
              have z4 := (HE.out _ hBwb2).cell 4
              have z5 := (HE.out _ hBwb2).cell 5
              have z6 := (HE.out _ hBwb2).cell 6
              have z7 := (HE.out _ hBwb2).cell 7
              have z8 := (HE.out _ hBwb2).cell 8
              simp only [List.getElem?_toArray, List.getElem?_cons_zero, List.getElem?_cons_succ] at z0 z1 z2 z3 z4 z5 z6 z7 z8
              have q0 : (na != na) = false := bne_self_eq_false _
              have q1 : (ne != ne) = false := bne_self_eq_false _
              obtain ⟨vv, hvv⟩ : ∃ z, validB lz od.slots = z := ⟨_, rfl⟩
              have q2 : (vv != vv) = false := bne_self_eq_false _
              have HVV := Lib.hid hvv
              clear hvv
              go_upto_region 22 with (fail)
              have HC3 := Lib.hid (fun W (hW : Below wT.heap.size wT W) => show W.cell? ⟨EB, 0, none⟩ = some (.int .i64 od.hd.id) ∧ W.cell? ⟨EB, 1, none⟩ = some (.int .i64 od.hd.order) ∧ W.cell? ⟨EB, 2, none⟩ = some (.int .i64 od.hd.clause) ∧ W.cell? ⟨EB, 3, none⟩ = some (.int .i64 od.hd.sat) ∧ W.cell? ⟨EB, 4, none⟩ = some (.int .i64 od.hd.fr) ∧ W.cell? ⟨EB, 5, none⟩ = some (.int .i64 od.hd.to) ∧ W.cell? ⟨EB, 6, none⟩ = some (.int .i64 od.hd.look) ∧ W.cell? ⟨EB, 7, none⟩ = some (.int .i64 od.hd.size) ∧ W.cell? ⟨EB, 8, none⟩ = some (.slice ta od.slots.length tc) from ⟨(HE.out W hW).cell 0, (HE.out W hW).cell 1, (HE.out W hW).cell 2, (HE.out W hW).cell 3, (HE.out W hW).cell 4, (HE.out W hW).cell 5, (HE.out W hW).cell 6, (HE.out W hW).cell 7, (HE.out W hW).cell 8⟩)
              refine wp_region_noPanic ?_
              refine wp_region_held_drew (S := (fun w' => Below wT.heap.size wT w' ∧ w'.cell? ⟨EB, 0, none⟩ = some (.int .i64 od.hd.id) ∧ w'.cell? ⟨EB, 1, none⟩ = some (.int .i64 od.hd.order) ∧ w'.cell? ⟨EB, 2, none⟩ = some (.int .i64 od.hd.clause) ∧ w'.cell? ⟨EB, 3, none⟩ = some (.int .i64 od.hd.sat) ∧ w'.cell? ⟨EB, 4, none⟩ = some (.int .i64 od.hd.fr) ∧ w'.cell? ⟨EB, 5, none⟩ = some (.int .i64 od.hd.to) ∧ w'.cell? ⟨EB, 6, none⟩ = some (.int .i64 od.hd.look) ∧ w'.cell? ⟨EB, 7, none⟩ = some (.int .i64 od.hd.size) ∧ w'.cell? ⟨EB, 8, none⟩ = some (.slice ta od.slots.length tc))) (by kernel_rfl) ⟨hBwb2.drew, HC3.out _ hBwb2.drew⟩ (fun hHeld => ?_)
              refine wpAnyH_take (i := 0) (oi := { dst := some 123, op := Op.move (Operand.tmp 27), type := 3, pos := "law.go:91", after := #[], guard := none }) (v := ?_) rfl (by kernel_rfl) (by kernel_rfl) (by kernel_rfl) (fun _ _ _ h => h) (Or.inl ⟨by kernel_rfl, ?_⟩) (by assumption) ?_
              rotate_left
              · intro w hSw
                (try dsimp only at hSw)
                go_simp
                all_goals (with_reducible rfl)
              (try simp only [Act.put, List.setIfInBounds_toArray, List.set_cons_zero, List.set_cons_succ])
              refine wpAnyH_take (i := 1) (oi := { dst := some 124, op := Op.move (Operand.tmp 29), type := 3, pos := "law.go:91", after := #[], guard := none }) (v := ?_) rfl (by kernel_rfl) (by kernel_rfl) (by kernel_rfl) (fun _ _ _ h => h) (Or.inl ⟨by kernel_rfl, ?_⟩) (by assumption) ?_
              rotate_left
              · intro w hSw
                (try dsimp only at hSw)
                go_simp
                all_goals (with_reducible rfl)
              (try simp only [Act.put, List.setIfInBounds_toArray, List.set_cons_zero, List.set_cons_succ])
              refine wpAnyH_take (i := 2) (oi := { dst := some 125, op := Op.binOp BinOp.neq 3 (Operand.tmp 123) (Operand.tmp 124) 3, type := 4, pos := "law.go:91", after := #[{ on := 0, ground := Ground.data }, { on := 1, ground := Ground.data }], guard := none }) (v := ?_) rfl (by kernel_rfl) (by kernel_rfl) (by kernel_rfl) (fun _ _ _ h => h) (Or.inl ⟨by kernel_rfl, ?_⟩) (by assumption) ?_
              rotate_left
              · intro w hSw
                (try dsimp only at hSw)
                go_simp
                all_goals (with_reducible rfl)
              (try simp only [Act.put, List.setIfInBounds_toArray, List.set_cons_zero, List.set_cons_succ])
              refine wpAnyH_take (i := 3) (oi := { dst := some 126, op := Op.move (Operand.tmp 125), type := 4, pos := "law.go:91", after := #[{ on := 2, ground := Ground.data }], guard := none }) (v := ?_) rfl (by kernel_rfl) (by kernel_rfl) (by kernel_rfl) (fun _ _ _ h => h) (Or.inl ⟨by kernel_rfl, ?_⟩) (by assumption) ?_
              rotate_left
              · intro w hSw
                (try dsimp only at hSw)
                go_simp
                all_goals (with_reducible rfl)
              (try simp only [Act.put, List.setIfInBounds_toArray, List.set_cons_zero, List.set_cons_succ])
              refine wpAnyH_take (i := 4) (oi := { dst := some 127, op := Op.move (Operand.tmp 28), type := 40, pos := "law.go:91", after := #[{ on := 3, ground := Ground.guard }], guard := some (3, false) }) (v := ?_) rfl (by kernel_rfl) (by kernel_rfl) (by kernel_rfl) (fun _ _ _ h => h) (Or.inl ⟨by kernel_rfl, ?_⟩) (by assumption) ?_
              rotate_left
              · intro w hSw
                (try dsimp only at hSw)
                go_simp
                all_goals (with_reducible rfl)
              (try simp only [Act.put, List.setIfInBounds_toArray, List.set_cons_zero, List.set_cons_succ])
              refine wpAnyH_take (i := 5) (oi := { dst := some 128, op := Op.move (Operand.tmp 30), type := 40, pos := "law.go:91", after := #[{ on := 3, ground := Ground.guard }], guard := some (3, false) }) (v := ?_) rfl (by kernel_rfl) (by kernel_rfl) (by kernel_rfl) (fun _ _ _ h => h) (Or.inl ⟨by kernel_rfl, ?_⟩) (by assumption) ?_
              rotate_left
              · intro w hSw
                (try dsimp only at hSw)
                go_simp
                all_goals (with_reducible rfl)
              (try simp only [Act.put, List.setIfInBounds_toArray, List.set_cons_zero, List.set_cons_succ])
              refine wpAnyH_take (i := 6) (oi := { dst := some 129, op := Op.binOp BinOp.neq 40 (Operand.tmp 127) (Operand.tmp 128) 40, type := 4, pos := "law.go:91", after := #[{ on := 4, ground := Ground.data }, { on := 5, ground := Ground.data }, { on := 3, ground := Ground.guard }], guard := some (3, false) }) (v := ?_) rfl (by kernel_rfl) (by kernel_rfl) (by kernel_rfl) (fun _ _ _ h => h) (Or.inl ⟨by kernel_rfl, ?_⟩) (by assumption) ?_
              rotate_left
              · intro w hSw
                (try dsimp only at hSw)
                go_simp
                all_goals (with_reducible rfl)
              (try simp only [Act.put, List.setIfInBounds_toArray, List.set_cons_zero, List.set_cons_succ])
              refine wpAnyH_take (i := 7) (oi := { dst := some 130, op := Op.pick (Operand.tmp 126) (Operand.const (Value.bool true)) (Operand.tmp 129), type := 4, pos := "law.go:91", after := #[{ on := 3, ground := Ground.data }, { on := 6, ground := Ground.data }], guard := none }) (v := ?_) rfl (by kernel_rfl) (by kernel_rfl) (by kernel_rfl) (fun _ _ _ h => h) (Or.inl ⟨by kernel_rfl, ?_⟩) (by assumption) ?_
              rotate_left
              · intro w hSw
                (try dsimp only at hSw)
                go_simp
                all_goals (with_reducible rfl)
              (try simp only [Act.put, List.setIfInBounds_toArray, List.set_cons_zero, List.set_cons_succ])
              refine wpAnyH_take (i := 8) (oi := { dst := some 131, op := Op.move (Operand.tmp 130), type := 4, pos := "law.go:91", after := #[{ on := 7, ground := Ground.data }, { on := 3, ground := Ground.chain }], guard := none }) (v := ?_) rfl (by kernel_rfl) (by kernel_rfl) (by kernel_rfl) (fun _ _ _ h => h) (Or.inl ⟨by kernel_rfl, ?_⟩) (by assumption) ?_
              rotate_left
              · intro w hSw
                (try dsimp only at hSw)
                go_simp
                all_goals (with_reducible rfl)
              (try simp only [Act.put, List.setIfInBounds_toArray, List.set_cons_zero, List.set_cons_succ])
              refine wpAnyH_take (i := 9) (oi := { dst := some 132, op := Op.load 28 (Operand.tmp 26), type := 28, pos := "law.go:91", after := #[{ on := 8, ground := Ground.guard }], guard := some (8, false) }) (v := ?_) rfl (by kernel_rfl) (by kernel_rfl) (by kernel_rfl) (fun _ _ _ h => h) (Or.inl ⟨by kernel_rfl, ?_⟩) (by assumption) ?_
              rotate_left
              · intro w hSw
                (try dsimp only at hSw)
                go_simp
                all_goals (with_reducible rfl)
              (try simp only [Act.put, List.setIfInBounds_toArray, List.set_cons_zero, List.set_cons_succ])
              refine wpAnyH_take (i := 10) (oi := { dst := some 133, op := Op.move (Operand.tmp 24), type := 32, pos := "law.go:91", after := #[{ on := 8, ground := Ground.guard }], guard := some (8, false) }) (v := ?_) rfl (by kernel_rfl) (by kernel_rfl) (by kernel_rfl) (fun _ _ _ h => h) (Or.inl ⟨by kernel_rfl, ?_⟩) (by assumption) ?_
              rotate_left
              · intro w hSw
                (try dsimp only at hSw)
                go_simp
                all_goals (with_reducible rfl)
              (try simp only [Act.put, List.setIfInBounds_toArray, List.set_cons_zero, List.set_cons_succ])
              refine wpAnyH_take (i := 12) (oi := { dst := some 135, op := Op.load 28 (Operand.tmp 26), type := 28, pos := "law.go:91", after := #[{ on := 8, ground := Ground.guard }], guard := some (8, false) }) (v := ?_) rfl (by kernel_rfl) (by kernel_rfl) (by kernel_rfl) (fun _ _ _ h => h) (Or.inl ⟨by kernel_rfl, ?_⟩) (by assumption) ?_
              rotate_left
              · intro w hSw
                (try dsimp only at hSw)
                go_simp
                all_goals (with_reducible rfl)
              (try simp only [Act.put, List.setIfInBounds_toArray, List.set_cons_zero, List.set_cons_succ])
              refine wpAnyH_take (i := 13) (oi := { dst := some 136, op := Op.move (Operand.tmp 24), type := 32, pos := "law.go:91", after := #[{ on := 8, ground := Ground.guard }], guard := some (8, false) }) (v := ?_) rfl (by kernel_rfl) (by kernel_rfl) (by kernel_rfl) (fun _ _ _ h => h) (Or.inl ⟨by kernel_rfl, ?_⟩) (by assumption) ?_
              rotate_left
              · intro w hSw
                (try dsimp only at hSw)
                go_simp
                all_goals (with_reducible rfl)
              (try simp only [Act.put, List.setIfInBounds_toArray, List.set_cons_zero, List.set_cons_succ])
              refine wpAnyH_one1 (i := 11) (o := { dst := some 134, op := Op.call { callee := Callee.value (Operand.func 17), args := #[Operand.tmp 132, Operand.tmp 133], argTypes := #[28, 32] }, type := 4, pos := "law.go:91", after := #[{ on := 9, ground := Ground.data }, { on := 10, ground := Ground.data }, { on := 8, ground := Ground.chain }, { on := 8, ground := Ground.guard }], guard := some (8, false) }) (by kernel_rfl) rfl (fun K hK => ?_)
              go_simp
              have hq := valid17 _ _ od lz _ (HO2.out _ hHeld.1) (HL2.out _ hHeld.1)
              rw [HVV.out] at hq
              go_at_call 17
              refine hq.mono ?_
              rintro e wc ⟨rfl, hv⟩
              have hb1 := hHeld.1.trans (hv.mono hHeld.1.size)
              clear hq
              refine hK.out _ _ ?_ (fun hHeld2 => ?_)
              · exact ⟨hb1, HC3.out _ hb1⟩
              clear hHeld
              have hHeld := hHeld2
              clear hHeld2
              clear hK K
              (try simp only [Act.put, List.setIfInBounds_toArray, List.set_cons_zero, List.set_cons_succ])
              refine wpAnyH_one1 (i := 14) (o := { dst := some 137, op := Op.call { callee := Callee.value (Operand.func 18), args := #[Operand.tmp 135, Operand.tmp 136], argTypes := #[28, 32] }, type := 4, pos := "law.go:91", after := #[{ on := 12, ground := Ground.data }, { on := 13, ground := Ground.data }, { on := 11, ground := Ground.chain }, { on := 8, ground := Ground.guard }], guard := some (8, false) }) (by kernel_rfl) rfl (fun K hK => ?_)
              go_simp
              have hq := valid18 _ _ od lz _ (HO2.out _ hHeld.1) (HL2.out _ hHeld.1)
              rw [HVV.out] at hq
              go_at_call 18
              refine hq.mono ?_
              rintro e wd ⟨rfl, hv⟩
              have hb1 := hHeld.1.trans (hv.mono hHeld.1.size)
              clear hq
              refine hK.out _ _ ?_ (fun hHeld2 => ?_)
              · exact ⟨hb1, HC3.out _ hb1⟩
              clear hHeld
              have hHeld := hHeld2
              clear hHeld2
              clear hK K
              (try simp only [Act.put, List.setIfInBounds_toArray, List.set_cons_zero, List.set_cons_succ])
              refine wpAnyH_take (i := 15) (oi := { dst := some 138, op := Op.binOp BinOp.neq 4 (Operand.tmp 134) (Operand.tmp 137) 4, type := 4, pos := "law.go:91", after := #[{ on := 11, ground := Ground.data }, { on := 14, ground := Ground.data }, { on := 8, ground := Ground.guard }], guard := some (8, false) }) (v := ?_) rfl (by kernel_rfl) (by kernel_rfl) (by kernel_rfl) (fun _ _ _ h => h) (Or.inl ⟨by kernel_rfl, ?_⟩) (by assumption) ?_
              rotate_left
              · intro w hSw
                (try dsimp only at hSw)
                go_simp
                all_goals (with_reducible rfl)
              (try simp only [Act.put, List.setIfInBounds_toArray, List.set_cons_zero, List.set_cons_succ])
              refine wpAnyH_take (i := 16) (oi := { dst := some 139, op := Op.pick (Operand.tmp 131) (Operand.const (Value.bool true)) (Operand.tmp 138), type := 4, pos := "law.go:91", after := #[{ on := 8, ground := Ground.data }, { on := 15, ground := Ground.data }], guard := none }) (v := ?_) rfl (by kernel_rfl) (by kernel_rfl) (by kernel_rfl) (fun _ _ _ h => h) (Or.inl ⟨by kernel_rfl, ?_⟩) (by assumption) ?_
              rotate_left
              · intro w hSw
                (try dsimp only at hSw)
                go_simp
                all_goals (with_reducible rfl)
              (try simp only [Act.put, List.setIfInBounds_toArray, List.set_cons_zero, List.set_cons_succ])
              refine wpAnyH_done (by kernel_rfl) ?_ _
              refine NoPanic.normal ?_
              have hX3 := hHeld.1
              clear hHeld HC3 
              go_wp2_with fail
              refine (HP13.out _).mono ?_
              rintro e wd' ⟨rfl, rfl⟩
              go_wp2
              have kI := Blk.new wd #[.int .i64 kk, .int .i64 kp] 3
              have hbI := hX3.alloc hX3.size (.cells #[.int .i64 kk, .int .i64 kp] 3)
              generalize wd.alloc (.cells #[.int .i64 kk, .int .i64 kp] 3) = WI at kI hbI ⊢
              generalize wd.heap.size = IB at kI ⊢
              have KI := Lib.hid kI
              clear kI hX3
              go_loopw [32, 33, 34, 35, 36, 37, 38, 39, 40, 41, 42, 43, 44, 45, 46, 47, 48, 145] (fun _ _ _ _ _ _ _ _ _ _ _ _ _ _ _ _ _ u145 wn => ∃ n : Nat, n ≤ 2 ∧ u145 = .int .i64 (n : Int) ∧ Blk wn IB #[.int .i64 kk, .int .i64 kp] 3 ∧ Below wT.heap.size wT wn) (fun _ _ _ _ _ _ _ _ _ _ _ _ _ _ _ _ _ u145 _ => (2 - intOf u145).toNat)
              case atStart => exact ⟨0, by omega, rfl, KI.out, hbI⟩
              case round =>
                as_aux_lemma =>
                obtain ⟨wn, hren⟩ : ∃ z, z = wr := ⟨_, rfl⟩
                subst hren
                obtain ⟨n, hn, rfl, ki, hBn⟩ := hrel
                by_cases hn2 : n < 2
                · have n1 : (0 : Int) ≤ (n : Int) ∧ (n : Int) < 2 := by omega
                  have e5 : decide ((n : Int) < 2) = true := decide_eq_true (by omega)
                  have c2 := cells2 ki hn2
                  have KI2 := Lib.hid ki
                  generalize pick2 kk kp n = kz at c2
                  clear ki
                  obtain ⟨ga, hga⟩ : ∃ z, sureB lz od.slots kz = z := ⟨_, rfl⟩
                  obtain ⟨gb, hgb⟩ : ∃ z, sureE lz od.slots kz = z := ⟨_, rfl⟩
                  obtain ⟨gc, hgc⟩ : ∃ z, failB lz od.slots kz = z := ⟨_, rfl⟩
                  obtain ⟨gd, hgd⟩ : ∃ z, failL lz od.slots kz = z := ⟨_, rfl⟩
                  obtain ⟨ge, hge⟩ : ∃ z, lastN lz od.slots kz = z := ⟨_, rfl⟩
                  obtain ⟨gf, hgf⟩ : ∃ z, lateQ lz od.slots kz = z := ⟨_, rfl⟩
                  have HG := Lib.hid (And.intro hga (And.intro hgb (And.intro hgc (And.intro hgd (And.intro hge hgf)))))
                  clear hga hgb hgc hgd hge hgf
                  have z0 := (HE.out _ hBn).cell 0
                  have z1 := (HE.out _ hBn).cell 1
                  have z2 := (HE.out _ hBn).cell 2
                  have z3 := (HE.out _ hBn).cell 3
                  have z4 := (HE.out _ hBn).cell 4
                  have z5 := (HE.out _ hBn).cell 5
                  have z6 := (HE.out _ hBn).cell 6
                  have z7 := (HE.out _ hBn).cell 7
                  have z8 := (HE.out _ hBn).cell 8
                  simp only [List.getElem?_toArray, List.getElem?_cons_zero, List.getElem?_cons_succ] at z0 z1 z2 z3 z4 z5 z6 z7 z8
                  have hq := sure19 _ _ od lz kz _ (HO2.out _ hBn) (HL2.out _ hBn)
                  rw [HG.out.1, HG.out.2.1] at hq
                  go_wp2_with fail
                  refine hq.mono ?_
                  rintro e x1 ⟨rfl, hv⟩
                  clear hq c2 z0 z1 z2 z3 z4 z5 z6 z7 z8
                  have hBx1 := hBn.trans (hv.mono hBn.size)
                  have Bx1 := Lib.hid hv
                  clear hv
                  have z0 := (HE.out _ hBx1).cell 0
                  have z1 := (HE.out _ hBx1).cell 1
                  have z2 := (HE.out _ hBx1).cell 2
                  have z3 := (HE.out _ hBx1).cell 3
                  have z4 := (HE.out _ hBx1).cell 4
                  have z5 := (HE.out _ hBx1).cell 5
                  have z6 := (HE.out _ hBx1).cell 6
                  have z7 := (HE.out _ hBx1).cell 7
                  have z8 := (HE.out _ hBx1).cell 8
                  simp only [List.getElem?_toArray, List.getElem?_cons_zero, List.getElem?_cons_succ] at z0 z1 z2 z3 z4 z5 z6 z7 z8

                  have hq := sure20 _ _ od lz kz _ (HO2.out _ hBx1) (HL2.out _ hBx1)
                  rw [HG.out.1, HG.out.2.1] at hq
                  go_wp2_with fail
                  refine hq.mono ?_
                  rintro e x2 ⟨rfl, hv⟩
                  clear hq z0 z1 z2 z3 z4 z5 z6 z7 z8
                  have hBx2 := hBx1.trans (hv.mono hBx1.size)
                  have Bx2 := Lib.hid hv
                  clear hv
                  have z0 := (HE.out _ hBx2).cell 0
                  have z1 := (HE.out _ hBx2).cell 1
                  have z2 := (HE.out _ hBx2).cell 2
                  have z3 := (HE.out _ hBx2).cell 3
                  have z4 := (HE.out _ hBx2).cell 4
                  have z5 := (HE.out _ hBx2).cell 5
                  have z6 := (HE.out _ hBx2).cell 6
                  have z7 := (HE.out _ hBx2).cell 7
                  have z8 := (HE.out _ hBx2).cell 8
                  simp only [List.getElem?_toArray, List.getElem?_cons_zero, List.getElem?_cons_succ] at z0 z1 z2 z3 z4 z5 z6 z7 z8

                  have hq := fails21 _ _ od lz kz _ (HO2.out _ hBx2) (HL2.out _ hBx2)
                  rw [HG.out.2.2.1, HG.out.2.2.2.1, HG.out.2.1] at hq
                  go_wp2_with fail
                  refine hq.mono ?_
                  rintro e x3 ⟨⟨v3, rfl, h3⟩, hv⟩
                  clear hq z0 z1 z2 z3 z4 z5 z6 z7 z8
                  have hBx3 := hBx2.trans (hv.mono hBx2.size)
                  have Bx3 := Lib.hid hv
                  clear hv
                  have z0 := (HE.out _ hBx3).cell 0
                  have z1 := (HE.out _ hBx3).cell 1
                  have z2 := (HE.out _ hBx3).cell 2
                  have z3 := (HE.out _ hBx3).cell 3
                  have z4 := (HE.out _ hBx3).cell 4
                  have z5 := (HE.out _ hBx3).cell 5
                  have z6 := (HE.out _ hBx3).cell 6
                  have z7 := (HE.out _ hBx3).cell 7
                  have z8 := (HE.out _ hBx3).cell 8
                  simp only [List.getElem?_toArray, List.getElem?_cons_zero, List.getElem?_cons_succ] at z0 z1 z2 z3 z4 z5 z6 z7 z8
                  have H3 := Lib.hid h3
                  clear h3
                  have hq := fails22 _ _ od lz kz _ (HO2.out _ hBx3) (HL2.out _ hBx3)
                  rw [HG.out.2.2.1, HG.out.2.2.2.1, HG.out.2.1] at hq
                  go_wp2_with fail
                  refine hq.mono ?_
                  rintro e x4 ⟨⟨v4, rfl, h4⟩, hv⟩
                  clear hq z0 z1 z2 z3 z4 z5 z6 z7 z8
                  have hBx4 := hBx3.trans (hv.mono hBx3.size)
                  have Bx4 := Lib.hid hv
                  clear hv
                  have z0 := (HE.out _ hBx4).cell 0
                  have z1 := (HE.out _ hBx4).cell 1
                  have z2 := (HE.out _ hBx4).cell 2
                  have z3 := (HE.out _ hBx4).cell 3
                  have z4 := (HE.out _ hBx4).cell 4
                  have z5 := (HE.out _ hBx4).cell 5
                  have z6 := (HE.out _ hBx4).cell 6
                  have z7 := (HE.out _ hBx4).cell 7
                  have z8 := (HE.out _ hBx4).cell 8
                  simp only [List.getElem?_toArray, List.getElem?_cons_zero, List.getElem?_cons_succ] at z0 z1 z2 z3 z4 z5 z6 z7 z8
                  have H4 := Lib.hid h4
                  clear h4
                  have hq := latest23 _ _ od lz kz _ (HO2.out _ hBx4) (HL2.out _ hBx4)
                  rw [HG.out.2.2.2.2.1, HG.out.2.2.2.2.2, HG.out.2.1] at hq
                  go_wp2_with fail
                  refine hq.mono ?_
                  rintro e x5 ⟨⟨v5', rfl, h5⟩, hv⟩
                  clear hq z0 z1 z2 z3 z4 z5 z6 z7 z8
                  have hBx5 := hBx4.trans (hv.mono hBx4.size)
                  have Bx5 := Lib.hid hv
                  clear hv
                  have z0 := (HE.out _ hBx5).cell 0
                  have z1 := (HE.out _ hBx5).cell 1
                  have z2 := (HE.out _ hBx5).cell 2
                  have z3 := (HE.out _ hBx5).cell 3
                  have z4 := (HE.out _ hBx5).cell 4
                  have z5 := (HE.out _ hBx5).cell 5
                  have z6 := (HE.out _ hBx5).cell 6
                  have z7 := (HE.out _ hBx5).cell 7
                  have z8 := (HE.out _ hBx5).cell 8
                  simp only [List.getElem?_toArray, List.getElem?_cons_zero, List.getElem?_cons_succ] at z0 z1 z2 z3 z4 z5 z6 z7 z8
                  have H5 := Lib.hid h5
                  clear h5
                  have hq := latest24 _ _ od lz kz _ (HO2.out _ hBx5) (HL2.out _ hBx5)
                  rw [HG.out.2.2.2.2.1, HG.out.2.2.2.2.2, HG.out.2.1] at hq
                  go_wp2_with fail
                  refine hq.mono ?_
                  rintro e x6 ⟨⟨v6, rfl, h6⟩, hv⟩
                  clear hq z0 z1 z2 z3 z4 z5 z6 z7 z8
                  have hBx6 := hBx5.trans (hv.mono hBx5.size)
                  have Bx6 := Lib.hid hv
                  clear hv
                  have z0 := (HE.out _ hBx6).cell 0
                  have z1 := (HE.out _ hBx6).cell 1
                  have z2 := (HE.out _ hBx6).cell 2
                  have z3 := (HE.out _ hBx6).cell 3
                  have z4 := (HE.out _ hBx6).cell 4
                  have z5 := (HE.out _ hBx6).cell 5
                  have z6 := (HE.out _ hBx6).cell 6
                  have z7 := (HE.out _ hBx6).cell 7
                  have z8 := (HE.out _ hBx6).cell 8
                  simp only [List.getElem?_toArray, List.getElem?_cons_zero, List.getElem?_cons_succ] at z0 z1 z2 z3 z4 z5 z6 z7 z8
                  have H6 := Lib.hid h6
                  clear h6
                  have HF3 := Lib.hid (IntsAt_below (IntsAt_below (IntsAt_below H3.out Bx4.out) Bx5.out) Bx6.out)
                  have HF4 := Lib.hid (IntsAt_below (IntsAt_below H4.out Bx5.out) Bx6.out)
                  have HF5 := Lib.hid (IntsAt_below H5.out Bx6.out)
                  have hq := ints25 _ _ gd x6 HF3.out HF4.out
                  have q0 : (ga != ga) = false := bne_self_eq_false _
                  have q1 : (gb != gb) = false := bne_self_eq_false _
                  have q2' : (gc != gc) = false := bne_self_eq_false _
                  have q3 : (ge != ge) = false := bne_self_eq_false _
                  clear z0 z1 z2 z3 z4 z5 z6 z7 z8
                  go_wp2_with fail
                  refine hq.mono ?_
                  rintro e x7 ⟨rfl, hv⟩
                  clear hq
                  have hBx7 := hBx6.trans (hv.mono hBx6.size)
                  have hq := ints25 _ _ gf x7 (IntsAt_below HF5.out hv) (IntsAt_below H6.out hv)
                  have Bx7 := Lib.hid hv
                  clear hv
                  go_wp2_with fail
                  refine hq.mono ?_
                  rintro e x8 ⟨rfl, hv⟩
                  clear hq
                  have hBx8 := hBx7.trans (hv.mono hBx7.size)
                  have ki := KI2.out
                  have w0 := ki
                  have w1 := w0.below Bx1.out w0.lt
                  have w2 := w1.below Bx2.out w1.lt
                  have w3 := w2.below Bx3.out w2.lt
                  have w4 := w3.below Bx4.out w3.lt
                  have w5 := w4.below Bx5.out w4.lt
                  have w6 := w5.below Bx6.out w5.lt
                  have w7 := w6.below Bx7.out w6.lt
                  have w8 := w7.below hv w7.lt
                  have KI3 := Lib.hid w8
                  clear w0 w1 w2 w3 w4 w5 w6 w7 w8
                  clear ki hv Bx1 Bx2 Bx3 Bx4 Bx5 Bx6 Bx7
                  go_wp2
                  go_roundw
                  case rel => exact ⟨n + 1, by omega, by go_num, KI3.out, hBx8⟩
                  case measure => simp [intOf]; omega
                · have e5 : decide ((n : Int) < 2) = false := decide_eq_false (by omega)
                  have e5b : decide (n < 2) = false := decide_eq_false (by omega)
                  have hBn2 := hBn
                  clear ki KI
                  have t1 : (0 : Int) ≤ min (lo.length : Int) 8 := by omega
                  obtain ⟨q, hq8⟩ : ∃ q, min lo.length 8 = q := ⟨_, rfl⟩
                  have hmn : (if (8 : Int) < (lo.length : Int) then (8 : Int) else (lo.length : Int)) = (q : Int) := by rw [← hq8, Nat.min_def]; split <;> split <;> omega
                  have hmn2 : min (lo.length : Int) 8 = (q : Int) := by rw [← hmn, Int.min_def]; split <;> split <;> omega
                  have hql : q ≤ lo.length := by omega
                  have g1 : (0 : Int) ≤ (q : Int) ∧ (q : Int) ≤ (lo.length : Int) ∧ (q : Int) ≤ (lc : Int) := by omega
                  have hlq : (lo.take q).length = q := by rw [List.length_take]; omega
                  have hqb : q ≤ 8 := by omega
                  have hBqn := hBqT.trans (hBn.mono hBqT.size)
                  have HZ5 := Lib.hid (fun i => pick2_all (R := fun v x => IntsAt w9 v x) HSM.out (ints_cut HLR.out hql) i)
                  have HS5 := Lib.hid (fun i => pick2_all (R := fun (v : Value) (x : List Int) => ∃ a c, v = .slice a x.length c ∧ x.length ≤ 1000) (a := .slice ma sm.length mc) (b := .slice la q lc) (x := sm) (y := lo.take q) ⟨ma, mc, rfl, by omega⟩ ⟨la, lc, by rw [hlq], by omega⟩ i)
                  clear hq8 t1
                  go_wp2
                  have kJ := Blk.new wn #[.slice ma sm.length mc, .slice la q lc] 23
                  have hbJ := hBn.alloc hBn.size (.cells #[.slice ma sm.length mc, .slice la q lc] 23)
                  generalize wn.alloc (.cells #[.slice ma sm.length mc, .slice la q lc] 23) = WJ at kJ hbJ ⊢
                  generalize wn.heap.size = JB at kJ ⊢
                  have KJ := Lib.hid kJ
                  clear kJ
                  go_loopw [50, 51, 52, 53, 54, 244] (fun _ _ _ _ _ u244 wg => ∃ n : Nat, n ≤ 2 ∧ u244 = .int .i64 (n : Int) ∧ Blk wg JB #[.slice ma sm.length mc, .slice la q lc] 23 ∧ Below wT.heap.size wT wg) (fun _ _ _ _ _ u244 _ => (2 - intOf u244).toNat)
                  case atStart => exact ⟨0, by omega, rfl, KJ.out, hbJ⟩
                  case round =>
                    as_aux_lemma =>
                    obtain ⟨wg, hren⟩ : ∃ z, z = wr := ⟨_, rfl⟩
                    subst hren
                    obtain ⟨n, hn, rfl, kj, hBg⟩ := hrel
                    by_cases hn2 : n < 2
                    · have n1 : (0 : Int) ≤ (n : Int) ∧ (n : Int) < 2 := by omega
                      have e5 : decide ((n : Int) < 2) = true := decide_eq_true (by omega)
                      have c2 := cells2v kj hn2
                      have KJ2 := Lib.hid kj
                      have hz := HZ5.out n
                      obtain ⟨a', c', e', hzl⟩ := HS5.out n
                      rw [e'] at c2 hz
                      generalize pick2 sm (lo.take q) n = zz at c2 hz hzl
                      have HZZ := Lib.hid (fun W (hW : Below wT.heap.size wT W) => IntsAt_below hz (hBqT.trans (hW.mono hBqT.size)))
                      clear kj hz e'
                      have z0 := (HE.out _ hBg).cell 0
                      have z1 := (HE.out _ hBg).cell 1
                      have z2 := (HE.out _ hBg).cell 2
                      have z3 := (HE.out _ hBg).cell 3
                      have z4 := (HE.out _ hBg).cell 4
                      have z5 := (HE.out _ hBg).cell 5
                      have z6 := (HE.out _ hBg).cell 6
                      have z7 := (HE.out _ hBg).cell 7
                      have z8 := (HE.out _ hBg).cell 8
                      simp only [List.getElem?_toArray, List.getElem?_cons_zero, List.getElem?_cons_succ] at z0 z1 z2 z3 z4 z5 z6 z7 z8
                      obtain ⟨ga, hga⟩ : ∃ z, sentN lz od.slots zz = z := ⟨_, rfl⟩
                      obtain ⟨gb, hgb⟩ : ∃ z, sentE lz od.slots zz = z := ⟨_, rfl⟩
                      obtain ⟨gc, hgc⟩ : ∃ z, allowB lz zz kk = z := ⟨_, rfl⟩
                      obtain ⟨gd, hgd⟩ : ∃ z, allowB lz zz kp = z := ⟨_, rfl⟩
                      have HG := Lib.hid (And.intro hga (And.intro hgb (And.intro hgc hgd)))
                      clear hga hgb hgc hgd
                      have hq := sent26 _ _ _ od lz zz _ (HO2.out _ hBg) (HL2.out _ hBg) (HZZ.out _ hBg)
                      rw [HG.out.1, HG.out.2.1] at hq
                      go_wp2_with fail
                      refine hq.mono ?_
                      rintro e x1 ⟨rfl, hv⟩
                      clear hq c2 z0 z1 z2 z3 z4 z5 z6 z7 z8
                      have hBx1 := hBg.trans (hv.mono hBg.size)
                      have Bx1 := Lib.hid hv
                      clear hv
                      have z0 := (HE.out _ hBx1).cell 0
                      have z1 := (HE.out _ hBx1).cell 1
                      have z2 := (HE.out _ hBx1).cell 2
                      have z3 := (HE.out _ hBx1).cell 3
                      have z4 := (HE.out _ hBx1).cell 4
                      have z5 := (HE.out _ hBx1).cell 5
                      have z6 := (HE.out _ hBx1).cell 6
                      have z7 := (HE.out _ hBx1).cell 7
                      have z8 := (HE.out _ hBx1).cell 8
                      simp only [List.getElem?_toArray, List.getElem?_cons_zero, List.getElem?_cons_succ] at z0 z1 z2 z3 z4 z5 z6 z7 z8

                      have hq := sent27 _ _ _ od lz zz _ (HO2.out _ hBx1) (HL2.out _ hBx1) (HZZ.out _ hBx1)
                      rw [HG.out.1, HG.out.2.1] at hq
                      go_wp2_with fail
                      refine hq.mono ?_
                      rintro e x2 ⟨rfl, hv⟩
                      clear hq z0 z1 z2 z3 z4 z5 z6 z7 z8
                      have hBx2 := hBx1.trans (hv.mono hBx1.size)
                      have Bx2 := Lib.hid hv
                      clear hv
                      have z0 := (HE.out _ hBx2).cell 0
                      have z1 := (HE.out _ hBx2).cell 1
                      have z2 := (HE.out _ hBx2).cell 2
                      have z3 := (HE.out _ hBx2).cell 3
                      have z4 := (HE.out _ hBx2).cell 4
                      have z5 := (HE.out _ hBx2).cell 5
                      have z6 := (HE.out _ hBx2).cell 6
                      have z7 := (HE.out _ hBx2).cell 7
                      have z8 := (HE.out _ hBx2).cell 8
                      simp only [List.getElem?_toArray, List.getElem?_cons_zero, List.getElem?_cons_succ] at z0 z1 z2 z3 z4 z5 z6 z7 z8

                      have q0 : (ga != ga) = false := bne_self_eq_false _
                      have q1 : (gb != gb) = false := bne_self_eq_false _
                      have q2' : (gc != gc) = false := bne_self_eq_false _
                      have q3 : (gd != gd) = false := bne_self_eq_false _
                      clear z0 z1 z2 z3 z4 z5 z6 z7 z8
                      have hq := allowed28 _ _ lz zz kk _ (HL2.out _ hBx2) (HZZ.out _ hBx2) hzl
                      rw [HG.out.2.2.1] at hq
                      go_wp2_with fail
                      refine hq.mono ?_
                      rintro e x3 ⟨rfl, hv⟩
                      clear hq
                      have hBx3 := hBx2.trans (hv.mono hBx2.size)
                      have Bx3 := Lib.hid hv
                      clear hv
                      have hq := allowed29 _ _ lz zz kk _ (HL2.out _ hBx3) (HZZ.out _ hBx3) hzl
                      rw [HG.out.2.2.1] at hq
                      go_wp2_with fail
                      refine hq.mono ?_
                      rintro e x4 ⟨rfl, hv⟩
                      clear hq
                      have hBx4 := hBx3.trans (hv.mono hBx3.size)
                      have Bx4 := Lib.hid hv
                      clear hv
                      go_wp2_with fail
                      refine (HP13.out _).mono ?_
                      rintro e xp ⟨rfl, rfl⟩
                      have hq := allowed28 _ _ lz zz kp _ (HL2.out _ hBx4) (HZZ.out _ hBx4) hzl
                      rw [HG.out.2.2.2] at hq
                      go_wp2_with fail
                      refine hq.mono ?_
                      rintro e x5 ⟨rfl, hv⟩
                      clear hq
                      have hBx5 := hBx4.trans (hv.mono hBx4.size)
                      have Bx5 := Lib.hid hv
                      clear hv
                      go_wp2_with fail
                      refine (HP13.out _).mono ?_
                      rintro e xp ⟨rfl, rfl⟩
                      have hq := allowed29 _ _ lz zz kp _ (HL2.out _ hBx5) (HZZ.out _ hBx5) hzl
                      rw [HG.out.2.2.2] at hq
                      go_wp2_with fail
                      refine hq.mono ?_
                      rintro e x6 ⟨rfl, hv⟩
                      clear hq
                      have hBx6 := hBx5.trans (hv.mono hBx5.size)
                      have Bx6 := Lib.hid hv
                      clear hv
                      have ki := KJ2.out
                      have w0 := ki
                      have w1 := w0.below Bx1.out w0.lt
                      have w2 := w1.below Bx2.out w1.lt
                      have w3 := w2.below Bx3.out w2.lt
                      have w4 := w3.below Bx4.out w3.lt
                      have w5 := w4.below Bx5.out w4.lt
                      have w6 := w5.below Bx6.out w5.lt
                      have KI3 := Lib.hid w6
                      clear w0 w1 w2 w3 w4 w5 w6
                      clear ki Bx1 Bx2 Bx3 Bx4 Bx5 Bx6
                      go_wp2
                      go_roundw
                      case rel => exact ⟨n + 1, by omega, by go_num, KI3.out, hBx6⟩
                      case measure => simp [intOf]; omega
                    · obtain rfl : n = 2 := by omega
                      clear kj
                      have hBm := hBt2.trans (hBg.mono hBt2.size)
                      go_wp2
                      go_roundw
                      case rel => exact ⟨m + 1, by omega, by go_num, hBm⟩
                      case measure => simp [intOf]; omega
            · obtain rfl : m = 2 := by omega
              have hBm := hBX.trans (hBt.mono hBX.size)
              have kz := KQX.out.below hBt KQX.out.lt
              have KZ9 := Lib.hid kz
              clear kz
              go_wp2
              go_roundw
              case rel => exact ⟨j + 1, by omega, by go_num, KZ9.out, hBm⟩
              case measure => simp [intOf]; omega
        · obtain rfl : j = 2 := by omega
          clear kq
          go_wp2
          go_ret
          exact ⟨rfl, b1r.trans (hBq.mono b1r.size)⟩
end Go.Proofs.Ytmajkagmcdlncaa

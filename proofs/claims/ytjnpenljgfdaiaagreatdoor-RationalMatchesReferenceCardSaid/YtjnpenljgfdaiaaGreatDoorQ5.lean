/- package rational: Compare. -/
import Derived.StillTailTactics
import Derived.ScopeJumps
import Derived.WalkMore
import Derived.Test.YtjnpenljgfdaiaaGreatDoorQ4
namespace Go.Proofs.YtjnpenljgfdaiaaGreatDoor
open Go.RowKit Go.Shelf Lib

theorem S_ne23 {x y : Int} (h : x ≠ y) : ((N3.S x).toList == (N3.S y).toList) = false := beq_eq_false_iff_ne.2 fun k => h (N3.S_inj (Go.WideShapes.bytes_inj (by rw [← ByteArray.toList_eq, ← ByteArray.toList_eq, k])))
theorem S_nz23 {x : Int} (h : x ≠ 0) : ((N3.S x).toList == [48]) = false := by have k := S_ne23 h; rw [S_zero, ByteArray.toList_eq ⟨#[48]⟩] at k; exact k
theorem S_z23 {x : Int} (h : x = 0) : ((N3.S x).toList == [48]) = true := by rw [h, S_zero, ByteArray.toList_eq]; rfl
theorem two_rats (w : World) (an ad bn bd : ByteArray) : ∃ W, (w.alloc (.cells #[.string an, .string ad] 26)).alloc (.cells #[.string bn, .string bd] 26) = W ∧
    BlkT W w.heap.size #[.string an, .string ad] 26 ∧ BlkT W (w.heap.size + 1) #[.string bn, .string bd] 26 ∧ Below w.heap.size w W :=
  ⟨_, rfl, (BlkT.newAt w _ _ rfl).alloc _, BlkT.newAt _ _ _ (by simp), ((Below.refl _ _).alloc (Nat.le_refl _) _).alloc (by simp) _⟩
def cmpR (an ad bn bd : ByteArray) : Int := if (validR an ad && validR bn bd) = true then N3.cmpI (N3.iV an * N3.iV bd) (N3.iV bn * N3.iV ad) else 0
theorem valid_parts {n d : ByteArray} (h : validR n d = true) : N3.okS n = true ∧ N3.okS d = true ∧ 0 < N3.iV d ∧ N3.gcdI (N3.iV n) (N3.iV d) = 1 := by
  unfold validR gcd1 at h
  simp only [Bool.and_eq_true, decide_eq_true_eq] at h
  exact ⟨h.1, h.2.1, h.2.2.1, h.2.2.2⟩
/-- What the loop keeps: two fractions in the two cells, and the sign. -/
def CmpJ (an ad bn bd : ByteArray) (w : World) (ans : Int) (a' : Act) (V : World) : Prop :=
  ∃ (n d m c sg : Int), (Below w.heap.size w V ∧ BlkT V w.heap.size #[.string (N3.S n), .string (N3.S d)] 26 ∧ BlkT V (w.heap.size + 1) #[.string (N3.S m), .string (N3.S c)] 26 ∧
    n.natAbs < N3.lim ∧ d.natAbs < N3.lim ∧ m.natAbs < N3.lim ∧ c.natAbs < N3.lim ∧ 0 < d ∧ 0 < c ∧ (sg = 1 ∨ sg = -1) ∧ sg * N3.cmpI (n * c) (m * d) = ans) ∧
    ∃ (u6 u7 u8 u9 u10 u11 u12 u13 u14 u15 u16 u17 u18 u19 u20 u21 u22 u23 u24 u25 u26 u27 u28 u29 u30 u31 u32 u33 u34 u35 u36 u37 u38 u39 u40 u41 u42 u43 u44 u45 u46 u47 u48 u49 u50 u51 u52 u53 u54 u55 u56 u57 u58 u59 u60 u61 u62 u63 u64 u65 u66 u67 u68 u69 u70 u71 u72 u73 : Value), a' = { tmps := #[ratV an ad, ratV bn bd, .pointer (some ⟨w.heap.size, 0, none⟩), .pointer (some ⟨w.heap.size + 1, 0, none⟩), .int .i64 0, .int .i64 sg, u6, u7, u8, u9, u10, u11, u12, u13, u14, u15, u16, u17, u18, u19, u20, u21, u22, u23, u24, u25, u26, u27, u28, u29, u30, u31, u32, u33, u34, u35, u36, u37, u38, u39, u40, u41, u42, u43, u44, u45, u46, u47, u48, u49, u50, u51, u52, u53, u54, u55, u56, u57, u58, u59, u60, u61, u62, u63, u64, u65, u66, u67, u68, u69, u70, u71, u72, u73], defers := [] }
def cmpMu (w V : World) : Nat := match V.cell? ⟨w.heap.size, 1, none⟩ with
  | some (.string s) => (N3.iV s).toNat
  | _ => 0
theorem cmpMu_eq {w V : World} {n d : Int} (h : BlkT V w.heap.size #[.string (N3.S n), .string (N3.S d)] 26) : cmpMu w V = d.toNat := by
  unfold cmpMu
  rw [h.cell 1]
  show (N3.iV (N3.S d)).toNat = _
  rw [N3.iV_S]
theorem sg_mul {sg z : Int} (h : sg = 1 ∨ sg = -1) (hz : -1 ≤ z ∧ z ≤ 1) : IntKind.i64.wrap (sg * z) = sg * z := by
  rw [IntKind.wrap_i64]; rcases h with rfl | rfl <;> omega
theorem sg_neg {sg : Int} (h : sg = 1 ∨ sg = -1) : IntKind.i64.wrap (-sg) = -sg := by
  rw [IntKind.wrap_i64]; rcases h with rfl | rfl <;> rfl

set_option maxRecDepth 100000 in
set_option maxHeartbeats 8000000 in
theorem compare04_pos (an ad bn bd : ByteArray) (w : World) (s1 : an.size ≤ 1000000) (s2 : ad.size ≤ 1000000) (s3 : bn.size ≤ 1000000) (s4 : bd.size ≤ 1000000) (he : EnvW w) (v1 : validR an ad = true) (v2 : validR bn bd = true) (ans : Int) (hans : N3.cmpI (N3.iV an * N3.iV bd) (N3.iV bn * N3.iV ad) = ans) :
    Calls Tryz.prog 23 #[ratV an ad, ratV bn bd] w fun r w' => r = .returned (.int .i64 ans) ∧ Below w.heap.size w w' := by
  obtain ⟨W, hW, k1, k2, hBW⟩ := two_rats w an ad bn bd
  have HE := Lib.hid he
  have VA := Lib.hid (fun V (hV : EnvW V) => valid04 an ad V (by omega) (by omega) hV)
  have VB := Lib.hid (fun V (hV : EnvW V) => valid04 bn bd V (by omega) (by omega) hV)
  rw [v1] at VA
  rw [v2] at VB
  obtain ⟨o1, o2, pd0, -⟩ := valid_parts v1
  obtain ⟨o3, o4, pc0, -⟩ := valid_parts v2
  have x0 := k1.cell 0
  have x1 := k1.cell 1
  have y0 := k2.cell 0
  have y1 := k2.cell 1
  simp only [List.getElem?_toArray, List.getElem?_cons_succ, List.getElem?_cons_zero] at x0 x1 y0 y1
  clear v1 v2 he
  go_enter Tryz.func23, Tryz.ntmps23
  go_wp2
  refine wp_scope_jumps 0 (CmpJ an ad bn bd w ans) (fun _ V => cmpMu w V) rfl ?_ ?_
  · go_wp2_with (simp only [hW])
    refine (VA.out _ (HE.out.below hBW)).mono ?_
    rintro r V1 ⟨rfl, hb1⟩
    have hB1 := hBW.trans (hb1.mono hBW.size)
    have l1 := BlkT.keep k1 hb1
    have l2 := BlkT.keep k2 hb1
    clear x0 x1 y0 y1
    have y0 := l2.cell 0
    have y1 := l2.cell 1
    simp only [List.getElem?_toArray, List.getElem?_cons_succ, List.getElem?_cons_zero] at y0 y1
    go_wp2_with fail
    refine (VB.out _ (HE.out.below hB1)).mono ?_
    rintro r V ⟨rfl, hb2⟩
    have hB := hB1.trans (hb2.mono hB1.size)
    have l1 := BlkT.keep l1 hb2
    have l2 := BlkT.keep l2 hb2
    clear y0 y1 hb1 hb2 hB1 hBW k1 k2 hW
    go_wp2_with fail
    go_step3
    rw [← N3.S_iV o1, ← N3.S_iV o2] at l1
    rw [← N3.S_iV o3, ← N3.S_iV o4] at l2
    have bn1 := N3.iV_lim o1
    have bd1 := N3.iV_lim o2
    have bm1 := N3.iV_lim o3
    have bc1 := N3.iV_lim o4
    have hans2 := hans
    generalize N3.iV an = n at *
    generalize N3.iV ad = d at *
    generalize N3.iV bn = m at *
    generalize N3.iV bd = c at *
    have hsg : (1 : Int) = 1 ∨ (1 : Int) = -1 := .inl rfl
    have HI : Hid (1 * N3.cmpI (n * c) (m * d) = ans) := Lib.hid (by rw [Int.one_mul]; exact hans2)
    have pd := pd0
    have pc := pc0
    clear hans hans2 pd0 pc0 o1 o2 o3 o4
    have D1 := Lib.hid (fun V (hV : EnvW V) => div_s bn1 bd1 (by omega : d ≠ 0) V hV)
    have D2 := Lib.hid (fun V (hV : EnvW V) => div_s bm1 bc1 (by omega : c ≠ 0) V hV)
    have bq1 : (n / d).natAbs < N3.lim := Nat.lt_of_le_of_lt (N3.div_natAbs_le n d) bn1
    have bq2 : (m / c).natAbs < N3.lim := Nat.lt_of_le_of_lt (N3.div_natAbs_le m c) bm1
    have CM := Lib.hid (fun V => compare_s bq1 bq2 V)
    have LB1 := Lib.hid l1
    have LB2 := Lib.hid l2
    have hzb := N3.cmpI_bd (n / d) (m / c)
    have hsz := sg_mul hsg hzb
    have hsz2 : IntKind.i64.wrap (N3.cmpI (n / d) (m / c)) = N3.cmpI (n / d) (m / c) := by rw [IntKind.wrap_i64]; omega
    have hsn := sg_neg hsg
    have HP := Lib.hid (And.intro pd (And.intro pc hsg))
    have r0 := Int.emod_nonneg n (show d ≠ 0 by omega)
    have r1 := Int.emod_lt_of_pos n pd
    have s0 := Int.emod_nonneg m (show c ≠ 0 by omega)
    have s1' := Int.emod_lt_of_pos m pc
    have x0 := l1.cell 0
    have x1 := l1.cell 1
    have y0 := l2.cell 0
    have y1 := l2.cell 1
    simp only [List.getElem?_toArray, List.getElem?_cons_succ, List.getElem?_cons_zero] at x0 x1 y0 y1
    by_cases hw : n / d = m / c
    · have HR := Lib.hid (N3.cf_rest (n := n) (d := d) (m := m) (c := c) hw)
      have hz0 : N3.cmpI (n / d) (m / c) = 0 := (N3.cmpI_eq _ _).2 hw
      rw [hz0] at CM
      have HB := Lib.hid (And.intro bd1 bc1)
      clear hzb hsz hsz2 hw hz0 bn1 bm1 bd1 bc1 bq1 bq2 l1 l2 pd pc hsg
      generalize n % d = r at *
      generalize m % c = s at *
      generalize N3.S (n / d) = sq1 at *
      generalize N3.S (m / c) = sq2 at *
      by_cases hr0 : r = 0
      · have hzr := S_z23 hr0
        by_cases hs0 : s = 0
        · have hzs := S_z23 hs0
          have HF : Hid ((0 : Int) = ans) := Lib.hid (by rw [← HI.out, HR.out, hr0, hs0, Int.zero_mul, Int.zero_mul]; show 0 = 1 * 0; omega)
          clear hr0 hs0 r0 r1 s0 s1'
          go_wp2_with fail
          refine (D1.out _ (HE.out.below hB)).mono ?_
          rintro r' V1 ⟨rfl, hb1⟩
          have hB1 := hB.trans (hb1.mono hB.size)
          have l1 := BlkT.keep LB1.out hb1
          have l2 := BlkT.keep LB2.out hb1
          clear x0 x1 y0 y1
          have y0 := l2.cell 0
          have y1 := l2.cell 1
          simp only [List.getElem?_toArray, List.getElem?_cons_succ, List.getElem?_cons_zero] at y0 y1
          go_wp2_with fail
          refine (D2.out _ (HE.out.below hB1)).mono ?_
          rintro r' V2 ⟨rfl, hb2⟩
          have hB2 := hB1.trans (hb2.mono hB1.size)
          have l1 := BlkT.keep l1 hb2
          have l2 := BlkT.keep l2 hb2
          clear y0 y1
          go_wp2_with fail
          refine (CM.out _).mono ?_
          rintro r' V3 ⟨rfl, hb3⟩
          have hB3 := hB2.trans (hb3.mono hB2.size)
          have l1 := BlkT.keep l1 hb3
          have l2 := BlkT.keep l2 hb3
          have x0 := l1.cell 0
          have x1 := l1.cell 1
          have y0 := l2.cell 0
          have y1 := l2.cell 1
          simp only [List.getElem?_toArray, List.getElem?_cons_succ, List.getElem?_cons_zero] at x0 x1 y0 y1
          have K1 := Lib.hid l1
          have K2 := Lib.hid l2
          clear l1 l2
          go_wp2_with fail
          (try simp only [Exit.jump])
          (try rw [Exit.noGoto_ret])
          go_ret
          exact ⟨by first | (rw [← HF.out]; done) | (rw [← HF.out]; rfl) | (rw [← HF.out, Int.one_mul]; done) | (rw [← HF.out, Int.one_mul]; rfl), hB3⟩
        · have hzs := S_nz23 hs0
          have HF : Hid ((-1) = ans) := Lib.hid (by
            have hpos : 0 < s * d := Int.mul_pos (by omega) HP.out.1
            rw [← HI.out, HR.out, hr0, Int.zero_mul]
            have : N3.cmpI 0 (s * d) = -1 := by unfold N3.cmpI; rw [if_pos hpos]
            rw [this]; omega)
          clear hr0 hs0 r0 r1 s0 s1'
          go_wp2_with fail
          refine (D1.out _ (HE.out.below hB)).mono ?_
          rintro r' V1 ⟨rfl, hb1⟩
          have hB1 := hB.trans (hb1.mono hB.size)
          have l1 := BlkT.keep LB1.out hb1
          have l2 := BlkT.keep LB2.out hb1
          clear x0 x1 y0 y1
          have y0 := l2.cell 0
          have y1 := l2.cell 1
          simp only [List.getElem?_toArray, List.getElem?_cons_succ, List.getElem?_cons_zero] at y0 y1
          go_wp2_with fail
          refine (D2.out _ (HE.out.below hB1)).mono ?_
          rintro r' V2 ⟨rfl, hb2⟩
          have hB2 := hB1.trans (hb2.mono hB1.size)
          have l1 := BlkT.keep l1 hb2
          have l2 := BlkT.keep l2 hb2
          clear y0 y1
          go_wp2_with fail
          refine (CM.out _).mono ?_
          rintro r' V3 ⟨rfl, hb3⟩
          have hB3 := hB2.trans (hb3.mono hB2.size)
          have l1 := BlkT.keep l1 hb3
          have l2 := BlkT.keep l2 hb3
          have x0 := l1.cell 0
          have x1 := l1.cell 1
          have y0 := l2.cell 0
          have y1 := l2.cell 1
          simp only [List.getElem?_toArray, List.getElem?_cons_succ, List.getElem?_cons_zero] at x0 x1 y0 y1
          have K1 := Lib.hid l1
          have K2 := Lib.hid l2
          clear l1 l2
          go_wp2_with fail
          (try simp only [Exit.jump])
          (try rw [Exit.noGoto_ret])
          go_ret
          exact ⟨by first | (rw [← HF.out]; done) | (rw [← HF.out]; rfl) | (rw [← HF.out, Int.one_mul]; done) | (rw [← HF.out, Int.one_mul]; rfl), hB3⟩
      · have hzr := S_nz23 hr0
        by_cases hs0 : s = 0
        · have hzs := S_z23 hs0
          have HF : Hid ((1 : Int) = ans) := Lib.hid (by
            have hpos : 0 < r * c := Int.mul_pos (by omega) HP.out.2.1
            rw [← HI.out, HR.out, hs0, Int.zero_mul]
            have : N3.cmpI (r * c) 0 = 1 := by unfold N3.cmpI; rw [if_neg (by omega), if_pos hpos]
            rw [this]; omega)
          clear hr0 hs0 r0 r1 s0 s1'
          go_wp2_with fail
          refine (D1.out _ (HE.out.below hB)).mono ?_
          rintro r' V1 ⟨rfl, hb1⟩
          have hB1 := hB.trans (hb1.mono hB.size)
          have l1 := BlkT.keep LB1.out hb1
          have l2 := BlkT.keep LB2.out hb1
          clear x0 x1 y0 y1
          have y0 := l2.cell 0
          have y1 := l2.cell 1
          simp only [List.getElem?_toArray, List.getElem?_cons_succ, List.getElem?_cons_zero] at y0 y1
          go_wp2_with fail
          refine (D2.out _ (HE.out.below hB1)).mono ?_
          rintro r' V2 ⟨rfl, hb2⟩
          have hB2 := hB1.trans (hb2.mono hB1.size)
          have l1 := BlkT.keep l1 hb2
          have l2 := BlkT.keep l2 hb2
          clear y0 y1
          go_wp2_with fail
          refine (CM.out _).mono ?_
          rintro r' V3 ⟨rfl, hb3⟩
          have hB3 := hB2.trans (hb3.mono hB2.size)
          have l1 := BlkT.keep l1 hb3
          have l2 := BlkT.keep l2 hb3
          have x0 := l1.cell 0
          have x1 := l1.cell 1
          have y0 := l2.cell 0
          have y1 := l2.cell 1
          simp only [List.getElem?_toArray, List.getElem?_cons_succ, List.getElem?_cons_zero] at x0 x1 y0 y1
          have K1 := Lib.hid l1
          have K2 := Lib.hid l2
          clear l1 l2
          go_wp2_with fail
          (try simp only [Exit.jump])
          (try rw [Exit.noGoto_ret])
          go_ret
          exact ⟨by first | (rw [← HF.out]; done) | (rw [← HF.out]; rfl) | (rw [← HF.out, Int.one_mul]; done) | (rw [← HF.out, Int.one_mul]; rfl), hB3⟩
        · have hzs := S_nz23 hs0
          have HF : Hid ((-1) * N3.cmpI (d * s) (c * r) = ans) := Lib.hid (by
            rw [N3.cf_turn r d s c, ← HI.out, HR.out, Int.neg_mul_neg])
          have HQ := Lib.hid (show 0 < r ∧ r < d ∧ 0 < s ∧ s < c from ⟨by omega, by omega, by omega, by omega⟩)
          clear hr0 hs0 r0 r1 s0 s1'
          go_wp2_with fail
          refine (D1.out _ (HE.out.below hB)).mono ?_
          rintro r' V1 ⟨rfl, hb1⟩
          have hB1 := hB.trans (hb1.mono hB.size)
          have l1 := BlkT.keep LB1.out hb1
          have l2 := BlkT.keep LB2.out hb1
          clear x0 x1 y0 y1
          have y0 := l2.cell 0
          have y1 := l2.cell 1
          simp only [List.getElem?_toArray, List.getElem?_cons_succ, List.getElem?_cons_zero] at y0 y1
          go_wp2_with fail
          refine (D2.out _ (HE.out.below hB1)).mono ?_
          rintro r' V2 ⟨rfl, hb2⟩
          have hB2 := hB1.trans (hb2.mono hB1.size)
          have l1 := BlkT.keep l1 hb2
          have l2 := BlkT.keep l2 hb2
          clear y0 y1
          go_wp2_with fail
          refine (CM.out _).mono ?_
          rintro r' V3 ⟨rfl, hb3⟩
          have hB3 := hB2.trans (hb3.mono hB2.size)
          have l1 := BlkT.keep l1 hb3
          have l2 := BlkT.keep l2 hb3
          have x0 := l1.cell 0
          have x1 := l1.cell 1
          have y0 := l2.cell 0
          have y1 := l2.cell 1
          simp only [List.getElem?_toArray, List.getElem?_cons_succ, List.getElem?_cons_zero] at x0 x1 y0 y1
          have K1 := Lib.hid l1
          have K2 := Lib.hid l2
          clear l1 l2
          go_wp2_with fail
          have KD1 : BlkT V3.drew w.heap.size #[.string (N3.S n), .string (N3.S d)] 26 := K1.out
          have KD2 : BlkT V3.drew (w.heap.size + 1) #[.string (N3.S m), .string (N3.S c)] 26 := K2.out
          have hBd : Below w.heap.size w V3.drew := hB3.drew
          have f0 := K1.out.frozen 0
          have f1 := K1.out.frozen 1
          have g0 := K2.out.frozen 0
          have g1 := K2.out.frozen 1
          clear K1 K2
          have K1 := Lib.hid KD1
          have K2 := Lib.hid KD2
          have hne12 : w.heap.size ≠ w.heap.size + 1 := by omega
          clear KD1 KD2
          go_region
          (try go_wp2_with fail)
          go_step3
          exact ⟨rfl, ⟨d, r, c, s, (-1),  ⟨(((hBd.setCell (by simp) _).setCell (by simp) _).setCell (by simp) _).setCell (by simp) _, (((K1.out.set 0 _).set 1 _).other _ (by simp)).other _ (by simp), ((((K2.out.other _ (by simp)).other _ (by simp)).set 0 _).set 1 _), HB.out.1, by have := HQ.out; have := HB.out.1; omega, HB.out.2, by have := HQ.out; have := HB.out.2; omega, HQ.out.1, HQ.out.2.2.1, by have := HP.out.2.2; omega, HF.out⟩, _, _, _, _, _, _, _, _, _, _, _, _, _, _, _, _, _, _, _, _, _, _, _, _, _, _, _, _, _, _, _, _, _, _, _, _, _, _, _, _, _, _, _, _, _, _, _, _, _, _, _, _, _, _, _, _, _, _, _, _, _, _, _, _, _, _, _, _, rfl⟩⟩
    · have hzn : N3.cmpI (n / d) (m / c) ≠ 0 := fun e => hw ((N3.cmpI_eq _ _).1 e)
      have HF : Hid (1 * N3.cmpI (n / d) (m / c) = ans) := Lib.hid (by rw [← HI.out, N3.cf_whole pd pc hw])
      clear hzb hw bn1 bm1 bd1 bc1 bq1 bq2 l1 l2 pd pc hsg r0 r1 s0 s1'
      have hzn2 : (N3.cmpI (n / d) (m / c) != 0) = true := bne_iff_ne.2 hzn
      clear hzn
      generalize N3.cmpI (n / d) (m / c) = z at *
      go_wp2_with fail
      refine (D1.out _ (HE.out.below hB)).mono ?_
      rintro r' V1 ⟨rfl, hb1⟩
      have hB1 := hB.trans (hb1.mono hB.size)
      have l1 := BlkT.keep LB1.out hb1
      have l2 := BlkT.keep LB2.out hb1
      clear x0 x1 y0 y1
      have y0 := l2.cell 0
      have y1 := l2.cell 1
      simp only [List.getElem?_toArray, List.getElem?_cons_succ, List.getElem?_cons_zero] at y0 y1
      go_wp2_with fail
      refine (D2.out _ (HE.out.below hB1)).mono ?_
      rintro r' V2 ⟨rfl, hb2⟩
      have hB2 := hB1.trans (hb2.mono hB1.size)
      have l1 := BlkT.keep l1 hb2
      have l2 := BlkT.keep l2 hb2
      clear y0 y1
      go_wp2_with fail
      refine (CM.out _).mono ?_
      rintro r' V3 ⟨rfl, hb3⟩
      have hB3 := hB2.trans (hb3.mono hB2.size)
      have l1 := BlkT.keep l1 hb3
      have l2 := BlkT.keep l2 hb3
      have x0 := l1.cell 0
      have x1 := l1.cell 1
      have y0 := l2.cell 0
      have y1 := l2.cell 1
      simp only [List.getElem?_toArray, List.getElem?_cons_succ, List.getElem?_cons_zero] at x0 x1 y0 y1
      have K1 := Lib.hid l1
      have K2 := Lib.hid l2
      clear l1 l2
      go_wp2_with fail
      (try simp only [Exit.jump])
      (try rw [Exit.noGoto_ret])
      go_ret
      exact ⟨by first | (rw [← HF.out]; done) | (rw [← HF.out]; rfl) | (rw [← HF.out, Int.one_mul]; done) | (rw [← HF.out, Int.one_mul]; rfl), hB3⟩
  · rintro a' V ⟨n, d, m, c, sg, ⟨hB, l1, l2, bn1, bd1, bm1, bc1, pd, pc, hsg, hI⟩, u6, u7, u8, u9, u10, u11, u12, u13, u14, u15, u16, u17, u18, u19, u20, u21, u22, u23, u24, u25, u26, u27, u28, u29, u30, u31, u32, u33, u34, u35, u36, u37, u38, u39, u40, u41, u42, u43, u44, u45, u46, u47, u48, u49, u50, u51, u52, u53, u54, u55, u56, u57, u58, u59, u60, u61, u62, u63, u64, u65, u66, u67, u68, u69, u70, u71, u72, u73, rfl⟩
    have HI := Lib.hid hI
    have HMU := Lib.hid (cmpMu_eq l1)
    clear hI hans x0 x1 y0 y1 k1 k2 hW hBW o1 o2 o3 o4 pd0 pc0
    have D1 := Lib.hid (fun V (hV : EnvW V) => div_s bn1 bd1 (by omega : d ≠ 0) V hV)
    have D2 := Lib.hid (fun V (hV : EnvW V) => div_s bm1 bc1 (by omega : c ≠ 0) V hV)
    have bq1 : (n / d).natAbs < N3.lim := Nat.lt_of_le_of_lt (N3.div_natAbs_le n d) bn1
    have bq2 : (m / c).natAbs < N3.lim := Nat.lt_of_le_of_lt (N3.div_natAbs_le m c) bm1
    have CM := Lib.hid (fun V => compare_s bq1 bq2 V)
    have LB1 := Lib.hid l1
    have LB2 := Lib.hid l2
    have hzb := N3.cmpI_bd (n / d) (m / c)
    have hsz := sg_mul hsg hzb
    have hsz2 : IntKind.i64.wrap (N3.cmpI (n / d) (m / c)) = N3.cmpI (n / d) (m / c) := by rw [IntKind.wrap_i64]; omega
    have hsn := sg_neg hsg
    have HP := Lib.hid (And.intro pd (And.intro pc hsg))
    have r0 := Int.emod_nonneg n (show d ≠ 0 by omega)
    have r1 := Int.emod_lt_of_pos n pd
    have s0 := Int.emod_nonneg m (show c ≠ 0 by omega)
    have s1' := Int.emod_lt_of_pos m pc
    have x0 := l1.cell 0
    have x1 := l1.cell 1
    have y0 := l2.cell 0
    have y1 := l2.cell 1
    simp only [List.getElem?_toArray, List.getElem?_cons_succ, List.getElem?_cons_zero] at x0 x1 y0 y1
    by_cases hw : n / d = m / c
    · have HR := Lib.hid (N3.cf_rest (n := n) (d := d) (m := m) (c := c) hw)
      have hz0 : N3.cmpI (n / d) (m / c) = 0 := (N3.cmpI_eq _ _).2 hw
      rw [hz0] at CM
      have HB := Lib.hid (And.intro bd1 bc1)
      clear hzb hsz hsz2 hw hz0 bn1 bm1 bd1 bc1 bq1 bq2 l1 l2 pd pc hsg
      generalize n % d = r at *
      generalize m % c = s at *
      generalize N3.S (n / d) = sq1 at *
      generalize N3.S (m / c) = sq2 at *
      by_cases hr0 : r = 0
      · have hzr := S_z23 hr0
        by_cases hs0 : s = 0
        · have hzs := S_z23 hs0
          have HF : Hid ((0 : Int) = ans) := Lib.hid (by rw [← HI.out, HR.out, hr0, hs0, Int.zero_mul, Int.zero_mul]; show 0 = sg * 0; omega)
          clear hr0 hs0 r0 r1 s0 s1'
          go_wp2_with fail
          refine (D1.out _ (HE.out.below hB)).mono ?_
          rintro r' V1 ⟨rfl, hb1⟩
          have hB1 := hB.trans (hb1.mono hB.size)
          have l1 := BlkT.keep LB1.out hb1
          have l2 := BlkT.keep LB2.out hb1
          clear x0 x1 y0 y1
          have y0 := l2.cell 0
          have y1 := l2.cell 1
          simp only [List.getElem?_toArray, List.getElem?_cons_succ, List.getElem?_cons_zero] at y0 y1
          go_wp2_with fail
          refine (D2.out _ (HE.out.below hB1)).mono ?_
          rintro r' V2 ⟨rfl, hb2⟩
          have hB2 := hB1.trans (hb2.mono hB1.size)
          have l1 := BlkT.keep l1 hb2
          have l2 := BlkT.keep l2 hb2
          clear y0 y1
          go_wp2_with fail
          refine (CM.out _).mono ?_
          rintro r' V3 ⟨rfl, hb3⟩
          have hB3 := hB2.trans (hb3.mono hB2.size)
          have l1 := BlkT.keep l1 hb3
          have l2 := BlkT.keep l2 hb3
          have x0 := l1.cell 0
          have x1 := l1.cell 1
          have y0 := l2.cell 0
          have y1 := l2.cell 1
          simp only [List.getElem?_toArray, List.getElem?_cons_succ, List.getElem?_cons_zero] at x0 x1 y0 y1
          have K1 := Lib.hid l1
          have K2 := Lib.hid l2
          clear l1 l2
          go_wp2_with fail
          (try simp only [Exit.jump])
          (try rw [Exit.noGoto_ret])
          go_ret
          exact ⟨by first | (rw [← HF.out]; done) | (rw [← HF.out]; rfl) | (rw [← HF.out, Int.one_mul]; done) | (rw [← HF.out, Int.one_mul]; rfl), hB3⟩
        · have hzs := S_nz23 hs0
          have HF : Hid (-sg = ans) := Lib.hid (by
            have hpos : 0 < s * d := Int.mul_pos (by omega) HP.out.1
            rw [← HI.out, HR.out, hr0, Int.zero_mul]
            have : N3.cmpI 0 (s * d) = -1 := by unfold N3.cmpI; rw [if_pos hpos]
            rw [this]; omega)
          clear hr0 hs0 r0 r1 s0 s1'
          go_wp2_with fail
          refine (D1.out _ (HE.out.below hB)).mono ?_
          rintro r' V1 ⟨rfl, hb1⟩
          have hB1 := hB.trans (hb1.mono hB.size)
          have l1 := BlkT.keep LB1.out hb1
          have l2 := BlkT.keep LB2.out hb1
          clear x0 x1 y0 y1
          have y0 := l2.cell 0
          have y1 := l2.cell 1
          simp only [List.getElem?_toArray, List.getElem?_cons_succ, List.getElem?_cons_zero] at y0 y1
          go_wp2_with fail
          refine (D2.out _ (HE.out.below hB1)).mono ?_
          rintro r' V2 ⟨rfl, hb2⟩
          have hB2 := hB1.trans (hb2.mono hB1.size)
          have l1 := BlkT.keep l1 hb2
          have l2 := BlkT.keep l2 hb2
          clear y0 y1
          go_wp2_with fail
          refine (CM.out _).mono ?_
          rintro r' V3 ⟨rfl, hb3⟩
          have hB3 := hB2.trans (hb3.mono hB2.size)
          have l1 := BlkT.keep l1 hb3
          have l2 := BlkT.keep l2 hb3
          have x0 := l1.cell 0
          have x1 := l1.cell 1
          have y0 := l2.cell 0
          have y1 := l2.cell 1
          simp only [List.getElem?_toArray, List.getElem?_cons_succ, List.getElem?_cons_zero] at x0 x1 y0 y1
          have K1 := Lib.hid l1
          have K2 := Lib.hid l2
          clear l1 l2
          go_wp2_with fail
          (try simp only [Exit.jump])
          (try rw [Exit.noGoto_ret])
          go_ret
          exact ⟨by first | (rw [← HF.out]; done) | (rw [← HF.out]; rfl) | (rw [← HF.out, Int.one_mul]; done) | (rw [← HF.out, Int.one_mul]; rfl), hB3⟩
      · have hzr := S_nz23 hr0
        by_cases hs0 : s = 0
        · have hzs := S_z23 hs0
          have HF : Hid (sg = ans) := Lib.hid (by
            have hpos : 0 < r * c := Int.mul_pos (by omega) HP.out.2.1
            rw [← HI.out, HR.out, hs0, Int.zero_mul]
            have : N3.cmpI (r * c) 0 = 1 := by unfold N3.cmpI; rw [if_neg (by omega), if_pos hpos]
            rw [this]; omega)
          clear hr0 hs0 r0 r1 s0 s1'
          go_wp2_with fail
          refine (D1.out _ (HE.out.below hB)).mono ?_
          rintro r' V1 ⟨rfl, hb1⟩
          have hB1 := hB.trans (hb1.mono hB.size)
          have l1 := BlkT.keep LB1.out hb1
          have l2 := BlkT.keep LB2.out hb1
          clear x0 x1 y0 y1
          have y0 := l2.cell 0
          have y1 := l2.cell 1
          simp only [List.getElem?_toArray, List.getElem?_cons_succ, List.getElem?_cons_zero] at y0 y1
          go_wp2_with fail
          refine (D2.out _ (HE.out.below hB1)).mono ?_
          rintro r' V2 ⟨rfl, hb2⟩
          have hB2 := hB1.trans (hb2.mono hB1.size)
          have l1 := BlkT.keep l1 hb2
          have l2 := BlkT.keep l2 hb2
          clear y0 y1
          go_wp2_with fail
          refine (CM.out _).mono ?_
          rintro r' V3 ⟨rfl, hb3⟩
          have hB3 := hB2.trans (hb3.mono hB2.size)
          have l1 := BlkT.keep l1 hb3
          have l2 := BlkT.keep l2 hb3
          have x0 := l1.cell 0
          have x1 := l1.cell 1
          have y0 := l2.cell 0
          have y1 := l2.cell 1
          simp only [List.getElem?_toArray, List.getElem?_cons_succ, List.getElem?_cons_zero] at x0 x1 y0 y1
          have K1 := Lib.hid l1
          have K2 := Lib.hid l2
          clear l1 l2
          go_wp2_with fail
          (try simp only [Exit.jump])
          (try rw [Exit.noGoto_ret])
          go_ret
          exact ⟨by first | (rw [← HF.out]; done) | (rw [← HF.out]; rfl) | (rw [← HF.out, Int.one_mul]; done) | (rw [← HF.out, Int.one_mul]; rfl), hB3⟩
        · have hzs := S_nz23 hs0
          have HF : Hid (-sg * N3.cmpI (d * s) (c * r) = ans) := Lib.hid (by
            rw [N3.cf_turn r d s c, ← HI.out, HR.out, Int.neg_mul_neg])
          have HQ := Lib.hid (show 0 < r ∧ r < d ∧ 0 < s ∧ s < c from ⟨by omega, by omega, by omega, by omega⟩)
          clear hr0 hs0 r0 r1 s0 s1'
          go_wp2_with fail
          refine (D1.out _ (HE.out.below hB)).mono ?_
          rintro r' V1 ⟨rfl, hb1⟩
          have hB1 := hB.trans (hb1.mono hB.size)
          have l1 := BlkT.keep LB1.out hb1
          have l2 := BlkT.keep LB2.out hb1
          clear x0 x1 y0 y1
          have y0 := l2.cell 0
          have y1 := l2.cell 1
          simp only [List.getElem?_toArray, List.getElem?_cons_succ, List.getElem?_cons_zero] at y0 y1
          go_wp2_with fail
          refine (D2.out _ (HE.out.below hB1)).mono ?_
          rintro r' V2 ⟨rfl, hb2⟩
          have hB2 := hB1.trans (hb2.mono hB1.size)
          have l1 := BlkT.keep l1 hb2
          have l2 := BlkT.keep l2 hb2
          clear y0 y1
          go_wp2_with fail
          refine (CM.out _).mono ?_
          rintro r' V3 ⟨rfl, hb3⟩
          have hB3 := hB2.trans (hb3.mono hB2.size)
          have l1 := BlkT.keep l1 hb3
          have l2 := BlkT.keep l2 hb3
          have x0 := l1.cell 0
          have x1 := l1.cell 1
          have y0 := l2.cell 0
          have y1 := l2.cell 1
          simp only [List.getElem?_toArray, List.getElem?_cons_succ, List.getElem?_cons_zero] at x0 x1 y0 y1
          have K1 := Lib.hid l1
          have K2 := Lib.hid l2
          clear l1 l2
          go_wp2_with fail
          have KD1 : BlkT V3.drew w.heap.size #[.string (N3.S n), .string (N3.S d)] 26 := K1.out
          have KD2 : BlkT V3.drew (w.heap.size + 1) #[.string (N3.S m), .string (N3.S c)] 26 := K2.out
          have hBd : Below w.heap.size w V3.drew := hB3.drew
          have f0 := K1.out.frozen 0
          have f1 := K1.out.frozen 1
          have g0 := K2.out.frozen 0
          have g1 := K2.out.frozen 1
          clear K1 K2
          have K1 := Lib.hid KD1
          have K2 := Lib.hid KD2
          have hne12 : w.heap.size ≠ w.heap.size + 1 := by omega
          clear KD1 KD2
          go_region
          (try go_wp2_with fail)
          go_step3
          have hKF : BlkT _ w.heap.size #[.string (N3.S d), .string (N3.S r)] 26 := (((K1.out.set 0 (.string (N3.S d))).set 1 (.string (N3.S r))).other (a := ⟨w.heap.size + 1, 0, none⟩) (.string (N3.S c)) (by simp)).other (a := ⟨w.heap.size + 1, 1, none⟩) (.string (N3.S s)) (by simp)
          refine ⟨rfl, ⟨d, r, c, s, -sg,  ⟨(((hBd.setCell (by simp) _).setCell (by simp) _).setCell (by simp) _).setCell (by simp) _, (((K1.out.set 0 _).set 1 _).other _ (by simp)).other _ (by simp), ((((K2.out.other _ (by simp)).other _ (by simp)).set 0 _).set 1 _), HB.out.1, by have := HQ.out; have := HB.out.1; omega, HB.out.2, by have := HQ.out; have := HB.out.2; omega, HQ.out.1, HQ.out.2.2.1, by have := HP.out.2.2; omega, HF.out⟩, _, _, _, _, _, _, _, _, _, _, _, _, _, _, _, _, _, _, _, _, _, _, _, _, _, _, _, _, _, _, _, _, _, _, _, _, _, _, _, _, _, _, _, _, _, _, _, _, _, _, _, _, _, _, _, _, _, _, _, _, _, _, _, _, _, _, _, _, rfl⟩, ?_⟩
          exact Nat.lt_of_le_of_lt (Nat.le_of_eq (cmpMu_eq (n := d) (d := r) (by exact hKF))) (by rw [HMU.out]; have := HQ.out; omega)
    · have hzn : N3.cmpI (n / d) (m / c) ≠ 0 := fun e => hw ((N3.cmpI_eq _ _).1 e)
      have HF : Hid (sg * N3.cmpI (n / d) (m / c) = ans) := Lib.hid (by rw [← HI.out, N3.cf_whole pd pc hw])
      clear hzb hw bn1 bm1 bd1 bc1 bq1 bq2 l1 l2 pd pc hsg r0 r1 s0 s1'
      have hzn2 : (N3.cmpI (n / d) (m / c) != 0) = true := bne_iff_ne.2 hzn
      clear hzn
      generalize N3.cmpI (n / d) (m / c) = z at *
      go_wp2_with fail
      refine (D1.out _ (HE.out.below hB)).mono ?_
      rintro r' V1 ⟨rfl, hb1⟩
      have hB1 := hB.trans (hb1.mono hB.size)
      have l1 := BlkT.keep LB1.out hb1
      have l2 := BlkT.keep LB2.out hb1
      clear x0 x1 y0 y1
      have y0 := l2.cell 0
      have y1 := l2.cell 1
      simp only [List.getElem?_toArray, List.getElem?_cons_succ, List.getElem?_cons_zero] at y0 y1
      go_wp2_with fail
      refine (D2.out _ (HE.out.below hB1)).mono ?_
      rintro r' V2 ⟨rfl, hb2⟩
      have hB2 := hB1.trans (hb2.mono hB1.size)
      have l1 := BlkT.keep l1 hb2
      have l2 := BlkT.keep l2 hb2
      clear y0 y1
      go_wp2_with fail
      refine (CM.out _).mono ?_
      rintro r' V3 ⟨rfl, hb3⟩
      have hB3 := hB2.trans (hb3.mono hB2.size)
      have l1 := BlkT.keep l1 hb3
      have l2 := BlkT.keep l2 hb3
      have x0 := l1.cell 0
      have x1 := l1.cell 1
      have y0 := l2.cell 0
      have y1 := l2.cell 1
      simp only [List.getElem?_toArray, List.getElem?_cons_succ, List.getElem?_cons_zero] at x0 x1 y0 y1
      have K1 := Lib.hid l1
      have K2 := Lib.hid l2
      clear l1 l2
      go_wp2_with fail
      (try simp only [Exit.jump])
      (try rw [Exit.noGoto_ret])
      go_ret
      exact ⟨by first | (rw [← HF.out]; done) | (rw [← HF.out]; rfl) | (rw [← HF.out, Int.one_mul]; done) | (rw [← HF.out, Int.one_mul]; rfl), hB3⟩
set_option maxRecDepth 100000 in
set_option maxHeartbeats 4000000 in
theorem compare04 (an ad bn bd : ByteArray) (w : World) (s1 : an.size ≤ 1000000) (s2 : ad.size ≤ 1000000) (s3 : bn.size ≤ 1000000) (s4 : bd.size ≤ 1000000) (he : EnvW w) :
    Calls Tryz.prog 23 #[ratV an ad, ratV bn bd] w fun r w' => r = .returned (.int .i64 (cmpR an ad bn bd)) ∧ Below w.heap.size w w' := by
  cases v1 : validR an ad with
  | true =>
    cases v2 : validR bn bd with
    | true =>
      have e : cmpR an ad bn bd = N3.cmpI (N3.iV an * N3.iV bd) (N3.iV bn * N3.iV ad) := by unfold cmpR; rw [v1, v2]; rfl
      rw [e]
      exact compare04_pos an ad bn bd w s1 s2 s3 s4 he v1 v2 _ rfl
    | false =>
      have e : cmpR an ad bn bd = 0 := by unfold cmpR; rw [v1, v2]; rfl
      rw [e]
      obtain ⟨W, hW, k1, k2, hB⟩ := two_rats w an ad bn bd
      have HE := Lib.hid he
      have VA := Lib.hid (fun V (hV : EnvW V) => valid04 an ad V (by omega) (by omega) hV)
      have VB := Lib.hid (fun V (hV : EnvW V) => valid04 bn bd V (by omega) (by omega) hV)
      rw [v1] at VA
      rw [v2] at VB
      have x0 := k1.cell 0
      have x1 := k1.cell 1
      have y0 := k2.cell 0
      have y1 := k2.cell 1
      simp only [List.getElem?_toArray, List.getElem?_cons_succ, List.getElem?_cons_zero] at x0 x1 y0 y1
      clear v1 v2 he e
      go_enter Tryz.func23, Tryz.ntmps23
      go_wp2
      go_step3
      go_wp2_with (simp only [hW])
      refine (VA.out _ (HE.out.below hB)).mono ?_
      rintro r V1 ⟨rfl, hb1⟩
      have hB1 := hB.trans (hb1.mono hB.size)
      have l2 := BlkT.keep k2 hb1
      clear x0 x1 y0 y1
      have y0 := l2.cell 0
      have y1 := l2.cell 1
      simp only [List.getElem?_toArray, List.getElem?_cons_succ, List.getElem?_cons_zero] at y0 y1
      go_wp2_with fail
      refine (VB.out _ (HE.out.below hB1)).mono ?_
      rintro r V ⟨rfl, hb2⟩
      have hB2 := hB1.trans (hb2.mono hB1.size)
      go_wp2
      (try simp only [Exit.noGoto_ret])
      go_ret
      exact ⟨rfl, hB2⟩
  | false =>
    have e : cmpR an ad bn bd = 0 := by unfold cmpR; rw [v1]; rfl
    rw [e]
    obtain ⟨W, hW, k1, k2, hB⟩ := two_rats w an ad bn bd
    have HE := Lib.hid he
    have VA := Lib.hid (fun V (hV : EnvW V) => valid04 an ad V (by omega) (by omega) hV)
    rw [v1] at VA
    have x0 := k1.cell 0
    have x1 := k1.cell 1
    simp only [List.getElem?_toArray, List.getElem?_cons_succ, List.getElem?_cons_zero] at x0 x1
    clear v1 he e
    go_enter Tryz.func23, Tryz.ntmps23
    go_wp2
    go_step3
    go_wp2_with (simp only [hW])
    refine (VA.out _ (HE.out.below hB)).mono ?_
    rintro r V1 ⟨rfl, hb1⟩
    have hB1 := hB.trans (hb1.mono hB.size)
    go_wp2
    (try simp only [Exit.noGoto_ret])
    go_ret
    exact ⟨rfl, hB1⟩
end Go.Proofs.YtjnpenljgfdaiaaGreatDoor

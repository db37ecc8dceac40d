/- The reference's leaf. -/
import Derived.Test.YtblmpmapcdpaiaaK9
namespace Go.Proofs.Ytblmpmapcdpaiaa
open Go.RowKit Lib
attribute [local irreducible] wpStill

theorem leafV_head {rows : List RowD} {n : Nat} {s : StepD} {dc : Dc} (h : headL s = false) : leafV rows n s dc = false := by unfold leafV; rw [h]; rfl
theorem leafV_ok {rows : List RowD} {n : Nat} {s : StepD} {dc : Dc} (h : okW rows.length s.wts = false) : leafV rows n s dc = false := by unfold leafV; rw [h]; simp
/-- What the reference tests of a weight. -/
theorem wtB_bad {R : Nat} {wts : List WtD} {i : Nat} (h : (wts.getD i wt0).row < 0 ∨ (R : Int) ≤ (wts.getD i wt0).row ∨ (wts.getD i wt0).times < 1 ∨ 1000 < (wts.getD i wt0).times ∨ (wts.getD i wt0).row ≤ lastK wts i) (hp : ∀ j, j < i → wtB R wts j = true) : wtB R wts i = false := by
  have hl := lastK_ge i hp
  cases hq : wtB R wts i with
  | false => rfl
  | true =>
    obtain ⟨h1, h2, h3, h4⟩ := wtB_true hq
    omega
theorem wtB_good {R : Nat} {wts : List WtD} {i : Nat} (h1 : lastK wts i < (wts.getD i wt0).row) (h2 : (wts.getD i wt0).row < (R : Int)) (h3 : 1 ≤ (wts.getD i wt0).times) (h4 : (wts.getD i wt0).times ≤ 1000) : wtB R wts i = true := by
  unfold wtB inB
  simp only [Bool.and_eq_true, decide_eq_true_eq]
  omega
set_option maxRecDepth 100000 in
set_option maxHeartbeats 4000000 in
theorem rleaf_any {W : World} {vr vw vd : Value} {rows : List RowD} {s : StepD} {dc : Dc} {n : Nat} (hvr : RowsAt W vr rows) (hw : WtsAt W vw s.wts) (hvd : IntsAt W vd (dcR n dc)) (hr : RowsOK n rows) (hd : DcOK n dc) :
    Calls Try.prog 105 #[vr, .agg #[.int .i64 s.var, .int .i64 s.no, .int .i64 s.yes, vw], vd] W fun e w' => e = .returned (.bool (leafV rows n s dc)) ∧ Below W.heap.size W w' := by
  obtain ⟨ra, rc, rfl, hr1, hr2⟩ := (show SlicesLen vr rows.length from hvr.len)
  obtain ⟨wa, wc, rfl, hw1, hw2⟩ := (show SlicesLen vw s.wts.length from hw.len)
  obtain ⟨da, dcap, rfl, hd1, hd2⟩ := (show SlicesLen vd (dcR n dc).length from hvd.len)
  rw [dcR_len] at hvd hd1 ⊢
  unfold maxLen at hr2 hw2 hd2
  have HVR := Lib.hid hvr
  have HW := Lib.hid hw
  have HVD := Lib.hid hvd
  have HR := Lib.hid hr
  have HD := Lib.hid hd
  have HHB : headL s = false → leafV rows n s dc = false := leafV_head
  have HH := Lib.hid HHB
  have HOKB := Lib.hid (show okW rows.length s.wts = false → leafV rows n s dc = false from leafV_ok)
  have HLV : Hid (headL s = true → okW rows.length s.wts = true → leafV rows n s dc = overB rows n s dc) := fun h1 h2 => by unfold leafV; rw [h1, h2]; rfl
  clear hvr hw hvd hr hd HHB
  generalize leafV rows n s dc = lv at *
  by_cases h1 : s.no = 0
  · have q1 : (s.no != 0) = false := by rw [h1]; rfl
    by_cases h2 : s.yes = 0
    · have q2 : (s.yes != 0) = false := by rw [h2]; rfl
      by_cases h3 : (s.wts.length : Int) < 1
      · have HE : Hid (lv = false) := HH.out (by unfold headL inB; simp; omega)
        have q3 : decide ((s.wts.length : Int) < 1) = true := decide_eq_true h3
        obtain ⟨svar, sno, syes, swts⟩ := s
        simp only at *
        clear h1 h2 h3
        go_enter Try.func105, Try.ntmps105
        go_wp2
        go_ret
        exact ⟨by rw [HE.out]; rfl, (Below.refl _ _).alloc (Nat.le_refl _) _⟩
      · have q3 : decide ((s.wts.length : Int) < 1) = false := decide_eq_false h3
        by_cases h4 : (8 : Int) < s.wts.length
        · have HE : Hid (lv = false) := HH.out (by unfold headL inB; simp; omega)
          have q4 : decide ((8 : Int) < (s.wts.length : Int)) = true := decide_eq_true h4
          obtain ⟨svar, sno, syes, swts⟩ := s
          simp only at *
          clear h1 h2 h3 h4
          go_enter Try.func105, Try.ntmps105
          go_wp2
          go_ret
          exact ⟨by rw [HE.out]; rfl, (Below.refl _ _).alloc (Nat.le_refl _) _⟩
        · have q4 : decide ((8 : Int) < (s.wts.length : Int)) = false := decide_eq_false h4
          have hw8 : s.wts.length ≤ 8 := by omega
          have hw0 : 1 ≤ s.wts.length := by omega
          have HX : Hid (headL s = true) := by
            unfold headL inB
            rw [h1, h2, decide_eq_true (show (1 : Int) ≤ (s.wts.length : Int) by omega), decide_eq_true (show (s.wts.length : Int) ≤ 8 by omega)]
            rfl
          obtain ⟨svar, sno, syes, swts⟩ := s
          simp only at *
          clear h1 h2 h3 h4
          obtain ⟨wb, wo, rfl, -, -⟩ := HW.out.getC (getD_some wt0 (show 0 < swts.length by omega))
          go_enter Try.func105, Try.ntmps105
          go_wp2_with fail
          go_loopw [7] (fun u7 wr => ∃ i : Nat, i ≤ swts.length ∧ u7 = .int .i64 i ∧ (∀ j, j < i → wtB rows.length swts j = true) ∧ Blk wr W.heap.size #[.int .i64 svar, .int .i64 sno, .int .i64 syes, .slice (some ⟨wb, wo, none⟩) swts.length wc] 80 ∧ Below W.heap.size W wr) (fun u7 _ => (swts.length - Go.RowKit.intOf u7).toNat)
          case atStart => exact ⟨0, by omega, rfl, fun j hj => by omega, Blk.new _ _ _, (Below.refl _ _).alloc (Nat.le_refl _) _⟩
          case round =>
            obtain ⟨i, hil0, rfl, hp, hk, hB⟩ := hrel
            by_cases hil : i < swts.length
            · cases i with
              | zero =>
                have hs := getD_some wt0 hil
                obtain ⟨_, _, e, t0, t1⟩ := (HW.out.below hB).getC hs
                cases e
                simp only [Nat.zero_mul, Nat.add_zero] at t0 t1
                have x3 := hk.cell 3
                simp only [List.getElem?_toArray, List.getElem?_cons_succ, List.getElem?_cons_zero] at x3
                obtain ⟨tw, HTW⟩ : ∃ tw, Hid (swts.getD 0 wt0 = tw) := ⟨_, rfl⟩
                rw [HTW.out] at t0 t1
                have HI : Hid (0 < swts.length) := hil
                have HP := Lib.hid hp
                have hii : (0 : Int) ≤ ((0 : Nat) : Int) ∧ ((0 : Nat) : Int) < (swts.length : Int) := by omega
                have hz := hB.size
                have HBW : Hid (Below W.heap.size W (wr.alloc (.cells #[.int .i64 tw.row, .int .i64 tw.times] 82))) := hB.alloc hz _
                have HKW : Hid (Blk (wr.alloc (.cells #[.int .i64 tw.row, .int .i64 tw.times] 82)) W.heap.size #[.int .i64 svar, .int .i64 sno, .int .i64 syes, .slice (some ⟨wb, wo, none⟩) swts.length wc] 80) := hk.alloc _
                have k0 : (wr.alloc (.cells #[.int .i64 tw.row, .int .i64 tw.times] 82)).cell? ⟨wr.heap.size, 0, none⟩ = some (.int .i64 tw.row) := World.cell?_alloc_at _ _ _ _ rfl
                have k1 : (wr.alloc (.cells #[.int .i64 tw.row, .int .i64 tw.times] 82)).cell? ⟨wr.heap.size, 1, none⟩ = some (.int .i64 tw.times) := World.cell?_alloc_at _ _ _ _ rfl
                have x3' : (wr.alloc (.cells #[.int .i64 tw.row, .int .i64 tw.times] 82)).cell? ⟨W.heap.size, 3, none⟩ = some (.slice (some ⟨wb, wo, none⟩) swts.length wc) := HKW.out.cell 3
                have HLK : Hid (lastK swts 0 = -1) := rfl
                clear hp hk hB hs hil
                by_cases c0 : tw.row < 0
                · have e0 : decide (tw.row < 0) = true := decide_eq_true c0
                  have hbad : wtB rows.length swts 0 = false := wtB_bad (by rw [HTW.out]; left; omega) HP.out
                  have HE : Hid (lv = false) := HOKB.out (okW_not (by have := HI.out; omega) hbad)
                  clear hbad c0
                  go_wp2_with fail
                  generalize wr.alloc (.cells #[.int .i64 tw.row, .int .i64 tw.times] 82) = Wd at *
                  go_still (by kernel_rfl)
                  change Exit.then _ _ _ _ Wd.drew
                  have HBd : Hid (Below W.heap.size W Wd.drew) := HBW.out.drew
                  have HKd : Hid (Blk Wd.drew W.heap.size #[.int .i64 svar, .int .i64 sno, .int .i64 syes, .slice (some ⟨wb, wo, none⟩) swts.length wc] 80) := HKW.out
                  clear k0 k1 x3
                  skip
                  generalize Wd.drew = We at *
                  go_wp2
                  go_ret
                  exact ⟨by rw [HE.out]; rfl, HBd.out⟩
                · have e0 : decide (tw.row < 0) = false := decide_eq_false c0
                  by_cases c1 : (rows.length : Int) ≤ tw.row
                  · have e1 : decide ((rows.length : Int) ≤ tw.row) = true := decide_eq_true c1
                    have hbad : wtB rows.length swts 0 = false := wtB_bad (by rw [HTW.out]; right; left; omega) HP.out
                    have HE : Hid (lv = false) := HOKB.out (okW_not (by have := HI.out; omega) hbad)
                    clear hbad c0 c1
                    go_wp2_with fail
                    generalize wr.alloc (.cells #[.int .i64 tw.row, .int .i64 tw.times] 82) = Wd at *
                    go_still (by kernel_rfl)
                    change Exit.then _ _ _ _ Wd.drew
                    have HBd : Hid (Below W.heap.size W Wd.drew) := HBW.out.drew
                    have HKd : Hid (Blk Wd.drew W.heap.size #[.int .i64 svar, .int .i64 sno, .int .i64 syes, .slice (some ⟨wb, wo, none⟩) swts.length wc] 80) := HKW.out
                    clear k0 k1 x3
                    skip
                    generalize Wd.drew = We at *
                    go_wp2
                    go_ret
                    exact ⟨by rw [HE.out]; rfl, HBd.out⟩
                  · have e1 : decide ((rows.length : Int) ≤ tw.row) = false := decide_eq_false c1
                    by_cases c2 : tw.times < 1
                    · have e2 : decide (tw.times < 1) = true := decide_eq_true c2
                      have hbad : wtB rows.length swts 0 = false := wtB_bad (by rw [HTW.out]; right; right; left; omega) HP.out
                      have HE : Hid (lv = false) := HOKB.out (okW_not (by have := HI.out; omega) hbad)
                      clear hbad c0 c1 c2
                      go_wp2_with fail
                      generalize wr.alloc (.cells #[.int .i64 tw.row, .int .i64 tw.times] 82) = Wd at *
                      go_still (by kernel_rfl)
                      change Exit.then _ _ _ _ Wd.drew
                      have HBd : Hid (Below W.heap.size W Wd.drew) := HBW.out.drew
                      have HKd : Hid (Blk Wd.drew W.heap.size #[.int .i64 svar, .int .i64 sno, .int .i64 syes, .slice (some ⟨wb, wo, none⟩) swts.length wc] 80) := HKW.out
                      clear k0 k1 x3
                      skip
                      generalize Wd.drew = We at *
                      go_wp2
                      go_ret
                      exact ⟨by rw [HE.out]; rfl, HBd.out⟩
                    · have e2 : decide (tw.times < 1) = false := decide_eq_false c2
                      by_cases c3 : 1000 < tw.times
                      · have e3 : decide (1000 < tw.times) = true := decide_eq_true c3
                        have hbad : wtB rows.length swts 0 = false := wtB_bad (by rw [HTW.out]; right; right; right; left; omega) HP.out
                        have HE : Hid (lv = false) := HOKB.out (okW_not (by have := HI.out; omega) hbad)
                        clear hbad c0 c1 c2 c3
                        go_wp2_with fail
                        generalize wr.alloc (.cells #[.int .i64 tw.row, .int .i64 tw.times] 82) = Wd at *
                        go_still (by kernel_rfl)
                        change Exit.then _ _ _ _ Wd.drew
                        have HBd : Hid (Below W.heap.size W Wd.drew) := HBW.out.drew
                        have HKd : Hid (Blk Wd.drew W.heap.size #[.int .i64 svar, .int .i64 sno, .int .i64 syes, .slice (some ⟨wb, wo, none⟩) swts.length wc] 80) := HKW.out
                        clear k0 k1 x3
                        skip
                        generalize Wd.drew = We at *
                        go_wp2
                        go_ret
                        exact ⟨by rw [HE.out]; rfl, HBd.out⟩
                      · have e3 : decide (1000 < tw.times) = false := decide_eq_false c3
                        have HOK : Hid (wtB rows.length swts 0 = true) := wtB_good (by rw [HTW.out]; have := HLK.out; omega) (by rw [HTW.out]; omega) (by rw [HTW.out]; omega) (by rw [HTW.out]; omega)
                        clear c0 c1 c2 c3
                        go_wp2_with fail
                        generalize wr.alloc (.cells #[.int .i64 tw.row, .int .i64 tw.times] 82) = Wd at *
                        go_still (by kernel_rfl)
                        change Exit.then _ _ _ _ Wd.drew
                        have HBd : Hid (Below W.heap.size W Wd.drew) := HBW.out.drew
                        have HKd : Hid (Blk Wd.drew W.heap.size #[.int .i64 svar, .int .i64 sno, .int .i64 syes, .slice (some ⟨wb, wo, none⟩) swts.length wc] 80) := HKW.out
                        clear k0 k1 x3
                        skip
                        generalize Wd.drew = We at *
                        go_wp2
                        go_roundw
                        case rel =>
                          refine ⟨0 + 1, by have := HI.out; omega, by go_num, fun j hj => ?_, HKd.out, HBd.out⟩
                          by_cases e : j = 0
                          · subst e; exact HOK.out
                          · exact HP.out j (by omega)
                        case measure => simp [Go.RowKit.intOf]; have := HI.out; omega
              | succ m =>
                have hs := getD_some wt0 hil
                obtain ⟨_, _, e, t0, t1⟩ := (HW.out.below hB).getC hs
                cases e
                skip
                have x3 := hk.cell 3
                simp only [List.getElem?_toArray, List.getElem?_cons_succ, List.getElem?_cons_zero] at x3
                obtain ⟨tw, HTW⟩ : ∃ tw, Hid (swts.getD (m + 1) wt0 = tw) := ⟨_, rfl⟩
                rw [HTW.out] at t0 t1
                have HI : Hid ((m + 1) < swts.length) := hil
                have HP := Lib.hid hp
                have hii : (0 : Int) ≤ (((m + 1) : Nat) : Int) ∧ (((m + 1) : Nat) : Int) < (swts.length : Int) := by omega
                have hz := hB.size
                have HBW : Hid (Below W.heap.size W (wr.alloc (.cells #[.int .i64 tw.row, .int .i64 tw.times] 82))) := hB.alloc hz _
                have HKW : Hid (Blk (wr.alloc (.cells #[.int .i64 tw.row, .int .i64 tw.times] 82)) W.heap.size #[.int .i64 svar, .int .i64 sno, .int .i64 syes, .slice (some ⟨wb, wo, none⟩) swts.length wc] 80) := hk.alloc _
                have k0 : (wr.alloc (.cells #[.int .i64 tw.row, .int .i64 tw.times] 82)).cell? ⟨wr.heap.size, 0, none⟩ = some (.int .i64 tw.row) := World.cell?_alloc_at _ _ _ _ rfl
                have k1 : (wr.alloc (.cells #[.int .i64 tw.row, .int .i64 tw.times] 82)).cell? ⟨wr.heap.size, 1, none⟩ = some (.int .i64 tw.times) := World.cell?_alloc_at _ _ _ _ rfl
                have x3' : (wr.alloc (.cells #[.int .i64 tw.row, .int .i64 tw.times] 82)).cell? ⟨W.heap.size, 3, none⟩ = some (.slice (some ⟨wb, wo, none⟩) swts.length wc) := HKW.out.cell 3
                obtain ⟨_, _, e, y0, -⟩ := (HW.out.below hB).getC (getD_some wt0 (show m < swts.length by omega))
                cases e
                obtain ⟨pv, HPV⟩ : ∃ pv, Hid (swts.getD m wt0 = pv) := ⟨_, rfl⟩
                rw [HPV.out] at y0
                have hyl : wb < wr.heap.size := World.block_lt_of_cell? _ _ y0
                have HLK : Hid (lastK swts (m + 1) = pv.row) := by rw [← HPV.out]; rfl
                have y0' : (wr.alloc (.cells #[.int .i64 tw.row, .int .i64 tw.times] 82)).cell? ⟨wb, wo + m * 2, none⟩ = some (.int .i64 pv.row) := (((Below.refl _ _).alloc (Nat.le_refl _) _).cell hyl).trans y0
                have hmm : (0 : Int) ≤ (m : Int) ∧ (m : Int) < (swts.length : Int) := by omega
                have hm1 : decide ((0 : Int) < (m : Int) + 1) = true := decide_eq_true (by omega)
                have hwm : IntKind.i64.wrap (m : Int) = (m : Int) := by rw [IntKind.wrap_i64]; omega
                have hwm2 : IntKind.i64.wrap ((m : Int) + 1 - 1) = (m : Int) := by rw [IntKind.wrap_i64]; omega
                clear hp hk hB hs hil
                by_cases c0 : tw.row < 0
                · have e0 : decide (tw.row < 0) = true := decide_eq_true c0
                  have hbad : wtB rows.length swts (m + 1) = false := wtB_bad (by rw [HTW.out]; left; omega) HP.out
                  have HE : Hid (lv = false) := HOKB.out (okW_not (by have := HI.out; omega) hbad)
                  clear hbad c0
                  go_wp2_with fail
                  generalize wr.alloc (.cells #[.int .i64 tw.row, .int .i64 tw.times] 82) = Wd at *
                  go_still (by kernel_rfl)
                  change Exit.then _ _ _ _ Wd.drew
                  have HBd : Hid (Below W.heap.size W Wd.drew) := HBW.out.drew
                  have HKd : Hid (Blk Wd.drew W.heap.size #[.int .i64 svar, .int .i64 sno, .int .i64 syes, .slice (some ⟨wb, wo, none⟩) swts.length wc] 80) := HKW.out
                  clear k0 k1 x3
                  skip
                  generalize Wd.drew = We at *
                  go_wp2
                  go_ret
                  exact ⟨by rw [HE.out]; rfl, HBd.out⟩
                · have e0 : decide (tw.row < 0) = false := decide_eq_false c0
                  by_cases c1 : (rows.length : Int) ≤ tw.row
                  · have e1 : decide ((rows.length : Int) ≤ tw.row) = true := decide_eq_true c1
                    have hbad : wtB rows.length swts (m + 1) = false := wtB_bad (by rw [HTW.out]; right; left; omega) HP.out
                    have HE : Hid (lv = false) := HOKB.out (okW_not (by have := HI.out; omega) hbad)
                    clear hbad c0 c1
                    go_wp2_with fail
                    generalize wr.alloc (.cells #[.int .i64 tw.row, .int .i64 tw.times] 82) = Wd at *
                    go_still (by kernel_rfl)
                    change Exit.then _ _ _ _ Wd.drew
                    have HBd : Hid (Below W.heap.size W Wd.drew) := HBW.out.drew
                    have HKd : Hid (Blk Wd.drew W.heap.size #[.int .i64 svar, .int .i64 sno, .int .i64 syes, .slice (some ⟨wb, wo, none⟩) swts.length wc] 80) := HKW.out
                    clear k0 k1 x3
                    skip
                    generalize Wd.drew = We at *
                    go_wp2
                    go_ret
                    exact ⟨by rw [HE.out]; rfl, HBd.out⟩
                  · have e1 : decide ((rows.length : Int) ≤ tw.row) = false := decide_eq_false c1
                    by_cases c2 : tw.times < 1
                    · have e2 : decide (tw.times < 1) = true := decide_eq_true c2
                      have hbad : wtB rows.length swts (m + 1) = false := wtB_bad (by rw [HTW.out]; right; right; left; omega) HP.out
                      have HE : Hid (lv = false) := HOKB.out (okW_not (by have := HI.out; omega) hbad)
                      clear hbad c0 c1 c2
                      go_wp2_with fail
                      generalize wr.alloc (.cells #[.int .i64 tw.row, .int .i64 tw.times] 82) = Wd at *
                      go_still (by kernel_rfl)
                      change Exit.then _ _ _ _ Wd.drew
                      have HBd : Hid (Below W.heap.size W Wd.drew) := HBW.out.drew
                      have HKd : Hid (Blk Wd.drew W.heap.size #[.int .i64 svar, .int .i64 sno, .int .i64 syes, .slice (some ⟨wb, wo, none⟩) swts.length wc] 80) := HKW.out
                      clear k0 k1 x3
                      skip
                      generalize Wd.drew = We at *
                      go_wp2
                      go_ret
                      exact ⟨by rw [HE.out]; rfl, HBd.out⟩
                    · have e2 : decide (tw.times < 1) = false := decide_eq_false c2
                      by_cases c3 : 1000 < tw.times
                      · have e3 : decide (1000 < tw.times) = true := decide_eq_true c3
                        have hbad : wtB rows.length swts (m + 1) = false := wtB_bad (by rw [HTW.out]; right; right; right; left; omega) HP.out
                        have HE : Hid (lv = false) := HOKB.out (okW_not (by have := HI.out; omega) hbad)
                        clear hbad c0 c1 c2 c3
                        go_wp2_with fail
                        generalize wr.alloc (.cells #[.int .i64 tw.row, .int .i64 tw.times] 82) = Wd at *
                        go_still (by kernel_rfl)
                        change Exit.then _ _ _ _ Wd.drew
                        have HBd : Hid (Below W.heap.size W Wd.drew) := HBW.out.drew
                        have HKd : Hid (Blk Wd.drew W.heap.size #[.int .i64 svar, .int .i64 sno, .int .i64 syes, .slice (some ⟨wb, wo, none⟩) swts.length wc] 80) := HKW.out
                        clear k0 k1 x3
                        skip
                        generalize Wd.drew = We at *
                        go_wp2
                        go_ret
                        exact ⟨by rw [HE.out]; rfl, HBd.out⟩
                      · have e3 : decide (1000 < tw.times) = false := decide_eq_false c3
                        by_cases c5 : tw.row ≤ pv.row
                        · have e5 : decide (tw.row ≤ pv.row) = true := decide_eq_true c5
                          have hbad : wtB rows.length swts (m + 1) = false := wtB_bad (by rw [HTW.out]; right; right; right; right; rw [HLK.out]; exact c5) HP.out
                          have HE : Hid (lv = false) := HOKB.out (okW_not (by have := HI.out; omega) hbad)
                          clear hbad c0 c1 c2 c3 c5
                          go_wp2_with fail
                          generalize wr.alloc (.cells #[.int .i64 tw.row, .int .i64 tw.times] 82) = Wd at *
                          go_still (by kernel_rfl)
                          change Exit.then _ _ _ _ Wd.drew
                          have HBd : Hid (Below W.heap.size W Wd.drew) := HBW.out.drew
                          have HKd : Hid (Blk Wd.drew W.heap.size #[.int .i64 svar, .int .i64 sno, .int .i64 syes, .slice (some ⟨wb, wo, none⟩) swts.length wc] 80) := HKW.out
                          clear k0 k1 x3
                          clear y0
                          generalize Wd.drew = We at *
                          go_wp2
                          go_ret
                          exact ⟨by rw [HE.out]; rfl, HBd.out⟩
                        · have e5 : decide (tw.row ≤ pv.row) = false := decide_eq_false c5
                          have HOK : Hid (wtB rows.length swts (m + 1) = true) := wtB_good (by rw [HTW.out]; rw [HLK.out]; omega) (by rw [HTW.out]; omega) (by rw [HTW.out]; omega) (by rw [HTW.out]; omega)
                          clear c0 c1 c2 c3 c5
                          go_wp2_with fail
                          generalize wr.alloc (.cells #[.int .i64 tw.row, .int .i64 tw.times] 82) = Wd at *
                          go_still (by kernel_rfl)
                          change Exit.then _ _ _ _ Wd.drew
                          have HBd : Hid (Below W.heap.size W Wd.drew) := HBW.out.drew
                          have HKd : Hid (Blk Wd.drew W.heap.size #[.int .i64 svar, .int .i64 sno, .int .i64 syes, .slice (some ⟨wb, wo, none⟩) swts.length wc] 80) := HKW.out
                          clear k0 k1 x3
                          clear y0
                          generalize Wd.drew = We at *
                          go_wp2
                          go_roundw
                          case rel =>
                            refine ⟨(m + 1) + 1, by have := HI.out; omega, by go_num, fun j hj => ?_, HKd.out, HBd.out⟩
                            by_cases e : j = (m + 1)
                            · subst e; exact HOK.out
                            · exact HP.out j (by omega)
                          case measure => simp [Go.RowKit.intOf]; have := HI.out; omega
            · obtain rfl : i = swts.length := by omega
              have HPA := Lib.hid hp
              have hokw : okW rows.length swts = true := by unfold okW; rw [List.all_eq_true]; intro q hq; exact hp q (by simpa using hq)
              have HLV2 : Hid (lv = overB rows n ⟨svar, sno, syes, swts⟩ dc) := HLV.out HX.out hokw
              have hn12 := HR.out.1
              clear hp hokw hil hil0
              have x3 := hk.cell 3
              simp only [List.getElem?_toArray, List.getElem?_cons_succ, List.getElem?_cons_zero] at x3
              go_wp2
              clear x3
              go_loopw [9, 10] (fun u9 u10 wr => ∃ k : Nat, k ≤ n ∧ u10 = .int .i64 k ∧ u9 = .int .i64 (lK dc (sK rows swts swts.length) k) ∧ Blk wr W.heap.size #[.int .i64 svar, .int .i64 sno, .int .i64 syes, .slice (some ⟨wb, wo, none⟩) swts.length wc] 80 ∧ Below W.heap.size W wr) (fun _ u10 _ => (n - Go.RowKit.intOf u10).toNat)
              case atStart => exact ⟨0, by omega, rfl, rfl, hk, hB⟩
              case round =>
                clear hk hB
                obtain ⟨k, hk0, rfl, rfl, hk2, hB2⟩ := hrel
                rename World => Wk
                by_cases hkn : k < n
                · go_wp2
                  go_loopw [11, 12] (fun u11 u12 wr => ∃ i : Nat, i ≤ swts.length ∧ u12 = .int .i64 i ∧ u11 = .int .i64 (sK rows swts i k) ∧ Blk wr W.heap.size #[.int .i64 svar, .int .i64 sno, .int .i64 syes, .slice (some ⟨wb, wo, none⟩) swts.length wc] 80 ∧ Below W.heap.size W wr) (fun _ u12 _ => (swts.length - Go.RowKit.intOf u12).toNat)
                  case atStart => exact ⟨0, by omega, rfl, rfl, hk2, hB2⟩
                  case round =>
                    obtain ⟨i, hi0, rfl, rfl, hk3, hB3⟩ := hrel
                    by_cases hil : i < swts.length
                    · obtain ⟨hsl, hsh⟩ := sK_bd HR.out i (fun q hq => HPA.out q (by omega)) k
                      have HSK : Hid (sK rows swts (i + 1) k = sK rows swts i k + (swts.getD i wt0).times * (rowW rows (swts.getD i wt0)).coef.getD k 0) := rfl
                      obtain ⟨j, hj, hjl, hjg, hcl, hcc, hmo1, hmo2⟩ := rowW_ok HR.out (i := i) (fun q hq => HPA.out q (by omega))
                      obtain ⟨-, -, ht1, ht2⟩ := wtB_true (HPA.out i (by omega))
                      have hs := getD_some wt0 hil
                      obtain ⟨_, _, e, t0, t1⟩ := (HW.out.below hB3).getC hs
                      cases e
                      have x3 := hk3.cell 3
                      simp only [List.getElem?_toArray, List.getElem?_cons_succ, List.getElem?_cons_zero] at x3
                      obtain ⟨rb, ro, vc, e, -, -, -, -, r4, r5, hci⟩ := (HVR.out.below hB3).get hjg
                      have hkc := getD_some (0 : Int) (show k < (rowW rows (swts.getD i wt0)).coef.length by omega)
                      obtain ⟨ca, cc, rfl, hcn1, hcn2⟩ := hci.len
                      rw [hcl] at hci r4 hcn1
                      obtain ⟨cb, co, rfl, z0⟩ := hci.get hkc
                      have hcb := coefOK_get hcc k
                      have hmb := mul_bdC (a := (swts.getD i wt0).times) (M := 1000) (b := (rowW rows (swts.getD i wt0)).coef.getD k 0) (N := 1000000000) ⟨by omega, by omega⟩ hcb (by omega) (by omega)
                      rw [hj] at t0
                      clear hj hjg hs hci hcc hcl hmo1 hmo2 hkc r5
                      subst e
                      generalize (swts.getD i wt0).times = t at *
                      generalize (rowW rows (swts.getD i wt0)).coef.getD k 0 = y at *
                      generalize sK rows swts i k = si at *
                      obtain ⟨ty, hty⟩ : ∃ z, t * y = z := ⟨_, rfl⟩
                      rw [hty] at hmb HSK
                      have hw1' : IntKind.i64.wrap (t * y) = ty := by rw [hty, IntKind.wrap_i64]; omega
                      have hw2' : IntKind.i64.wrap (si + ty) = si + ty := by rw [IntKind.wrap_i64]; omega
                      clear hty
                      have hji : (0 : Int) ≤ (j : Int) ∧ (j : Int) < (rows.length : Int) := by omega
                      have hii : (0 : Int) ≤ (i : Int) ∧ (i : Int) < (swts.length : Int) := by omega
                      have hki : (0 : Int) ≤ (k : Int) ∧ (k : Int) < (n : Int) := by omega
                      have HB3 := Lib.hid (hB3.drew)
                      have HK3 : Hid (Blk wr.drew W.heap.size #[.int .i64 svar, .int .i64 sno, .int .i64 syes, .slice (some ⟨wb, wo, none⟩) swts.length wc] 80) := hk3
                      have HIL := Lib.hid hil
                      clear hB3 hk3 hil hk2 hB2
                      go_wp2_with fail
                      go_still (by kernel_rfl)
                      change Exit.inBlock _ _ _ _ wr.drew
                      clear t0 t1 x3 r4 z0
                      generalize wr.drew = Wd at *
                      go_wp2
                      go_roundw
                      case rel => exact ⟨i + 1, by have := HIL.out; omega, by go_num, by rw [HSK.out], HK3.out, HB3.out⟩
                      case measure => simp [Go.RowKit.intOf]; have := HIL.out; omega
                    · obtain rfl : i = swts.length := by omega
                      have x3 := hk3.cell 3
                      simp only [List.getElem?_toArray, List.getElem?_cons_succ, List.getElem?_cons_zero] at x3
                      have hdk := dcR_get (dc := dc) hkn
                      obtain ⟨db, dof, rfl, u0⟩ := (HVD.out.below hB3).get hdk
                      have hki : (0 : Int) ≤ (k : Int) ∧ (k : Int) < (n : Int) := by omega
                      have hsK := sK_bd HR.out swts.length (fun q hq => HPA.out q (by omega)) k
                      have hlK := lK_bd (dc := dc) (s := sK rows swts swts.length) (M := 8000000000000) (by omega) (fun q => by have := sK_bd HR.out swts.length (fun q hq => HPA.out q (by omega)) q; omega) k
                      have HLK : Hid (lK dc (sK rows swts swts.length) (k + 1) = lK dc (sK rows swts swts.length) k + term (dc k) (sK rows swts swts.length k)) := rfl
                      have hn12 := HR.out.1
                      have hlb : -100000000000000 ≤ lK dc (sK rows swts swts.length) k ∧ lK dc (sK rows swts swts.length) k ≤ 100000000000000 := by omega
                      have hdv := (HD.out k).1
                      clear hdk hlK
                      generalize dc k = dk at *
                      generalize hgs : sK rows swts swts.length k = sk at *
                      generalize lK dc (sK rows swts swts.length) k = lk at *
                      have hwl : IntKind.i64.wrap (lk + sk) = lk + sk := by rw [IntKind.wrap_i64]; omega
                      have HIN := Lib.hid (And.intro hsK (And.intro hlb hgs))
                      clear hgs
                      rcases hdv with rfl | rfl | rfl
                      · have HT := Lib.hid (show term 1 sk = sk from by unfold term; rw [if_pos (.inl rfl)])
                        clear hsK hlb hwl
                        have hwl : IntKind.i64.wrap (lk + sk) = lk + sk := by rw [IntKind.wrap_i64]; have := HIN.out; omega
                        go_wp2
                        go_roundw
                        case rel => exact ⟨k + 1, by omega, by go_num, by rw [HLK.out, HT.out] <;> rfl, hk3, hB3⟩
                        case measure => simp [Go.RowKit.intOf]; omega
                      · have HT := Lib.hid (show term 0 sk = 0 from by unfold term; rw [if_neg (by omega)])
                        go_wp2
                        go_roundw
                        case rel => exact ⟨k + 1, by omega, by go_num, by rw [HLK.out, HT.out, Int.add_zero] <;> rfl, hk3, hB3⟩
                        case measure => simp [Go.RowKit.intOf]; omega
                      · by_cases hneg : sk < 0
                        · have HT := Lib.hid (show term (-1) sk = sk from by unfold term; rw [if_pos (.inr ⟨by omega, hneg⟩)])
                          have dneg : decide (sk < 0) = true := decide_eq_true hneg
                          clear hneg hsK hlb
                          go_wp2
                          go_roundw
                          case rel => exact ⟨k + 1, by omega, by go_num, by rw [HLK.out, HT.out] <;> rfl, hk3, hB3⟩
                          case measure => simp [Go.RowKit.intOf]; omega
                        · have HT := Lib.hid (show term (-1) sk = 0 from by unfold term; rw [if_neg (by omega)])
                          have dneg : decide (sk < 0) = false := decide_eq_false hneg
                          clear hneg hsK hlb
                          go_wp2
                          go_roundw
                          case rel => exact ⟨k + 1, by omega, by go_num, by rw [HLK.out, HT.out, Int.add_zero] <;> rfl, hk3, hB3⟩
                          case measure => simp [Go.RowKit.intOf]; omega
                · obtain rfl : n = k := by omega
                  go_wp2
                  go_loopw [9, 13] (fun u9 u13 wr => ∃ i : Nat, i ≤ swts.length ∧ u13 = .int .i64 i ∧ u9 = .int .i64 (lK dc (sK rows swts swts.length) n - mK rows swts i) ∧ Blk wr W.heap.size #[.int .i64 svar, .int .i64 sno, .int .i64 syes, .slice (some ⟨wb, wo, none⟩) swts.length wc] 80 ∧ Below W.heap.size W wr) (fun _ u13 _ => (swts.length - Go.RowKit.intOf u13).toNat)
                  case atStart => exact ⟨0, by omega, rfl, by show _ = Value.int .i64 (_ - 0); rw [Int.sub_zero], hk2, hB2⟩
                  case round =>
                    obtain ⟨i, hi0, rfl, rfl, hk3, hB3⟩ := hrel
                    have hlK := lK_bd (dc := dc) (s := sK rows swts swts.length) (M := 8000000000000) (by omega) (fun q => by have := sK_bd HR.out swts.length (fun q hq => HPA.out q (by omega)) q; omega) n
                    have hn12 := HR.out.1
                    have hlb : -100000000000000 ≤ lK dc (sK rows swts swts.length) n ∧ lK dc (sK rows swts swts.length) n ≤ 100000000000000 := by omega
                    have HOV : Hid (lv = decide (mK rows swts swts.length < lK dc (sK rows swts swts.length) n)) := HLV2.out
                    clear hlK
                    generalize lK dc (sK rows swts swts.length) n = ln at *
                    by_cases hil : i < swts.length
                    · obtain ⟨hml, hmh⟩ := mK_bd HR.out i (fun q hq => HPA.out q (by omega))
                      have HMK : Hid (mK rows swts (i + 1) = mK rows swts i + (swts.getD i wt0).times * (rowW rows (swts.getD i wt0)).most) := rfl
                      obtain ⟨j, hj, hjl, hjg, hcl, hcc, hmo1, hmo2⟩ := rowW_ok HR.out (i := i) (fun q hq => HPA.out q (by omega))
                      obtain ⟨-, -, ht1, ht2⟩ := wtB_true (HPA.out i (by omega))
                      have hs := getD_some wt0 hil
                      obtain ⟨_, _, e, t0, t1⟩ := (HW.out.below hB3).getC hs
                      cases e
                      have x3 := hk3.cell 3
                      simp only [List.getElem?_toArray, List.getElem?_cons_succ, List.getElem?_cons_zero] at x3
                      obtain ⟨rb, ro, vc, e, -, -, -, -, r4, r5, hci⟩ := (HVR.out.below hB3).get hjg
                      have hmb := mul_bdC (a := (swts.getD i wt0).times) (M := 1000) (b := (rowW rows (swts.getD i wt0)).most) (N := 10000000000000) ⟨by omega, by omega⟩ ⟨hmo1, hmo2⟩ (by omega) (by omega)
                      rw [hj] at t0
                      clear hj hjg hs hci hcc hcl r4
                      subst e
                      generalize (swts.getD i wt0).times = t at *
                      generalize (rowW rows (swts.getD i wt0)).most = y at *
                      generalize mK rows swts i = mi at *
                      obtain ⟨ty, hty⟩ : ∃ z, t * y = z := ⟨_, rfl⟩
                      rw [hty] at hmb HMK
                      have hw1' : IntKind.i64.wrap (t * y) = ty := by rw [hty, IntKind.wrap_i64]; omega
                      have hw2' : IntKind.i64.wrap (ln - mi - ty) = ln - mi - ty := by rw [IntKind.wrap_i64]; omega
                      clear hty
                      have hji : (0 : Int) ≤ (j : Int) ∧ (j : Int) < (rows.length : Int) := by omega
                      have hii : (0 : Int) ≤ (i : Int) ∧ (i : Int) < (swts.length : Int) := by omega
                      have HB3 := Lib.hid (hB3.drew)
                      have HK3 : Hid (Blk wr.drew W.heap.size #[.int .i64 svar, .int .i64 sno, .int .i64 syes, .slice (some ⟨wb, wo, none⟩) swts.length wc] 80) := hk3
                      have HIL := Lib.hid hil
                      clear hB3 hk3 hil hk2 hB2
                      go_wp2_with fail
                      go_still (by kernel_rfl)
                      change Exit.inBlock _ _ _ _ wr.drew
                      clear t0 t1 x3 r5
                      generalize wr.drew = Wd at *
                      go_wp2
                      go_roundw
                      case rel => exact ⟨i + 1, by have := HIL.out; omega, by go_num, by rw [HMK.out]; go_num, HK3.out, HB3.out⟩
                      case measure => simp [Go.RowKit.intOf]; have := HIL.out; omega
                    · obtain rfl : i = swts.length := by omega
                      have x3 := hk3.cell 3
                      simp only [List.getElem?_toArray, List.getElem?_cons_succ, List.getElem?_cons_zero] at x3
                      go_wp2
                      go_ret
                      refine ⟨?_, hB3⟩
                      rw [HOV.out]
                      congr 2
    · have HE : Hid (lv = false) := HH.out (by unfold headL inB; simp [h2])
      have q2 : (s.yes != 0) = true := by simp [h2]
      obtain ⟨svar, sno, syes, swts⟩ := s
      simp only at *
      clear h1 h2
      go_enter Try.func105, Try.ntmps105
      go_wp2
      go_ret
      exact ⟨by rw [HE.out]; rfl, (Below.refl _ _).alloc (Nat.le_refl _) _⟩
  · have HE : Hid (lv = false) := HH.out (by unfold headL; simp [h1])
    have q1 : (s.no != 0) = true := by simp [h1]
    obtain ⟨svar, sno, syes, swts⟩ := s
    simp only at *
    clear h1
    go_enter Try.func105, Try.ntmps105
    go_wp2
    go_ret
    exact ⟨by rw [HE.out]; rfl, (Below.refl _ _).alloc (Nat.le_refl _) _⟩
end Go.Proofs.Ytblmpmapcdpaiaa

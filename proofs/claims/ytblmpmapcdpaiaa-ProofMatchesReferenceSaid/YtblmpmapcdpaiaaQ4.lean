/- The reference's Bounds, Refutes, Size, pick. -/
import Derived.Test.YtblmpmapcdpaiaaQ9
import Derived.Test.YtblmpmapcdpaiaaK7
import Derived.Test.YtblmpmapcdpaiaaR14
namespace Go.Proofs.Ytblmpmapcdpaiaa
open Go.RowKit Go.Shelf Lib
attribute [local go_sem] Oper.semAt_some

theorem boundsV_val {p : ProgD} (h : validB p = true) (l : List StepD) (g : Int) : boundsV p l g = (inB g (-12000000000) 12000000000 && (checkV p (p.rows ++ [goalS p.gain g]) l == -1)) := by
  unfold boundsV
  rw [goalW_eq (validB_true h).2.2.2.2.2]
theorem RowsAt_none {W : World} {len cap : Nat} {l : List RowD} (h : RowsAt W (.slice none len cap) l) : l = [] := StructsOf.none h
theorem RowsAt_addr {W : World} {a : Option Addr} {len cap : Nat} {l : List RowD} (h : RowsAt W (.slice a len cap) l) (hl : 0 < l.length) : ∃ b off, a = some ⟨b, off, none⟩ ∧ True := by
  obtain ⟨a', cap', e, h2, h3, h4⟩ := h
  obtain ⟨b, off, rfl, h5⟩ := h4 hl
  cases e
  exact ⟨b, off, rfl, trivial⟩
theorem FlatC_pos {W : World} {l : List RowD} {cs : List Value} (h : FlatC 6 RowCs W cs l) {j : Nat} {u : Value} (hj : cs[j]? = some u) : 0 < l.length := by
  have := h.len
  refine Classical.byContradiction fun hc => ?_
  have h0 : cs.length = 0 := by omega
  rw [List.getElem?_eq_none (by omega)] at hj
  cases hj
set_option maxRecDepth 100000 in
set_option maxHeartbeats 40000000 in
theorem rbounds_any (v vl : Value) (p : ProgD) (l : List StepD) (g : Int) (w : World) (hv : ProgV w v p) (hl : StepsAt w vl l) (hnil : ∀ c vr vg, v = .agg #[.int .i64 p.vars, vr, vg] → vr = .slice none 0 c → c = 0) :
    Calls Try.prog 56 #[v, vl, .int .i64 g] w fun e w' => e = .returned (.bool (boundsV p l g)) ∧ Below w.heap.size w w' := by
  obtain ⟨vr, vg, rfl, hvr, hvg⟩ := hv
  obtain ⟨ra, rc, rfl, hr1, hr2⟩ := (show SlicesLen vr p.rows.length from hvr.len)
  obtain ⟨ga, gc, rfl, hg1, hg2⟩ := (show SlicesLen vg p.gain.length from hvg.len)
  obtain ⟨la, lc, rfl, hl1, hl2⟩ := (show SlicesLen vl l.length from hl.len)
  unfold maxLen at hl2 hr2 hg2
  have hB0 : Below w.heap.size w (w.alloc (.cells #[.int .i64 p.vars, .slice ra p.rows.length rc, .slice ga p.gain.length gc] 29)) := (Below.refl _ _).alloc (Nat.le_refl _) _
  have hx := valid_ref _ p _ ⟨_, _, rfl, hvr.below hB0, hvg.below hB0⟩
  have hk0 : Blk (w.alloc (.cells #[.int .i64 p.vars, .slice ra p.rows.length rc, .slice ga p.gain.length gc] 29)) w.heap.size #[.int .i64 p.vars, .slice ra p.rows.length rc, .slice ga p.gain.length gc] 29 := Blk.new _ _ _
  have HX := Lib.hid hx
  have HB := Lib.hid (And.intro hB0 hk0)
  clear hx hB0 hk0
  cases hvb : validB p with
  | false =>
    have hbv : boundsV p l g = false := by
      unfold boundsV checkV
      rw [if_neg (by rw [hvb]; simp)]
      exact Bool.and_false _
    rw [hbv]
    clear hvr hvg hl hnil hbv
    go_enter Try.func56, Try.ntmps56
    go_wp2_with fail
    refine HX.out.mono ?_
    rw [hvb]
    rintro e w' ⟨rfl, hB⟩
    go_wp2
    go_ret
    exact ⟨rfl, HB.out.1.trans (hB.mono HB.out.1.size)⟩
  | true =>
    have HV := Lib.hid hvb
    rw [boundsV_val hvb]
    by_cases hlen : l.length ≤ 8192
    · have d1 : decide ((8192 : Int) < (l.length : Int)) = false := decide_eq_false (by omega)
      by_cases h0 : l.length = 0
      · have hbv : (inB g (-12000000000) 12000000000 && (checkV p (p.rows ++ [goalS p.gain g]) l == -1)) = false := by
          unfold checkV
          rw [if_pos ⟨hvb, hlen⟩, if_pos h0]
          exact Bool.and_false _
        rw [hbv]
        have q0 : ((l.length : Int) == 0) = true := by rw [h0]; rfl
        clear hvr hvg hl hnil hbv h0
        go_enter Try.func56, Try.ntmps56
        go_wp2_with fail
        refine HX.out.mono ?_
        rw [HV.out]
        rintro e w' ⟨rfl, hB⟩
        go_wp2
        go_ret
        exact ⟨rfl, HB.out.1.trans (hB.mono HB.out.1.size)⟩
      · have q0 : ((l.length : Int) == 0) = false := beq_eq_false_iff_ne.2 (by omega)
        have hl0 : 0 < l.length := by omega
        by_cases hga : g < -12000000000
        · have hbv : (inB g (-12000000000) 12000000000 && (checkV p (p.rows ++ [goalS p.gain g]) l == -1)) = false := by
            unfold inB
            rw [decide_eq_false (show ¬ (-12000000000 ≤ g) by omega)]
            rfl
          rw [hbv]
          have d2 : decide (g < -12000000000) = true := decide_eq_true hga
          clear hvr hvg hl hnil hbv h0 hga
          go_enter Try.func56, Try.ntmps56
          go_wp2_with fail
          refine HX.out.mono ?_
          rw [HV.out]
          rintro e w' ⟨rfl, hB⟩
          go_wp2
          go_ret
          exact ⟨rfl, HB.out.1.trans (hB.mono HB.out.1.size)⟩
        · have d2 : decide (g < -12000000000) = false := decide_eq_false hga
          by_cases hgb : 12000000000 < g
          · have hbv : (inB g (-12000000000) 12000000000 && (checkV p (p.rows ++ [goalS p.gain g]) l == -1)) = false := by
              unfold inB
              rw [decide_eq_false (show ¬ (g ≤ 12000000000) by omega), Bool.and_false]
              rfl
            rw [hbv]
            have d3 : decide (12000000000 < g) = true := decide_eq_true hgb
            clear hvr hvg hl hnil hbv h0 hga hgb
            go_enter Try.func56, Try.ntmps56
            go_wp2_with fail
            refine HX.out.mono ?_
            rw [HV.out]
            rintro e w' ⟨rfl, hB⟩
            go_wp2
            go_ret
            exact ⟨rfl, HB.out.1.trans (hB.mono HB.out.1.size)⟩
          · have d3 : decide (12000000000 < g) = false := decide_eq_false hgb
            have hin : inB g (-12000000000) 12000000000 = true := by
              unfold inB
              rw [decide_eq_true (show -12000000000 ≤ g by omega), decide_eq_true (show g ≤ 12000000000 by omega)]
              rfl
            obtain ⟨n, hn, hro⟩ := goalW_rows (p := p) (g := g) ⟨by omega, by omega⟩ hvb
            obtain ⟨v1, v2, v3, v4, v5, v6⟩ := validB_true hvb
            rw [goalW_eq v6] at hro
            have hvn : p.vars.toNat = n := by omega
            have hbv : (inB g (-12000000000) 12000000000 && (checkV p (p.rows ++ [goalS p.gain g]) l == -1)) = (wrongV (p.rows ++ [goalS p.gain g]) l n l.length 0 (fun _ => -1) == -1) := by
              unfold checkV
              rw [hin, if_pos ⟨hvb, hlen⟩, if_neg h0, hvn, Bool.true_and]
            rw [hbv]
            have HN2 : Hid (List.replicate p.vars.toNat (-1 : Int) = dcR n (fun _ => -1)) := by rw [hvn]; exact dcR_none n
            have HRO := Lib.hid hro
            have HVR := Lib.hid hvr
            have HVG := Lib.hid hvg
            have HL := Lib.hid hl
            have hcg := Lib.hid v6
            have hglen : p.gain.length ≤ 60 := by omega
            have hgr : -12000000000 ≤ g ∧ g ≤ 12000000000 := by omega
            have HN : Hid (ra = none → p.rows.length = 0 ∧ rc = 0) := fun e => by
              subst e
              have h00 : p.rows = [] := RowsAt_none hvr
              have h01 : p.rows.length = 0 := by rw [h00]; rfl
              exact ⟨h01, hnil rc _ _ rfl (by rw [h01])⟩
            obtain ⟨cs, hcf, hcc⟩ := hvr.flat
            have HF := Lib.hid hcf
            have HQ : Hid (∀ W, Below w.heap.size w W → ∀ q, ra = some q → ∀ j u, cs[j]? = some u → W.cell? (q.add j) = some u) := fun W hW q hq j u hj => by
              have h3 := hcc q hq j u hj
              subst hq
              obtain ⟨b, off, e, -⟩ := RowsAt_addr hvr (FlatC_pos hcf hj)
              cases e
              rw [addr_add] at h3 ⊢
              exact (hW.cell (World.block_lt_of_cell? _ _ h3)).trans h3
            clear hvr hvg hl hnil h0 hvb hro hn hvn hga hgb hin hbv hcf hcc v4 v5 v6
            go_enter Try.func56, Try.ntmps56
            go_wp2_with fail
            refine HX.out.mono ?_
            rw [HV.out]
            rintro e w1 ⟨rfl, hB⟩
            have hB1 := HB.out.1.trans (hB.mono HB.out.1.size)
            have hk := HB.out.2.below hB HB.out.2.lt
            have hz := hB1.size
            have hzk := hk.lt
            have j0 := hk.cell 0
            have j1 := hk.cell 1
            have j2 := hk.cell 2
            simp only [List.getElem?_toArray, List.getElem?_cons_succ, List.getElem?_cons_zero] at j0 j1 j2
            have HW := Lib.hid (And.intro hB1 hk)
            clear hB hk HB HX
            go_upto_region 3 with fail
            go_cut [7] from 29 to 37 (fun u wx => ∃ qa qc, u = .slice qa (p.rows.length + 1) qc ∧ RowsAt wx u (p.rows ++ [goalS p.gain g]) ∧ Below w1.heap.size w1 wx)
            case first =>
              have HSX := Lib.hid (fun W (hW : Below w1.heap.size w1 W) => show Below w1.heap.size w1 W ∧ W.cell? ⟨w.heap.size, 0, none⟩ = some (.int .i64 p.vars) ∧ W.cell? ⟨w.heap.size, 1, none⟩ = some (.slice ra p.rows.length rc) ∧ W.cell? ⟨w.heap.size, 2, none⟩ = some (.slice ga p.gain.length gc) from
                ⟨hW, (hW.cell (by show w.heap.size < _; omega)).trans j0, (hW.cell (by show w.heap.size < _; omega)).trans j1, (hW.cell (by show w.heap.size < _; omega)).trans j2⟩)
              have hgoal := Lib.hid (fun W (hW : Below w1.heap.size w1 W) => goal_ref (.agg #[.int .i64 p.vars, .slice ra p.rows.length rc, .slice ga p.gain.length gc]) p g W ⟨_, _, rfl, HVR.out.below (HW.out.1.trans (hW.mono hz)), HVG.out.below (HW.out.1.trans (hW.mono hz))⟩ (by omega) hcg.out (by omega) (by omega))
              have HC := Lib.hid (show cs.length = p.rows.length * 6 ∧ (∀ W, Below w1.heap.size w1 W → ∀ q, ra = some q → ∀ j u, cs[j]? = some u → W.cell? (q.add j) = some u) ∧ (ra = none → p.rows.length = 0 ∧ rc = 0) ∧ (∀ u ∈ cs, u.oneCell' = true) from
                ⟨HF.out.len, fun W hW => HQ.out _ (HW.out.1.trans (hW.mono hz)), HN.out, flatC_one HF.out⟩)
              clear hB1
              go_region_held3 (fun w' => Below w1.heap.size w1 w' ∧ w'.cell? ⟨w.heap.size, 0, none⟩ = some (.int .i64 p.vars) ∧ w'.cell? ⟨w.heap.size, 1, none⟩ = some (.slice ra p.rows.length rc) ∧ w'.cell? ⟨w.heap.size, 2, none⟩ = some (.slice ga p.gain.length gc))
                  (first | exact ⟨(Below.refl _ _).drew, j0, j1, j2⟩ | exact HSX.out _ ((‹Below w1.heap.size w1 _ ∧ _›).1.trans hb57) | exact HSX.out _ ((‹Below w1.heap.size w1 _ ∧ _›).1.trans hb51) | exact HSX.out _ ((‹Below w1.heap.size w1 _ ∧ _›).1.trans (hB6.mono (‹Below w1.heap.size w1 _ ∧ _›).1.size)) | exact HSX.out _ ((‹Below w1.heap.size w1 _ ∧ _›).1.alloc (‹Below w1.heap.size w1 _ ∧ _›).1.size _) | exact HSX.out _ ((‹Below w1.heap.size w1 _ ∧ _›).1.alloc (‹Below w1.heap.size w1 _ ∧ _›).1.size _).drew | exact HSX.out _ (‹Below w1.heap.size w1 _ ∧ _›).1.drew | exact HSX.out _ ((Below.refl _ _).alloc (Nat.le_refl _) _).drew | exact HSX.out _ ((Below.refl _ _).alloc (Nat.le_refl _) _) | go_keep)
                  (first | (go_at_call 41; refine (hgoal.out _ (‹Below w1.heap.size w1 _ ∧ _›).1).mono ?_; rintro e w6 ⟨vG, rfl, hoG, hB6⟩; obtain ⟨Ga, Gc, rfl, -, -⟩ := owned_len hoG; have hV6 : Hid (w1.heap.size ≤ w6.heap.size) := Nat.le_trans (‹Below w1.heap.size w1 _ ∧ _›).1.size hB6.size; have HRO : Hid (∀ u ∈ ([.int .i64 0, .int .i64 0, .int .i64 0, .int .i64 0, .slice Ga (goalS p.gain g).coef.length Gc, .int .i64 (goalS p.gain g).most] : List Value), u.oneCell' = true) := rowO_one (show RowO w6 [.int .i64 0, .int .i64 0, .int .i64 0, .int .i64 0, .slice Ga (goalS p.gain g).coef.length Gc, .int .i64 (goalS p.gain g).most] (goalS p.gain g) from ⟨_, rfl, hoG⟩); first | (have HLT : Hid (w1.heap.size < w6.heap.size) := (Nat.lt_of_lt_of_le (by show w1.heap.size < (World.alloc _ _).heap.size; simp) hB6.size)) | skip) | (refine step_appT (v := v51) (n := p.rows.length) (m := 1) (c := 1) (xs := cs) (xa := some ⟨w6.heap.size, 0, none⟩) (news := [.int .i64 0, .int .i64 0, .int .i64 0, .int .i64 0, .slice Ga (goalS p.gain g).coef.length Gc, .int .i64 (goalS p.gain g).most]) rfl (.tmp 32) (.tmp 36) rfl w1.heap.size (owned_below ho51 (hB6.alloc hB6.size _)) rfl rfl rfl (fun q hq j u hj => by cases hq; rw [add_zero_off]; exact ((Blk.new w6 #[.int .i64 0, .int .i64 0, .int .i64 0, .int .i64 0, .slice Ga (goalS p.gain g).coef.length Gc, .int .i64 (goalS p.gain g).most] 26).cell j).trans (by simpa using hj)) (fun h => by cases h) HRO.out (by omega) (‹Below w1.heap.size w1 _ ∧ _›).1.size ?_; intro v57 w57 ho57 ht57 hk57 hb57; have hTG : T3 w6 w57 := (T3.of_below ((Below.refl _ _).alloc (Nat.le_refl _) _)).trans ht57; have hVw : Below w1.heap.size w1 w57 := (‹Below w1.heap.size w1 _ ∧ _›).1.trans hb57; obtain ⟨na, nc, rfl, hn1, hn2⟩ := owned_len ho57) | (refine step_appT (v := v51) (n := p.rows.length) (m := 1) (c := 1) (xs := cs) (xa := some ⟨w51.heap.size, 0, none⟩) (news := [.int .i64 0, .int .i64 0, .int .i64 0, .int .i64 0, .slice Ga (goalS p.gain g).coef.length Gc, .int .i64 (goalS p.gain g).most]) rfl (.tmp 32) (.tmp 36) rfl w1.heap.size (owned_below ho51 ((Below.refl _ _).alloc (Nat.le_refl _) _)) rfl rfl rfl (fun q hq j u hj => by cases hq; rw [add_zero_off]; exact ((Blk.new w51 #[.int .i64 0, .int .i64 0, .int .i64 0, .int .i64 0, .slice Ga (goalS p.gain g).coef.length Gc, .int .i64 (goalS p.gain g).most] 26).cell j).trans (by simpa using hj)) (fun h => by cases h) HRO.out (by omega) (‹Below w1.heap.size w1 _ ∧ _›).1.size ?_; intro v57 w57 ho57 ht57 hk57 hb57; have hTG : T3 w6 w57 := (ht51.trans (T3.of_below ((Below.refl _ _).alloc (Nat.le_refl _) _))).trans ht57; have hVw : Below w1.heap.size w1 w57 := (‹Below w1.heap.size w1 _ ∧ _›).1.trans hb57; obtain ⟨na, nc, rfl, hn1, hn2⟩ := owned_len ho57) | (refine step_appT (v := v51) (n := p.rows.length) (m := 1) (c := 1) (xs := cs) (xa := some ⟨w51.heap.size, 0, none⟩) (news := [.int .i64 0, .int .i64 0, .int .i64 0, .int .i64 0, .slice Ga (goalS p.gain g).coef.length Gc, .int .i64 (goalS p.gain g).most]) rfl (.tmp 32) (.tmp 36) rfl w1.heap.size (owned_below ho51 ((Below.refl _ _).alloc (Nat.le_refl _) _)) rfl rfl rfl (fun q hq j u hj => by cases hq; rw [add_zero_off]; exact ((Blk.new w51 #[.int .i64 0, .int .i64 0, .int .i64 0, .int .i64 0, .slice Ga (goalS p.gain g).coef.length Gc, .int .i64 (goalS p.gain g).most] 26).cell j).trans (by simpa using hj)) (fun h => by cases h) HRO.out (by omega) (‹Below w1.heap.size w1 _ ∧ _›).1.size ?_; intro v57 w57 ho57 ht57 hk57 hb57; have hTG : T3 w6 w57 := (((T3.of_below ((Below.refl _ _).alloc (Nat.le_refl _) _)).trans ht51).trans (T3.of_below ((Below.refl _ _).alloc (Nat.le_refl _) _))).trans ht57; have hVw : Below w1.heap.size w1 w57 := (‹Below w1.heap.size w1 _ ∧ _›).1.trans hb57; obtain ⟨na, nc, rfl, hn1, hn2⟩ := owned_len ho57) | (refine step_appT (v := v51) (n := p.rows.length) (m := 1) (c := 1) (xs := cs) (xa := some ⟨w6.heap.size, 0, none⟩) (news := [.int .i64 0, .int .i64 0, .int .i64 0, .int .i64 0, .slice Ga (goalS p.gain g).coef.length Gc, .int .i64 (goalS p.gain g).most]) rfl (.tmp 32) (.tmp 36) rfl w1.heap.size ho51 rfl rfl rfl (fun q hq j u hj => by cases hq; rw [add_zero_off]; exact ((show Blk w51 w6.heap.size #[.int .i64 0, .int .i64 0, .int .i64 0, .int .i64 0, .slice Ga (goalS p.gain g).coef.length Gc, .int .i64 (goalS p.gain g).most] 26 from (hk51 w6.heap.size (by show _ < (World.alloc _ _).heap.size; simp) (fun e2 => by have := HLT.out; simp [Value.ownBlock] at e2; omega)).trans (Blk.new w6 #[.int .i64 0, .int .i64 0, .int .i64 0, .int .i64 0, .slice Ga (goalS p.gain g).coef.length Gc, .int .i64 (goalS p.gain g).most] 26)).cell j).trans (by simpa using hj)) (fun h => by cases h) HRO.out (by omega) (‹Below w1.heap.size w1 _ ∧ _›).1.size ?_; intro v57 w57 ho57 ht57 hk57 hb57; have hTG : T3 w6 w57 := ((T3.of_below ((Below.refl _ _).alloc (Nat.le_refl _) _)).trans ht51).trans ht57; have hVw : Below w1.heap.size w1 w57 := (‹Below w1.heap.size w1 _ ∧ _›).1.trans hb57; obtain ⟨na, nc, rfl, hn1, hn2⟩ := owned_len ho57) | (refine step_appT (v := v51) (n := p.rows.length) (m := 1) (c := 1) (xs := cs) (xa := some ⟨(w6.heap.size + 1), 0, none⟩) (news := [.int .i64 0, .int .i64 0, .int .i64 0, .int .i64 0, .slice Ga (goalS p.gain g).coef.length Gc, .int .i64 (goalS p.gain g).most]) rfl (.tmp 32) (.tmp 36) rfl w1.heap.size ho51 rfl rfl rfl (fun q hq j u hj => by cases hq; rw [add_zero_off]; exact ((show Blk w51 (w6.heap.size + 1) #[.int .i64 0, .int .i64 0, .int .i64 0, .int .i64 0, .slice Ga (goalS p.gain g).coef.length Gc, .int .i64 (goalS p.gain g).most] 26 from (hk51 (w6.heap.size + 1) (by show _ < (World.alloc _ _).heap.size; simp) (fun e2 => by simp [Value.ownBlock] at e2)).trans (Blk.newAt (w6.alloc (.cells #[] 26)) #[.int .i64 0, .int .i64 0, .int .i64 0, .int .i64 0, .slice Ga (goalS p.gain g).coef.length Gc, .int .i64 (goalS p.gain g).most] 26 (by simp))).cell j).trans (by simpa using hj)) (fun h => by cases h) HRO.out (by omega) (‹Below w1.heap.size w1 _ ∧ _›).1.size ?_; intro v57 w57 ho57 ht57 hk57 hb57; have hTG : T3 w6 w57 := ((T3.of_below (((Below.refl _ _).alloc (Nat.le_refl _) _).alloc (by simp) _)).trans ht51).trans ht57; have hVw : Below w1.heap.size w1 w57 := (‹Below w1.heap.size w1 _ ∧ _›).1.trans hb57; obtain ⟨na, nc, rfl, hn1, hn2⟩ := owned_len ho57) | (refine step_appT (v := v51) (n := p.rows.length) (m := 1) (c := 1) (xs := cs) (xa := some ⟨w6.heap.size, 0, none⟩) (news := [.int .i64 0, .int .i64 0, .int .i64 0, .int .i64 0, .slice Ga (goalS p.gain g).coef.length Gc, .int .i64 (goalS p.gain g).most]) rfl (.tmp 32) (.tmp 36) rfl w1.heap.size ho51 rfl rfl rfl (fun q hq j u hj => by cases hq; rw [add_zero_off]; exact ((show Blk w51 w6.heap.size #[.int .i64 0, .int .i64 0, .int .i64 0, .int .i64 0, .slice Ga (goalS p.gain g).coef.length Gc, .int .i64 (goalS p.gain g).most] 26 from (hk51 w6.heap.size (by show _ < (World.alloc _ _).heap.size; simp <;> omega) (fun e2 => by simp [Value.ownBlock] at e2)).trans ((Blk.new w6 #[.int .i64 0, .int .i64 0, .int .i64 0, .int .i64 0, .slice Ga (goalS p.gain g).coef.length Gc, .int .i64 (goalS p.gain g).most] 26).alloc (.cells #[] 26))).cell j).trans (by simpa using hj)) (fun h => by cases h) HRO.out (by omega) (‹Below w1.heap.size w1 _ ∧ _›).1.size ?_; intro v57 w57 ho57 ht57 hk57 hb57; have hTG : T3 w6 w57 := ((T3.of_below (((Below.refl _ _).alloc (Nat.le_refl _) _).alloc (by simp) _)).trans ht51).trans ht57; have hVw : Below w1.heap.size w1 w57 := (‹Below w1.heap.size w1 _ ∧ _›).1.trans hb57; obtain ⟨na, nc, rfl, hn1, hn2⟩ := owned_len ho57) | (refine step_appT (w := (w1.alloc (.cells #[] 26)).drew) (v := .slice (some ⟨w1.heap.size, 0, none⟩) 0 0) (n := 0) (m := p.rows.length) (c := rc) (xs := []) (xa := ra) (news := cs) rfl (.tmp 29) (.tmp 31) rfl w1.heap.size (own_empty (B := w1.heap.size) (Blk.new w1 #[] 26) (Nat.le_refl _)) rfl rfl HC.out.1 (HC.out.2.1 _ (‹Below w1.heap.size w1 _ ∧ _›).1) HC.out.2.2.1 HC.out.2.2.2 (by omega) (‹Below w1.heap.size w1 _ ∧ _›).1.size ?_; intro v51 w51 ho51 ht51 hk51 hb51; rw [show 0 + p.rows.length = p.rows.length from Nat.zero_add _, List.nil_append] at ho51) | (refine step_appT (w := _) (v := .slice (some ⟨w1.heap.size, 0, none⟩) 0 0) (n := 0) (m := p.rows.length) (c := rc) (xs := []) (xa := ra) (news := cs) rfl (.tmp 29) (.tmp 31) rfl w1.heap.size (own_empty (B := w1.heap.size) ((Blk.new w1 #[] 26).below hB6 (by simp)) (Nat.le_refl _)) rfl rfl HC.out.1 (HC.out.2.1 _ (‹Below w1.heap.size w1 _ ∧ _›).1) HC.out.2.2.1 HC.out.2.2.2 (by omega) (‹Below w1.heap.size w1 _ ∧ _›).1.size ?_; intro v51 w51 ho51 ht51 hk51 hb51; rw [show 0 + p.rows.length = p.rows.length from Nat.zero_add _, List.nil_append] at ho51) | (refine step_appT (w := (w6.alloc (.cells #[.int .i64 0, .int .i64 0, .int .i64 0, .int .i64 0, .slice Ga (goalS p.gain g).coef.length Gc, .int .i64 (goalS p.gain g).most] 26)).drew) (v := .slice (some ⟨w1.heap.size, 0, none⟩) 0 0) (n := 0) (m := p.rows.length) (c := rc) (xs := []) (xa := ra) (news := cs) rfl (.tmp 29) (.tmp 31) rfl w1.heap.size (own_empty (B := w1.heap.size) (((Blk.new w1 #[] 26).below hB6 (by simp)).alloc (.cells #[.int .i64 0, .int .i64 0, .int .i64 0, .int .i64 0, .slice Ga (goalS p.gain g).coef.length Gc, .int .i64 (goalS p.gain g).most] 26)) (Nat.le_refl _)) rfl rfl HC.out.1 (HC.out.2.1 _ (‹Below w1.heap.size w1 _ ∧ _›).1) HC.out.2.2.1 HC.out.2.2.2 (by omega) (‹Below w1.heap.size w1 _ ∧ _›).1.size ?_; intro v51 w51 ho51 ht51 hk51 hb51; rw [show 0 + p.rows.length = p.rows.length from Nat.zero_add _, List.nil_append] at ho51) | (refine step_appT (w := (w6.alloc (.cells #[] 26)).drew) (v := .slice (some ⟨w6.heap.size, 0, none⟩) 0 0) (n := 0) (m := p.rows.length) (c := rc) (xs := []) (xa := ra) (news := cs) rfl (.tmp 29) (.tmp 31) rfl w1.heap.size (own_empty (B := w6.heap.size) (Blk.new w6 #[] 26) hV6.out) rfl rfl HC.out.1 (HC.out.2.1 _ (‹Below w1.heap.size w1 _ ∧ _›).1) HC.out.2.2.1 HC.out.2.2.2 (by omega) (‹Below w1.heap.size w1 _ ∧ _›).1.size ?_; intro v51 w51 ho51 ht51 hk51 hb51; rw [show 0 + p.rows.length = p.rows.length from Nat.zero_add _, List.nil_append] at ho51) | (refine step_appT (w := ((w6.alloc (.cells #[] 26)).alloc (.cells #[.int .i64 0, .int .i64 0, .int .i64 0, .int .i64 0, .slice Ga (goalS p.gain g).coef.length Gc, .int .i64 (goalS p.gain g).most] 26)).drew) (v := .slice (some ⟨w6.heap.size, 0, none⟩) 0 0) (n := 0) (m := p.rows.length) (c := rc) (xs := []) (xa := ra) (news := cs) rfl (.tmp 29) (.tmp 31) rfl w1.heap.size (own_empty (B := w6.heap.size) ((Blk.new w6 #[] 26).alloc (.cells #[.int .i64 0, .int .i64 0, .int .i64 0, .int .i64 0, .slice Ga (goalS p.gain g).coef.length Gc, .int .i64 (goalS p.gain g).most] 26)) hV6.out) rfl rfl HC.out.1 (HC.out.2.1 _ (‹Below w1.heap.size w1 _ ∧ _›).1) HC.out.2.2.1 HC.out.2.2.2 (by omega) (‹Below w1.heap.size w1 _ ∧ _›).1.size ?_; intro v51 w51 ho51 ht51 hk51 hb51; rw [show 0 + p.rows.length = p.rows.length from Nat.zero_add _, List.nil_append] at ho51) | (refine step_appT (w := ((w6.alloc (.cells #[.int .i64 0, .int .i64 0, .int .i64 0, .int .i64 0, .slice Ga (goalS p.gain g).coef.length Gc, .int .i64 (goalS p.gain g).most] 26)).alloc (.cells #[] 26)).drew) (v := .slice (some ⟨(w6.heap.size + 1), 0, none⟩) 0 0) (n := 0) (m := p.rows.length) (c := rc) (xs := []) (xa := ra) (news := cs) rfl (.tmp 29) (.tmp 31) rfl w1.heap.size (own_empty (B := (w6.heap.size + 1)) (Blk.newAt (w6.alloc (.cells #[.int .i64 0, .int .i64 0, .int .i64 0, .int .i64 0, .slice Ga (goalS p.gain g).coef.length Gc, .int .i64 (goalS p.gain g).most] 26)) #[] 26 (by simp)) (Nat.le_succ_of_le hV6.out)) rfl rfl HC.out.1 (HC.out.2.1 _ (‹Below w1.heap.size w1 _ ∧ _›).1) HC.out.2.2.1 HC.out.2.2.2 (by omega) (‹Below w1.heap.size w1 _ ∧ _›).1.size ?_; intro v51 w51 ho51 ht51 hk51 hb51; rw [show 0 + p.rows.length = p.rows.length from Nat.zero_add _, List.nil_append] at ho51))
              all_goals (
                go_wp2_with fail
                go_meet
                have hfg : FlatC 6 RowCs w57 [.int .i64 0, .int .i64 0, .int .i64 0, .int .i64 0, .slice Ga (goalS p.gain g).coef.length Gc, .int .i64 (goalS p.gain g).most] [goalS p.gain g] := ⟨_, [], (List.append_nil _).symm, rfl, RowO.row ⟨_, rfl, hoG.t hTG⟩, rfl⟩
                have hrv : RowsAt w57 (.slice na (p.rows ++ [goalS p.gain g]).length nc) (p.rows ++ [goalS p.gain g]) := flat_view (by rw [List.length_append]; exact ho57) ((HF.out.to (fun _ _ h => h.below (HW.out.1.trans (hVw.mono hz)))).app hfg)
                rw [List.length_append] at hrv
                exact ⟨na, nc, rfl, hrv, hVw⟩)
            case rest =>
              rename World => W5
              obtain ⟨qa, qc, rfl, hq5, hB5⟩ := hcut
              have hT5 := HW.out.1.trans (hB5.mono hz)
              have hk5 := HW.out.2.below hB5 hzk
              have i0 := hk5.cell 0
              have i1 := hk5.cell 1
              have i2 := hk5.cell 2
              simp only [List.getElem?_toArray, List.getElem?_cons_succ, List.getElem?_cons_zero] at i0 i1 i2
              have HQ5 := Lib.hid hq5
              clear j0 j1 j2 hq5
              go_wp2_with fail
              refine (undecided_all _ p _ ⟨_, _, rfl, HVR.out.below hT5, HVG.out.below hT5⟩ v1 v2).mono ?_
              rintro e w6 ⟨vd, rfl, hvd, hB6⟩
              rw [HN2.out] at hvd
              have HVD := Lib.hid hvd
              have hT6 := hT5.trans (hB6.mono hT5.size)
              clear hvd i0 i1 i2
              go_wp2_with fail
              refine (rwrong_any (n := n) (l := l) (W0 := w6) (HQ5.out.below hB6) (HL.out.below hT6) HRO.out (by omega) l.length 0 (fun _ => -1) w6 vd (by omega) hl0 (Below.refl _ _) (dcOK_none n) HVD.out).mono ?_
              rintro e w7 ⟨rfl, hB7⟩
              go_wp2
              go_ret
              exact ⟨rfl, hT6.trans (hB7.mono hT6.size)⟩
    · have d1 : decide ((8192 : Int) < (l.length : Int)) = true := decide_eq_true (by omega)
      have hbv : (inB g (-12000000000) 12000000000 && (checkV p (p.rows ++ [goalS p.gain g]) l == -1)) = false := by
        unfold checkV
        rw [if_neg (fun h => hlen h.2)]
        exact Bool.and_false _
      rw [hbv]
      clear hvr hvg hl hnil hbv hlen
      go_enter Try.func56, Try.ntmps56
      go_wp2_with fail
      refine HX.out.mono ?_
      rw [HV.out]
      rintro e w' ⟨rfl, hB⟩
      go_wp2
      go_ret
      exact ⟨rfl, HB.out.1.trans (hB.mono HB.out.1.size)⟩
end Go.Proofs.Ytblmpmapcdpaiaa

/- The reference's reached, Rows. -/
import Derived.Test.YtblmpmapcdpaiaaQ9
import Derived.Test.YtblmpmapcdpaiaaK8
import Derived.Laws.MakeOwn
namespace Go.Proofs.Ytblmpmapcdpaiaa
open Go.RowKit Lib

/-- R booleans. -/
def boolC (b : Nat → Bool) (R : Nat) : Array Value := ((List.range R).map fun i => Value.bool (b i)).toArray
theorem boolC_get {b : Nat → Bool} {R i : Nat} (h : i < R) : (boolC b R)[i]? = some (.bool (b i)) := by simp [boolC, h]
theorem boolC_set (b : Nat → Bool) (R j : Nat) : (boolC b R).setIfInBounds j (.bool true) = boolC (mark b j) R := by
  unfold boolC
  rw [List.setIfInBounds_toArray]
  congr 1
  apply List.ext_getElem?
  intro i
  rw [List.getElem?_set]
  by_cases hi : i < R
  · rw [List.getElem?_map, List.getElem?_map, List.getElem?_range hi]
    by_cases e : j = i
    · subst e; simp [hi, mark]
    · have e2 : ¬ i = j := fun h => e h.symm
      simp [e, e2, mark]
  · have hn : (List.range R)[i]? = none := List.getElem?_eq_none (by simp; omega)
    rw [List.getElem?_map, List.getElem?_map, hn]
    simp only [Option.map_none, List.length_map, List.length_range]
    split
    · rw [if_neg (by omega)]
    · rfl
theorem boolC_false (R : Nat) : madeCells #[.bool false] R = boolC (fun _ => false) R := by
  apply Array.ext'
  rw [toList_madeCells_one]
  unfold boolC
  exact (List.eq_replicate_iff.2 ⟨by simp, fun b hb => by simp at hb; exact hb.2.symm⟩).symm
theorem E112 : ElemOK Try.prog 112 4 (.bool false) 1 1 := ⟨Try.underlying112, by kernel_rfl, rfl, by decide⟩
theorem mk112 (n : Nat) (hn : n ≤ 1000000) (w : World) : (Instr.makeSlice 112 (.int .i64 n) (.int .i64 n)).run Try.prog w = .ok (.slice (some ⟨w.heap.size, 0, none⟩) n n) (w.alloc (.cells (boolC (fun _ => false) n) 4)) := by
  obtain ⟨i, hi, hz0, hz1, hz2⟩ := info_parts E112.info
  have h := run_make (P := Try.prog) w 112 4 i _ E112.und hi hz0 .i64 .i64 n n (by omega) (Int.le_refl _) (by rw [hz2]; omega) (by omega)
  rw [Int.toNat_natCast, hz1, Nat.mul_one] at h
  rw [← boolC_false]
  exact h
theorem wrongV_ok_case {rows : List RowD} {l : List StepD} {n f at_ : Nat} {dc : Dc} {s : StepD} (hs : l[at_]? = some s) (hv : s.var ≠ -1) (h : wrongV rows l n (f + 1) at_ dc = -1) :
    (∃ nn ny : Nat, s.no = nn ∧ s.yes = ny ∧ at_ < nn ∧ nn < l.length ∧ at_ < ny ∧ ny < l.length ∧ (∃ d1, wrongV rows l n f nn d1 = -1) ∧ (∃ d2, wrongV rows l n f ny d2 = -1)) := by
  cases hc : (caseA n s dc && caseC l.length at_ s) with
  | false => rw [wrongV_bad hs hv hc] at h; omega
  | true =>
    rw [wrongV_case hs hv hc] at h
    have hcc := (Bool.and_eq_true _ _ ▸ hc : caseA n s dc = true ∧ caseC l.length at_ s = true).2
    unfold caseC inB at hcc
    simp only [Bool.and_eq_true, decide_eq_true_eq] at hcc
    obtain ⟨nn, hnn⟩ := Int.eq_ofNat_of_zero_le (show 0 ≤ s.no by omega)
    obtain ⟨ny, hny⟩ := Int.eq_ofNat_of_zero_le (show 0 ≤ s.yes by omega)
    rw [hnn, hny, Int.toNat_natCast, Int.toNat_natCast] at h
    by_cases h1 : wrongV rows l n f nn (upd dc s.var.toNat 0) = -1
    · rw [if_pos h1] at h
      exact ⟨nn, ny, hnn, hny, by omega, by omega, by omega, by omega, ⟨_, h1⟩, ⟨_, h⟩⟩
    · rw [if_neg h1] at h
      exact absurd h h1
theorem wrongV_ok_leaf {rows : List RowD} {l : List StepD} {n f at_ : Nat} {dc : Dc} {s : StepD} (hs : l[at_]? = some s) (hv : s.var = -1) (h : wrongV rows l n (f + 1) at_ dc = -1) :
    ∀ i, i < s.wts.length → ∃ j : Nat, (s.wts.getD i wt0).row = j ∧ j < rows.length := by
  rw [wrongV_leaf hs hv] at h
  have hlv : leafV rows n s dc = true := by
    cases hq : leafV rows n s dc with
    | true => rfl
    | false => rw [hq] at h; simp at h
  unfold leafV at hlv
  simp only [Bool.and_eq_true] at hlv
  intro i hi
  have h1 := lastK_ge (R := rows.length) (wts := s.wts) i (fun j hj => okW_at hlv.2.1 (by omega))
  obtain ⟨h2, h3, -⟩ := wtB_true (okW_at hlv.2.1 hi)
  obtain ⟨j, hj⟩ := Int.eq_ofNat_of_zero_le (show 0 ≤ (s.wts.getD i wt0).row by omega)
  exact ⟨j, hj, by omega⟩
set_option maxRecDepth 100000 in
set_option maxHeartbeats 4000000 in
theorem reached_any {W0 : World} {n : Nat} {rows : List RowD} {l : List StepD} {vl : Value} (hvl : StepsAt W0 vl l) (hR : rows.length ≤ 1000) :
    ∀ (f at_ : Nat) (dc : Dc) (b : Nat → Bool) (W : World) (U : Nat), l.length ≤ f + at_ → at_ < l.length → wrongV rows l n f at_ dc = -1 → Below W0.heap.size W0 W → W0.heap.size ≤ U → Blk W U (boolC b rows.length) 4 →
      Calls Try.prog 85 #[vl, .int .i64 (at_ : Nat), .slice (some ⟨U, 0, none⟩) rows.length rows.length] W fun e w' => e = .returned (.tuple #[]) ∧ Blk w' U (boolC (usedV l f at_ b) rows.length) 4 ∧ Below W0.heap.size W0 w' ∧ Frm (fun k => k = U) W w' := by
  intro f
  induction f with
  | zero => intro at_ dc b W U h1 h2; omega
  | succ f ih =>
    intro at_ dc b W U hfuel hal hwr hB0 hU hbk
    have hs := List.getElem?_eq_getElem hal
    generalize l[at_] = s at hs
    have HIH := Lib.hid ih
    clear ih
    obtain ⟨la, lc, rfl, hl1, hl2⟩ := (show SlicesLen vl l.length from hvl.len)
    unfold maxLen at hl2
    obtain ⟨sb, so, vw, rfl, s0, s1, s2, s3, hw⟩ := hvl.getC hs
    obtain ⟨wa, wc, rfl, hw1, hw2⟩ := (show SlicesLen vw s.wts.length from hw.len)
    unfold maxLen at hw2
    have hat : (0 : Int) ≤ (at_ : Int) ∧ (at_ : Int) < (l.length : Int) := by omega
    have HC := Lib.hid (fun W (hW : Below W0.heap.size W0 W) => show W.cell? ⟨sb, so + at_ * 4, none⟩ = some (.int .i64 s.var) ∧ W.cell? ⟨sb, so + at_ * 4 + 1, none⟩ = some (.int .i64 s.no) ∧ W.cell? ⟨sb, so + at_ * 4 + 2, none⟩ = some (.int .i64 s.yes) ∧ W.cell? ⟨sb, so + at_ * 4 + 3, none⟩ = some (.slice wa s.wts.length wc) from
      ⟨(hW.cell (World.block_lt_of_cell? _ _ s0)).trans s0, (hW.cell (World.block_lt_of_cell? _ _ s1)).trans s1, (hW.cell (World.block_lt_of_cell? _ _ s2)).trans s2, (hW.cell (World.block_lt_of_cell? _ _ s3)).trans s3⟩)
    have hsz : sb < W0.heap.size := World.block_lt_of_cell? _ _ s0
    have HWT := Lib.hid hw
    have HB0 := Lib.hid hB0
    have HBK := Lib.hid hbk
    clear s0 s1 s2 s3 hw
    by_cases hv : s.var = -1
    · have q0 : (s.var == -1) = true := by rw [hv]; rfl
      have hrng := Lib.hid (wrongV_ok_leaf hs hv hwr)
      rw [usedV_leaf (f := f) (b := b) hs hv]
      clear hv hwr hvl hs
      obtain ⟨c0, c1, c2, c3⟩ := HC.out W hB0
      clear hB0 hbk
      go_enter Try.func85, Try.ntmps85
      go_wp2_with fail
      clear c0 c1 c2 c3
      go_loopw [6] (fun u6 wr => ∃ i : Nat, i ≤ s.wts.length ∧ u6 = .int .i64 i ∧ Blk wr U (boolC (markW b s.wts i) rows.length) 4 ∧ Below W0.heap.size W0 wr ∧ Frm (fun k => k = U) W wr) (fun u6 _ => (s.wts.length - Go.RowKit.intOf u6).toNat)
      case atStart => exact ⟨0, by omega, rfl, HBK.out, HB0.out, Frm.refl _ _⟩
      case round =>
        obtain ⟨i, hi, rfl, hk, hB, hF⟩ := hrel
        obtain ⟨c0, c1, c2, c3⟩ := HC.out wr hB
        by_cases hil : i < s.wts.length
        · obtain ⟨j, hj, hjr⟩ := hrng.out i hil
          obtain ⟨wb, wo, rfl, t0, t1⟩ := (HWT.out.below hB).getC (getD_some wt0 hil)
          rw [hj] at t0
          have HM : Hid (markW b s.wts (i + 1) = mark (markW b s.wts i) j) := by show mark _ _ = _; rw [hj, Int.toNat_natCast]
          have hset := Lib.hid (boolC_set (markW b s.wts i) rows.length j)
          have k0 : wr.cell? ⟨U, j, none⟩ = some (.bool (markW b s.wts i j)) := (hk.cell j).trans (boolC_get hjr)
          have f0 := hk.frozen j
          have hji : (0 : Int) ≤ (j : Int) ∧ (j : Int) < (rows.length : Int) := by omega
          have hii : (0 : Int) ≤ (i : Int) ∧ (i : Int) < (s.wts.length : Int) := by omega
          have HK := Lib.hid (hk.set j (.bool true))
          have HBS := Lib.hid (hB.setCell (p := ⟨U, j, none⟩) hU (.bool true))
          have HFS := Lib.hid (hF.setCell (b := U) (o := j) (fun _ => rfl) (.bool true))
          clear hj hk hB hF
          generalize markW b s.wts i j = bv at *
          go_wp2
          go_roundw
          case rel => exact ⟨i + 1, by omega, by go_num, by rw [HM.out, ← hset.out]; exact HK.out, HBS.out, HFS.out⟩
          case measure => simp [Go.RowKit.intOf]; omega
        · obtain rfl : i = s.wts.length := by omega
          go_wp2
          first
            | go_end0
            | refine bodyPost_ret (results_none rfl _ _ _) rfl ?_
          exact ⟨rfl, hk, hB, hF⟩
    · have q0 : (s.var == -1) = false := beq_eq_false_iff_ne.2 hv
      obtain ⟨nn, ny, hnn, hny, h1, h2, h3, h4, ⟨d1, hd1⟩, ⟨d2, hd2⟩⟩ := wrongV_ok_case hs hv hwr
      have HU : Hid (usedV l (f + 1) at_ b = usedV l f ny (usedV l f nn b)) := by rw [usedV_case (f := f) (b := b) hs hv, hnn, hny, Int.toNat_natCast, Int.toNat_natCast]; rfl
      obtain ⟨c0, c1, c2, c3⟩ := HC.out W hB0
      rw [hnn] at c1
      clear hv hwr hvl hs hB0 hbk
      go_enter Try.func85, Try.ntmps85
      go_wp2_with fail
      refine (HIH.out nn d1 b _ U (by omega) h2 hd1 HB0.out hU HBK.out).mono ?_
      rintro e w1 ⟨rfl, hk1, hB1, hF1⟩
      clear c0 c1 c2 c3
      obtain ⟨c0, c1, c2, c3⟩ := HC.out w1 hB1
      rw [hny] at c2
      have HK1 := Lib.hid (And.intro hk1 (And.intro hB1 hF1))
      clear hk1 hB1 hF1
      go_wp2_with fail
      refine (HIH.out ny d2 _ _ U (by omega) h4 hd2 HK1.out.2.1 hU HK1.out.1).mono ?_
      rintro e w2 ⟨rfl, hk2, hB2, hF2⟩
      go_wp2
      first
        | go_end0
        | refine bodyPost_ret (results_none rfl _ _ _) rfl ?_
      exact ⟨rfl, by rw [HU.out]; exact hk2, hB2, HK1.out.2.2.trans hF2 (fun _ _ e => e)⟩
/-- The marked numbers below k. -/
def mk (bu : Nat → Bool) (k : Nat) : List Int := ((List.range k).filter bu).map fun i : Nat => (i : Int)
theorem mk_yes {bu : Nat → Bool} {k : Nat} (h : bu k = true) : mk bu (k + 1) = mk bu k ++ [(k : Int)] := by unfold mk; rw [List.range_succ, List.filter_append, List.map_append]; simp [h]
theorem mk_no {bu : Nat → Bool} {k : Nat} (h : bu k = false) : mk bu (k + 1) = mk bu k := by unfold mk; rw [List.range_succ, List.filter_append, List.map_append]; simp [h]
theorem mk_len (bu : Nat → Bool) (k : Nat) : (mk bu k).length ≤ k := by unfold mk; rw [List.length_map]; have := List.length_filter_le bu (List.range k); rw [List.length_range] at this; exact this
theorem wrongD_ok {p : ProgD} {l : List StepD} (h : wrongD p l = -1) : 0 < l.length ∧ ∃ n : Nat, wrongV p.rows l n l.length 0 (fun _ => -1) = -1 := by
  unfold wrongD checkV at h
  split at h
  · split at h
    · omega
    · exact ⟨by omega, _, h⟩
  · omega
set_option maxRecDepth 100000 in
set_option maxHeartbeats 4000000 in
theorem rrows_any (v vl : Value) (p : ProgD) (l : List StepD) (w : World) (hv : ProgV w v p) (hl : StepsAt w vl l) (hrl : p.rows.length ≤ 1000) :
    Calls Try.prog 53 #[v, vl] w fun e w' => ∃ v', e = .returned v' ∧ IntsAt w' v' (rowsU p l) ∧ Below w.heap.size w w' := by
  obtain ⟨vr, vg, rfl, hvr, hvg⟩ := hv
  obtain ⟨ra, rc, rfl, hr1, hr2⟩ := (show SlicesLen vr p.rows.length from hvr.len)
  obtain ⟨ga, gc, rfl, -, -⟩ := (show SlicesLen vg p.gain.length from hvg.len)
  obtain ⟨la, lc, rfl, hl1, hl2⟩ := (show SlicesLen vl l.length from hl.len)
  unfold maxLen at hl2 hr2
  have hB0 : Below w.heap.size w (w.alloc (.cells #[.int .i64 p.vars, .slice ra p.rows.length rc, .slice ga p.gain.length gc] 29)) := (Below.refl _ _).alloc (Nat.le_refl _) _
  have hk0 : Blk (w.alloc (.cells #[.int .i64 p.vars, .slice ra p.rows.length rc, .slice ga p.gain.length gc] 29)) w.heap.size #[.int .i64 p.vars, .slice ra p.rows.length rc, .slice ga p.gain.length gc] 29 := Blk.new _ _ _
  have hx := rrefutes_any _ _ p l _ ⟨_, _, rfl, hvr.below hB0, hvg.below hB0⟩ (hl.below hB0)
  have HX := Lib.hid hx
  have HB := Lib.hid (And.intro hB0 hk0)
  have HL := Lib.hid hl
  clear hx hB0 hk0 hvr hvg hl
  by_cases hw : wrongD p l = -1
  · have HU : Hid (rowsU p l = mk (usedV l l.length 0 fun _ => false) p.rows.length) := by unfold rowsU; rw [if_pos hw]; rfl
    obtain ⟨hl0, n, hwr⟩ := wrongD_ok hw
    have HWR := Lib.hid hwr
    have HQ : Hid ((wrongD p l == -1) = true) := by show (wrongD p l == -1) = true; rw [hw]; rfl
    generalize rowsU p l = res at HU ⊢
    have hmk := mk112 p.rows.length (by omega)
    clear hw hwr
    go_enter Try.func53, Try.ntmps53
    go_wp2_with fail
    refine HX.out.mono ?_
    rw [HQ.out]
    rintro e w1 ⟨rfl, hB⟩
    have hB1 := HB.out.1.trans (hB.mono HB.out.1.size)
    have hk1 := HB.out.2.below hB HB.out.2.lt
    have j1 := hk1.cell 1
    simp only [List.getElem?_toArray, List.getElem?_cons_succ, List.getElem?_cons_zero] at j1
    have HB1 := Lib.hid hB1
    have hz := hB1.size
    clear hB hk1 hB1 HX HB
    go_wp2_with fail
    have hmB : Below w1.heap.size w1 (w1.alloc (.cells (boolC (fun _ => false) p.rows.length) 4)) := (Below.refl _ _).alloc (Nat.le_refl _) _
    have hcall := reached_any (rows := p.rows) (n := n) (W0 := w1) (HL.out.below HB1.out) hrl l.length 0 (fun _ => -1) (fun _ => false) (w1.alloc (.cells (boolC (fun _ => false) p.rows.length) 4)) w1.heap.size (by omega) hl0 HWR.out hmB (Nat.le_refl _) (Blk.new _ _ _)
    refine hcall.mono ?_
    rintro e w2 ⟨rfl, hk2, hB2, -⟩
    have HK2 := Lib.hid hk2
    have hlk := hk2.lt
    have HB2 := Lib.hid (HB1.out.trans (hB2.mono HB1.out.size))
    generalize (usedV l l.length 0 fun _ => false) = bu at HU HK2
    clear hcall hk2 hB2 hmB j1 hmk
    go_wp2_with fail
    go_loopw [6, 7] (fun u6 u7 wr => ∃ k : Nat, k ≤ p.rows.length ∧ u7 = .int .i64 k ∧ wr.ownsRow w2.heap.size 3 1 u6 (mk bu k).length ((mk bu k).map (Value.int .i64)) ∧ Below w2.heap.size w2 wr) (fun _ u7 _ => (p.rows.length - Go.RowKit.intOf u7).toNat)
    case atStart => exact ⟨0, by omega, rfl, World.ownsRow_nil _ _ _ _, Below.refl _ _⟩
    case round =>
      obtain ⟨k, hk, rfl, hown, hBk⟩ := hrel
      have hml := mk_len bu k
      have hzk := hBk.size
      by_cases hkr : k < p.rows.length
      · have hc := ((HK2.out.below hBk hlk).cell k).trans (boolC_get hkr)
        have hkk : (0 : Int) ≤ (k : Int) ∧ (k : Int) < (p.rows.length : Int) := by omega
        cases hbu : bu k with
        | false =>
          rw [hbu] at hc
          have HN := Lib.hid (mk_no hbu)
          clear hbu
          go_wp2
          go_roundw
          case rel => exact ⟨k + 1, by omega, by go_num, by rw [HN.out]; exact hown, hBk⟩
          case measure => simp [Go.RowKit.intOf]; omega
        | true =>
          rw [hbu] at hc
          have HN := Lib.hid (mk_yes hbu)
          clear hbu
          go_wp2_with (at_builtin; refine wpList_push E24 rfl _ _ rfl w2.heap.size hown rfl rfl rfl (by unfold maxLen; omega) (by omega) hzk ?_; intro v' w3 hown' hgrow hb1)
          go_roundw
          case rel => exact ⟨k + 1, by omega, by go_num, by rw [HN.out]; simpa using hown', hBk.trans hb1⟩
          case measure => simp [Go.RowKit.intOf]; omega
      · obtain rfl : k = p.rows.length := by omega
        go_wp2
        go_ret
        exact ⟨_, rfl, by rw [HU.out]; exact owned_slice hown, HB2.out.trans (hBk.mono HB2.out.size)⟩
  · have HU : Hid (rowsU p l = []) := by unfold rowsU; rw [if_neg hw]; rfl
    have HQ : Hid ((wrongD p l == -1) = false) := beq_eq_false_iff_ne.2 hw
    generalize rowsU p l = res at HU ⊢
    clear hw
    go_enter Try.func53, Try.ntmps53
    go_wp2_with fail
    refine HX.out.mono ?_
    rw [HQ.out]
    rintro e w1 ⟨rfl, hB⟩
    go_wp2
    go_ret
    exact ⟨_, rfl, by rw [HU.out]; exact ⟨none, 0, rfl, by simp, by unfold maxLen; omega, fun h => by simp at h⟩, HB.out.1.trans (hB.mono HB.out.1.size)⟩
end Go.Proofs.Ytblmpmapcdpaiaa

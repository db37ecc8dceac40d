/- nadirref23.Refutes, about plain proofs: a case; all. -/
import Derived.Test.YtblmpmapcdpaiaaR10
namespace Go.Proofs.Ytblmpmapcdpaiaa
open Go.RowKit Lib

theorem own_open {W : World} {base n : Nat} {v : Value} {xs : List Value} (h : W.ownsRow base 3 1 v n xs) (hn : 0 < n) : ∃ g cap cur, v = .slice (some ⟨g, 0, none⟩) n cap ∧ base ≤ g ∧ Blk W g cur 3 := by
  rcases h.2 with ⟨-, h0⟩ | ⟨g, cap, cur, e, h1, h2, -⟩
  · omega
  · exact ⟨g, cap, cur, e, h1, h2⟩
theorem map_set_ints (l : List Int) (d : Nat) (y : Int) : (l.map (Value.int .i64)).set d (.int .i64 y) = (l.set d y).map (Value.int .i64) := by rw [List.map_set]
set_option maxRecDepth 100000 in
set_option maxHeartbeats 4000000 in
theorem refutes_case (rows : List RowD) (l : List StepD) (dec : List Int) (f i d no yes : Nat) (w : World) (vr vl vd : Value) (hli : l[i]? = some ⟨d, no, yes, []⟩) (hd : d < dec.length) (h1 : i < no) (h2 : i < yes)
    (hn : dec.length ≤ 12) (hvr : RowsAt w vr rows) (hvl : StepsAt w vl l) (hvd : IntsAt w vd dec)
    (ih : ∀ (k : Nat) (dc : List Int) (W : World) (v : Value), i < k → dc.length = dec.length → Below w.heap.size w W → IntsAt W v dc → Calls Try.prog 40 #[vr, vl, .int .i64 k, v] W fun e w' => e = .returned (.bool (refB rows l f k dc)) ∧ Below W.heap.size W w') :
    Calls Try.prog 40 #[vr, vl, .int .i64 i, vd] w fun e w' => e = .returned (.bool (refB rows l (f + 1) i dec)) ∧ Below w.heap.size w w' := by
  have hil : i < l.length := by
    refine Classical.byContradiction fun hc => ?_
    rw [List.getElem?_eq_none (by omega)] at hli; cases hli
  obtain ⟨la, lc, rfl, hl1, hl2⟩ := (show SlicesLen vl l.length from hvl.len)
  obtain ⟨sb, so, vw, rfl, s0, s1, s2, s3, hw⟩ := hvl.get hli
  obtain ⟨wa, wc, rfl, hw1, hw2⟩ := (show SlicesLen vw 0 from hw.len)
  have hres := refB_case (rows := rows) (f := f) (dec := dec) hli
  have hsd := getD_some (0 : Int) hd
  obtain ⟨da, dc, rfl, hd1, hd2⟩ := (show SlicesLen vd dec.length from hvd.len)
  obtain ⟨db, dO, rfl, hdc⟩ := hvd.get hsd
  obtain ⟨ra, rc, rfl, -, -⟩ := (show SlicesLen vr rows.length from hvr.len)
  unfold maxLen at hl2 hw2 hd2
  have ls0 := World.block_lt_of_cell? _ _ s0
  have ld0 := World.block_lt_of_cell? _ _ hdc
  simp only at ls0 ld0 s0 s1 s2 s3
  have HD := Lib.hid hvd
  have HI := Lib.hid ih
  have hii : (0 : Int) ≤ (i : Int) ∧ (i : Int) < (l.length : Int) := by omega
  have hdd : (0 : Int) ≤ (d : Int) ∧ (d : Int) < (dec.length : Int) := by omega
  have q0 : decide ((i : Int) < 0) = false := decide_eq_false (by omega)
  have q1 : decide (l.length ≤ i) = false := decide_eq_false (by omega)
  have q2 : decide ((d : Int) < 0) = false := decide_eq_false (by omega)
  have q3 : decide (dec.length ≤ d) = false := decide_eq_false (by omega)
  have q4 : decide (no ≤ i) = false := decide_eq_false (by omega)
  have q5 : decide (yes ≤ i) = false := decide_eq_false (by omega)
  have q6 : ((d : Int) == -1) = false := beq_eq_false_iff_ne.2 (by omega)
  have q7 : ¬ ((d : Int) = -1) := by omega
  rw [hres]
  clear hvr hvl hvd hw hli hres ih
  generalize hy : dec.getD d 0 = y at hdc ⊢
  have HY := Lib.hid (hy ▸ hsd)
  clear hy hsd
  by_cases hy0 : 0 ≤ y
  · rw [if_pos hy0]
    have q8 : decide (0 ≤ y) = true := decide_eq_true hy0
    go_enter Try.func40, Try.ntmps40
    go_wp2
    go_ret
    exact ⟨rfl, (Below.refl _ _).alloc (Nat.le_refl _) _⟩
  · rw [if_neg hy0]
    have q8 : decide (0 ≤ y) = false := decide_eq_false hy0
    go_enter Try.func40, Try.ntmps40
    have hdl : 0 < dec.length := by omega
    have hcs : ∀ W, Below w.heap.size w W → ∀ j y, dec[j]? = some y → W.cell? ((⟨db, dO, none⟩ : Addr).add j) = some (.int .i64 y) := fun W hW j y hj => by
      obtain ⟨b, o, e, hc⟩ := (HD.out.below hW).get hj
      cases e
      rw [addr_add]; exact hc
    have HCS := Lib.hid hcs
    clear hcs
    have HM : Hid ((dec.map (Value.int .i64))[d]? = some (.int .i64 y)) := by rw [List.getElem?_map, HY.out]; exact rfl
    have HO0 : Hid (World.ownsRow ((w.alloc (.cells #[.int .i64 d, .int .i64 no, .int .i64 yes, .slice wa 0 wc] 80)).alloc (.cells #[] 3)) (w.heap.size + 1) 3 1 (.slice (some ⟨w.heap.size + 1, 0, none⟩) 0 0) 0 []) := own3_empty (Blk.newAt _ _ _ (by simp)) (Nat.le_refl _)
    have HC0 : Hid (∀ j y, dec[j]? = some y → ((w.alloc (.cells #[.int .i64 d, .int .i64 no, .int .i64 yes, .slice wa 0 wc] 80)).alloc (.cells #[] 3)).cell? ((⟨db, dO, none⟩ : Addr).add j) = some (.int .i64 y)) := HCS.out _ (((Below.refl _ _).alloc (Nat.le_refl _) _).alloc (by simp) _)
    go_wp2_with (first | (at_builtin; refine wpList_ints (l := dec) (p := ⟨db, dO, none⟩) rfl (.tmp 210) (.tmp 211) rfl (w.heap.size + 1) HO0.out rfl rfl rfl HC0.out (by omega) (by simp) ?_; intro v1 w1 hown1 hb1; obtain ⟨g1, c1, cur1, rfl, hg1, kg1⟩ := own_open hown1 hdl; have hB1 : Below w.heap.size w w1 := (((Below.refl _ _).alloc (Nat.le_refl _) _).alloc (by simp) _).trans (hb1.mono (by omega)); have kst1 : Blk w1 w.heap.size #[.int .i64 d, .int .i64 no, .int .i64 yes, .slice wa 0 wc] 80 := (hb1.block _ (by omega)).trans ((Blk.new w _ 80).alloc _); have t0 := kst1.cell 0; simp only [List.getElem?_toArray, List.getElem?_cons_zero] at t0; have z1 := kg1.frozen d; have y1 := hown1.cells rfl d _ HM.out; rw [add_zero_off] at y1; have n1 : ¬ (w.heap.size = g1) := (by omega); have l1 : g1 < w1.heap.size := kg1.lt; have HO1 : Hid (World.ownsRow ((w1.setCell ⟨g1, d, none⟩ (.int .i64 0)).alloc (.cells #[] 3)) w1.heap.size 3 1 (.slice (some ⟨w1.heap.size, 0, none⟩) 0 0) 0 []) := own3_empty (Blk.newAt _ _ _ (by simp)) (Nat.le_refl _); have hBs : Below w.heap.size w (w1.setCell ⟨g1, d, none⟩ (.int .i64 0)) := hB1.setCell (p := ⟨g1, d, none⟩) (by show w.heap.size ≤ g1; omega) _; have HC1 : Hid (∀ j y, dec[j]? = some y → ((w1.setCell ⟨g1, d, none⟩ (.int .i64 0)).alloc (.cells #[] 3)).cell? ((⟨db, dO, none⟩ : Addr).add j) = some (.int .i64 y)) := HCS.out _ (hBs.alloc (by have := hB1.size; simp <;> omega) _)) | (at_builtin; refine wpList_ints (l := dec) (p := ⟨db, dO, none⟩) rfl (.tmp 217) (.tmp 218) rfl w1.heap.size HO1.out rfl rfl rfl HC1.out (by omega) (by simp) ?_; intro v2 w2 hown2 hb2; obtain ⟨g2, c2, cur2, rfl, hg2, kg2⟩ := own_open hown2 hdl; have hb12 : Below w1.heap.size (w1.setCell ⟨g1, d, none⟩ (.int .i64 0)) w2 := ((Below.refl _ _).alloc (by simp) _).trans hb2; have kst2 : Blk w2 w.heap.size #[.int .i64 d, .int .i64 no, .int .i64 yes, .slice wa 0 wc] 80 := (hb12.block _ (by have := hB1.size; have := kst1.lt; omega)).trans (kst1.other _ n1); have t0' := kst2.cell 0; have t1' := kst2.cell 1; have t2' := kst2.cell 2; simp only [List.getElem?_toArray, List.getElem?_cons_succ, List.getElem?_cons_zero] at t0' t1' t2'; have z2 := kg2.frozen d; have y2 := hown2.cells rfl d _ HM.out; rw [add_zero_off] at y2; have n2 : ¬ (w.heap.size = g2) := (by have := kst1.lt; omega)))
    have n3 : ¬ (g1 = g2) := by omega
    have hB2 : Below w.heap.size w w2 := hBs.trans (hb12.mono hB1.size)
    have hB3 : Below w.heap.size w (w2.setCell ⟨g2, d, none⟩ (.int .i64 1)) := hB2.setCell (p := ⟨g2, d, none⟩) (by have := hB1.size; show w.heap.size ≤ g2; omega) _
    have ho1 : World.ownsRow (w2.setCell ⟨g2, d, none⟩ (.int .i64 1)) (w.heap.size + 1) 3 1 (.slice (some ⟨g1, 0, none⟩) dec.length c1) (dec.set d 0).length ((dec.set d 0).map (Value.int .i64)) := by
      rw [← map_set_ints, List.length_set]
      have h1 := (hown1.stored d (.int .i64 0)).1
      have h2 : World.ownsRow w2 (w.heap.size + 1) 3 1 (.slice (some ⟨g1, 0, none⟩) dec.length c1) dec.length ((dec.map (Value.int .i64)).set d (.int .i64 0)) := owned_below h1 (hb12.mono (by simp))
      exact ownsRow_set_ne h2 (fun g hg => by have e : g1 = g := Option.some.inj hg; omega) d _
    have ho2 : World.ownsRow (w2.setCell ⟨g2, d, none⟩ (.int .i64 1)) w1.heap.size 3 1 (.slice (some ⟨g2, 0, none⟩) dec.length c2) (dec.set d 1).length ((dec.set d 1).map (Value.int .i64)) := by
      rw [← map_set_ints, List.length_set]
      exact (hown2.stored d (.int .i64 1)).1
    have hx := HI.out no (dec.set d 0) (w2.setCell ⟨g2, d, none⟩ (.int .i64 1)) (.slice (some ⟨g1, 0, none⟩) dec.length c1) h1 (List.length_set) hB3 (by have := owned_slice ho1; exact this)
    have hy2 := Lib.hid (fun W (hW : Below (w2.setCell ⟨g2, d, none⟩ (.int .i64 1)).heap.size (w2.setCell ⟨g2, d, none⟩ (.int .i64 1)) W) => HI.out yes (dec.set d 1) W (.slice (some ⟨g2, 0, none⟩) dec.length c2) h2 (List.length_set) (hB3.trans (hW.mono hB3.size)) ((show IntsAt _ _ _ from owned_slice ho2).below hW))
    have kst3 : Blk (w2.setCell ⟨g2, d, none⟩ (.int .i64 1)) w.heap.size #[.int .i64 d, .int .i64 no, .int .i64 yes, .slice wa 0 wc] 80 := kst2.other _ n2
    cases hr : refB rows l f no (dec.set d 0) with
    | false =>
      rw [hr] at hx
      clear hy2 HI HD HCS HC0 HO0 HC1 HO1
      refine hx.mono ?_
      rintro e w4 ⟨rfl, hB4⟩
      go_wp2
      go_ret
      exact ⟨by first | rfl | (rw [hr]; rfl), hB3.trans (hB4.mono hB3.size)⟩
    | true =>
      rw [hr] at hx
      refine hx.mono ?_
      rintro e w4 ⟨rfl, hB4⟩
      have kst4 := kst3.below hB4 kst3.lt
      have u2 := kst4.cell 2
      simp only [List.getElem?_toArray, List.getElem?_cons_succ, List.getElem?_cons_zero] at u2
      have hx2 := hy2.out w4 hB4
      clear hx hy2 HI HD HCS HC0 HO0 HC1 HO1
      cases hr2 : refB rows l f yes (dec.set d 1) with
      | false =>
        rw [hr2] at hx2
        go_wp2_with fail
        refine hx2.mono ?_
        rintro e w5 ⟨rfl, hB5⟩
        go_wp2
        go_ret
        exact ⟨by first | rfl | (rw [hr, hr2]; rfl) | (rw [hr2]; rfl) | (rw [hr]; rfl), (hB3.trans (hB4.mono hB3.size)).trans (hB5.mono (hB3.trans (hB4.mono hB3.size)).size)⟩
      | true =>
        rw [hr2] at hx2
        go_wp2_with fail
        refine hx2.mono ?_
        rintro e w5 ⟨rfl, hB5⟩
        go_wp2
        go_ret
        exact ⟨by first | rfl | (rw [hr, hr2]; rfl) | (rw [hr2]; rfl) | (rw [hr]; rfl), (hB3.trans (hB4.mono hB3.size)).trans (hB5.mono (hB3.trans (hB4.mono hB3.size)).size)⟩
set_option maxRecDepth 100000 in
theorem refutes_miss (rows : List RowD) (l : List StepD) (dec : List Int) (f i : Nat) (w : World) (vr vl vd : Value) (h : l.length ≤ i) (hvl : StepsAt w vl l) :
    Calls Try.prog 40 #[vr, vl, .int .i64 i, vd] w fun e w' => e = .returned (.bool (refB rows l f i dec)) ∧ Below w.heap.size w w' := by
  rw [refB_miss h]
  obtain ⟨la, lc, rfl, hl1, hl2⟩ := (show SlicesLen vl l.length from hvl.len)
  have q0 : decide ((i : Int) < 0) = false := decide_eq_false (by omega)
  have q1 : decide (l.length ≤ i) = true := decide_eq_true h
  go_enter Try.func40, Try.ntmps40
  go_wp2
  go_ret
  exact ⟨rfl, Below.refl _ _⟩
/-- Refutes about plain proofs. -/
theorem refutes_any (rows : List RowD) (l : List StepD) (n : Nat) (vr vl : Value) (hr : ∀ r ∈ rows, r.coef.length = n ∧ coefOK r.coef = true ∧ -10000000000000 ≤ r.most ∧ r.most ≤ 10000000000000) (hn : n ≤ 12) (hl : ∀ i s, l[i]? = some s → PlainS n rows.length i s) :
    ∀ (f i : Nat) (dec : List Int) (w : World) (vd : Value), dec.length = n → l.length ≤ i + f → RowsAt w vr rows → StepsAt w vl l → IntsAt w vd dec →
    Calls Try.prog 40 #[vr, vl, .int .i64 i, vd] w fun e w' => e = .returned (.bool (refB rows l f i dec)) ∧ Below w.heap.size w w' := by
  intro f
  induction f with
  | zero =>
    intro i dec w vd hd hf hvr hvl hvd
    exact refutes_miss rows l dec 0 i w vr vl vd (by omega) hvl
  | succ f ih =>
    intro i dec w vd hd hf hvr hvl hvd
    by_cases hi : i < l.length
    · have hli := List.getElem?_eq_getElem hi
      generalize l[i] = s at hli
      cases hl i s hli with
      | leaf j hj =>
        rw [refB_leaf hli]
        exact refutes_leaf rows l dec i j w vr vl vd hli hj (by rw [hd]; exact hr) (by omega) hvr hvl hvd
      | case d no yes h1 h2 h3 =>
        exact refutes_case rows l dec f i d no yes w vr vl vd hli (by omega) h2 h3 (by omega) hvr hvl hvd (fun k dc W v hk hdc hW hv => ih k dc W v (by omega) (by omega) (hvr.below hW) (hvl.below hW) hv)
    · exact refutes_miss rows l dec (f + 1) i w vr vl vd (by omega) hvl
end Go.Proofs.Ytblmpmapcdpaiaa

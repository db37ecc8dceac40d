/- nadirlaw26.ProofWeights: the walk. -/
import Derived.Test.YtblmpmapcdpaiaaS1
import Derived.Test.YtblmpmapcdpaiaaK7
import Derived.Test.YtblmpmapcdpaiaaF0
import Derived.Test.YtblmpmapcdpaiaaW1
import Derived.StillTailTactics
namespace Go.Proofs.Ytblmpmapcdpaiaa
open Go.RowKit Go.Shelf Lib Go.Joins
attribute [local irreducible] wpStill

/-- A copy of steps in block g, of which step k is changed. -/
structure Cp (w W : World) (l : List StepD) (cs : List Value) (g c k : Nat) (a b d e : Value) : Prop where
  f : FlatC 4 StepCs w cs l
  bel : Below w.heap.size w W
  own : ∃ xs, W.ownsRow w.heap.size 80 4 (.slice (some ⟨g, 0, none⟩) l.length c) l.length xs ∧ RowK cs xs k a b d e
theorem Cp.blk {w W : World} {l : List StepD} {cs : List Value} {g c k : Nat} {a b d e : Value} (h : Cp w W l cs g c k a b d e) : ∃ cur, Blk W g cur 80 ∧ w.heap.size ≤ g := by
  obtain ⟨xs, h1, -⟩ := h.own
  obtain ⟨cur, h2, h3, -⟩ := own_blk h1
  exact ⟨cur, h2, h3⟩
theorem Cp.cells {w W : World} {l : List StepD} {cs : List Value} {g c k : Nat} {a b d e : Value} (h : Cp w W l cs g c k a b d e) :
    W.cell? ⟨g, k * 4, none⟩ = some a ∧ W.cell? ⟨g, k * 4 + 1, none⟩ = some b ∧ W.cell? ⟨g, k * 4 + 2, none⟩ = some d ∧ W.cell? ⟨g, k * 4 + 3, none⟩ = some e ∧ ∀ i, W.frozen? ⟨g, i, none⟩ = false := by
  obtain ⟨xs, h1, h2⟩ := h.own
  obtain ⟨cur, h3, -⟩ := own_blk h1
  exact ⟨own_cellN h1 h2.2.1, own_cellN h1 h2.2.2.1, own_cellN h1 h2.2.2.2.1, own_cellN h1 h2.2.2.2.2, h3.frozen⟩
theorem Cp.below {w W W' : World} {l : List StepD} {cs : List Value} {g c k : Nat} {a b d e : Value} (h : Cp w W l cs g c k a b d e) (hB : Below W.heap.size W W') : Cp w W' l cs g c k a b d e := by
  obtain ⟨xs, h1, h2⟩ := h.own
  exact ⟨h.f, h.bel.trans (hB.mono h.bel.size), ⟨xs, owned_below h1 hB, h2⟩⟩
theorem Cp.put3 {w W : World} {l : List StepD} {cs : List Value} {g c k : Nat} {a b d e : Value} (h : Cp w W l cs g c k a b d e) (u : Value) : Cp w (W.setCell ⟨g, k * 4 + 3, none⟩ u) l cs g c k a b d u := by
  obtain ⟨cur, -, hg⟩ := h.blk
  obtain ⟨xs, h1, h2⟩ := h.own
  exact ⟨h.f, h.bel.setCell (by simpa using hg) _, ⟨_, (h1.stored _ u).1, h2.set3 u⟩⟩
theorem Cp.grown {w W W' : World} {l : List StepD} {cs : List Value} {g c k : Nat} {a b d e : Value} (h : Cp w W l cs g c k a b d e) {ob : Option Nat} (hg : W.grownBy W' ob) (h1 : ob ≠ some g) (h2 : ∀ j, ob = some j → w.heap.size ≤ j) : Cp w W' l cs g c k a b d e := by
  obtain ⟨xs, h3, h4⟩ := h.own
  exact ⟨h.f, h.bel.grown hg h.bel.size h2, ⟨xs, h3.kept (row := ob) hg (.inr (fun e => h1 e.symm)), h4⟩⟩
/-- What a copy with one changed step reads as. -/
theorem Cp.view {w W : World} {l : List StepD} {cs : List Value} {g c k : Nat} {s : StepD} {vw : Value} (h : Cp w W l cs g c k (.int .i64 s.var) (.int .i64 s.no) (.int .i64 s.yes) vw) (hk : k < l.length) (hw : WtsAt W vw s.wts) :
    StepsAt W (.slice (some ⟨g, 0, none⟩) l.length c) (l.set k s) := by
  obtain ⟨xs, h1, h2, h3, h4, h5, h6⟩ := h.own
  obtain ⟨cur, -, -, hc1, hc2⟩ := own_blk h1
  refine ⟨some ⟨g, 0, none⟩, c, by rw [List.length_set], by rw [List.length_set]; exact hc1, hc2, fun _ => ⟨g, 0, rfl, fun j y hj => ?_⟩⟩
  rw [List.getElem?_set] at hj
  by_cases e : k = j
  · subst e
    rw [if_pos rfl, if_pos hk] at hj
    cases hj
    refine ⟨_, rfl, fun i u hi => ?_, ⟨vw, rfl, hw⟩⟩
    rw [Nat.zero_add]
    match i, hi with
    | 0, hi => cases hi; exact own_cellN h1 h3
    | 1, hi => cases hi; exact own_cellN h1 h4
    | 2, hi => cases hi; exact own_cellN h1 h5
    | 3, hi => cases hi; exact own_cellN h1 h6
    | i + 4, hi => simp at hi
  · rw [if_neg e] at hj
    obtain ⟨ds, d1, d2, d3⟩ := h.f.get j y hj
    refine ⟨ds, d1, fun i u hi => ?_, d3.below h.bel⟩
    have hi4 : i < 4 := by
      refine Classical.byContradiction fun hc => ?_
      rw [List.getElem?_eq_none (by omega)] at hi; cases hi
    rw [Nat.zero_add]
    exact own_cellN h1 ((h2 _ (by omega)).trans (d2 i u hi))
/-- Cells of a slice of steps, in every later world. -/
theorem steps_news {w : World} {a : Option Addr} {n c : Nat} {l : List StepD} (h : StepsAt w (.slice a n c) l) : ∃ cs, FlatC 4 StepCs w cs l ∧ (a = none → l.length = 0) ∧ ∀ W, Below w.heap.size w W → ∀ p, a = some p → ∀ j u, cs[j]? = some u → W.cell? (p.add j) = some u := by
  obtain ⟨cs, hcf, hcc⟩ := StructsOf.flat h
  refine ⟨cs, hcf, fun e => by subst e; rw [StructsOf.none h]; rfl, fun W hW p hp j u hj => ?_⟩
  have h3 := hcc p hp j u hj
  subst hp
  have hpos : 0 < l.length := by
    refine Classical.byContradiction fun hc => ?_
    have h0 : cs.length = 0 := by rw [hcf.len]; omega
    rw [List.getElem?_eq_none (by omega)] at hj; cases hj
  obtain ⟨a', c', e, -, -, h4⟩ := h
  cases e
  obtain ⟨b, off, e, -⟩ := h4 hpos
  cases e
  rw [addr_add] at h3 ⊢
  exact (hW.cell (World.block_lt_of_cell? _ _ h3)).trans h3
theorem step_appW {t e : TypeId} {z : Value} {size bytes : Nat} {ops : Array Oper} {o : Oper} {a : Act} {w : World} {K : Act → World → Prop} {Q : Exit → Act → World → Prop} {E : Prop} (EE : ElemOK Try.prog t e z size bytes)
    (hg : o.guard = none) (s x : Operand) (hop : o.op = Op.call { callee := Callee.builtin Builtin.append, args := #[s, x], argTypes := #[t, t] })
    (base : Nat) {v : Value} {n m c : Nat} {xs news : List Value} {p : Addr} (hown : w.ownsRow base e size v n xs) (hs : a.eval s = v) (hx : a.eval x = .slice (some p) m c) (hl : news.length = m * size)
    (hnews : ∀ j u, news[j]? = some u → w.cell? (p.add j) = some u) (h1 : ∀ u ∈ news, u.oneCell' = true) (hn : n + m ≤ maxLen) (hby : (n + m) * bytes ≤ 140737488355328) (hbase : base ≤ w.heap.size)
    (hK : ∀ v' w', w'.ownsRow base e size v' (n + m) (xs ++ news) → w.grownBy w' v.ownBlock → K (a.put o.dst v') w') :
    if Region.wanted o (yielded ops a.tmps) = true then Oper.wp Try.prog o a w K Q else E := by
  have hw : Region.wanted o (yielded ops a.tmps) = true := by simp [Region.wanted, hg]
  rw [if_pos hw]
  obtain ⟨i, hi, hz0, hz1, hz2⟩ := info_parts EE.info
  obtain ⟨v', w', hrun, h2, h3, -⟩ := run_append_own (P := Try.prog) w base t o.type e i z size bytes EE.und hi hz0 hz1 hz2 EE.zs EE.pos v n xs hown p m c news hl hnews h1 hn hby hbase
  unfold Oper.wp
  simp [execOp, hop, resolve, invoke, builtin, hs, hx, hrun, Result.andThen]
  exact hK v' w' h2 h3
theorem wp_suchA {P : Program} {c : Code} {Q : Exit → Act → World → Prop} {a : Act} {fr : Option Addr → Nat → Act} {w : World} (S : Option Addr → Nat → World → Prop) (h : c.wp P (NoPanic fun e a' w' => e = .normal ∧ ∃ va vc, a' = fr va vc ∧ S va vc w') a w) (k : ∀ va vc w', S va vc w' → Q .normal (fr va vc) w') : c.wp P Q a w :=
  Code.wp_mono (fun e a' w' hh => by obtain ⟨rfl, va, vc, rfl, hb⟩ := NoPanic.imp e a' w' hh; exact k va vc w' hb) h
theorem own_ne {W : World} {base e e' size n g : Nat} {v : Value} {xs : List Value} {cur : Array Value} (h : W.ownsRow base e size v n xs) (hb : Blk W g cur e') (he : e ≠ e') : v.ownBlock ≠ some g := fun hc => by
  rcases h.2 with ⟨rfl, -⟩ | ⟨g', cap, cur', rfl, -, hg, -⟩
  · cases hc
  · obtain rfl : g' = g := by simpa [Value.ownBlock] using hc
    have := hg.symm.trans (show W.heap[g']? = _ from hb)
    simp at this
    exact he this.2
theorem own_ge {W : World} {base e size n : Nat} {v : Value} {xs : List Value} (h : W.ownsRow base e size v n xs) : ∀ j, v.ownBlock = some j → base ≤ j := fun j hj => by
  rcases h.2 with ⟨rfl, -⟩ | ⟨g', cap, cur', rfl, hb, -⟩
  · cases hj
  · obtain rfl : g' = j := by simpa [Value.ownBlock] using hj
    exact hb
set_option maxRecDepth 100000 in
set_option maxHeartbeats 8000000 in
theorem weights_true (vars : Int) (vx : Value) (g0 g1 g2 g3 g4 g5 g6 g7 z0 z1 z2 z3 : Int) (which by_ : Int) (ex : StepD) (vew : Value) (m : Nat) (rows : List RowD) (gn : List Int) (w : World) (hG : GoodP ⟨(m : Int), rows, gn⟩ m)
    (hz : InR z0 ∧ InR z1 ∧ InR z2 ∧ InR z3) (hwh : InR which) (hby : InR by_) (hex : WtsAt w vew ex.wts)
    (hmade : Hid (∀ W, Below w.heap.size w W → Calls Try.prog 17 #[.int .i64 vars, vx, .agg #[.int .i64 g0, .int .i64 g1, .int .i64 g2, .int .i64 g3, .int .i64 g4, .int .i64 g5, .int .i64 g6, .int .i64 g7]] W fun e w' => ∃ ra rc ga gc, e = .returned (.agg #[.int .i64 m, .slice ra rows.length rc, .slice ga gn.length gc]) ∧ (RowsAt w' (.slice ra rows.length rc) rows ∧ IntsAt w' (.slice ga gn.length gc) gn ∧ (ra = none → rc = 0)) ∧ (rows.length ≤ rc ∧ rc ≤ maxLen) ∧ (gn.length ≤ gc ∧ gc ≤ maxLen) ∧ Below W.heap.size W w')) :
    Calls Try.prog 11 #[.int .i64 vars, vx, .agg #[.int .i64 g0, .int .i64 g1, .int .i64 g2, .int .i64 g3, .int .i64 g4, .int .i64 g5, .int .i64 g6, .int .i64 g7], .agg #[.int .i64 z0, .int .i64 z1, .int .i64 z2, .int .i64 z3], .int .i64 which, .int .i64 by_, .agg #[.int .i64 ex.var, .int .i64 ex.no, .int .i64 ex.yes, vew]] w fun e w' => e = .returned (.bool true) ∧ Below w.heap.size w w' := by
  obtain ⟨ea, ec, rfl, hel1, hel2⟩ := (show SlicesLen vew ex.wts.length from StructsOf.len hex)
  unfold maxLen at hel2
  have hval := hG.val
  have hm8 := hG.m8
  have hsm1 := solve_small hval (by show (m : Int) ≤ 8; omega)
  have hpos := solve_pos hval
  have hsv1 := Lib.hid (fun ra rc ga gc W h => solve_view (m : Int) rows gn ra rc ga gc W h hval)
  have hgl : gn.length ≤ 60 := by have := (validB_true hval).2.2.2.2.1; simp only at this; omega
  have hrl : rows.length ≤ 8 := hG.n8
  have htm : TimesB (solveV ⟨(m : Int), rows, gn⟩).proof := solve_times hval
  generalize solveV ⟨(m : Int), rows, gn⟩ = s1 at hsm1 hsv1 hpos htm
  have HSM := Lib.hid (And.intro hsm1 (And.intro hpos htm))
  have HEX := Lib.hid hex
  clear hval hG hsm1 hpos hex htm
  go_enter Try.func11, Try.ntmps11
  go_wp2_with fail
  refine (sane26_true _).mono ?_
  rintro e w1 ⟨rfl, hBa⟩
  have hBw1 : Below w.heap.size w w1 := ((((Below.refl _ _).alloc (Nat.le_refl _) _).alloc (by simp) _).alloc (by simp; omega) _).trans (hBa.mono (by simp; omega))
  have kg : Blk w1 w.heap.size #[.int .i64 g0, .int .i64 g1, .int .i64 g2, .int .i64 g3, .int .i64 g4, .int .i64 g5, .int .i64 g6, .int .i64 g7] 23 := (((Blk.new w _ 23).alloc _).alloc _).below hBa (by simp; omega)
  have kr : Blk w1 (w.heap.size + 1 + 1) #[.int .i64 ex.var, .int .i64 ex.no, .int .i64 ex.yes, .slice ea ex.wts.length ec] 80 := (Blk.newAt _ _ 80 (by simp)).below hBa (by simp)
  have kz : Blk w1 (w.heap.size + 1) #[.int .i64 z0, .int .i64 z1, .int .i64 z2, .int .i64 z3] 61 := ((Blk.newAt _ _ 61 (by simp)).alloc _).below hBa (by simp)
  clear hBa
  have i0 := kg.cell 0
  have i1 := kg.cell 1
  have i2 := kg.cell 2
  have i3 := kg.cell 3
  have i4 := kg.cell 4
  have i5 := kg.cell 5
  have i6 := kg.cell 6
  have i7 := kg.cell 7
  simp only [List.getElem?_toArray, List.getElem?_cons_succ, List.getElem?_cons_zero] at i0 i1 i2 i3 i4 i5 i6 i7
  go_wp2_with fail
  refine (hmade.out w1 hBw1).mono ?_
  rintro e w2 ⟨ra, rc, ga, gc, rfl, hv, hrc, hgc, hB2⟩
  obtain ⟨hrc1, hrc2⟩ := hrc
  obtain ⟨hgc1, hgc2⟩ := hgc
  unfold maxLen at hrc2 hgc2
  have hA2 : Below w2.heap.size w2 (w2.alloc (.cells #[.int .i64 m, .slice ra rows.length rc, .slice ga gn.length gc] 29)) := (Below.refl _ _).alloc (Nat.le_refl _) _
  have kp := Blk.new w2 #[.int .i64 m, .slice ra rows.length rc, .slice ga gn.length gc] 29
  have hvA := And.intro (hv.1.below hA2) (And.intro (hv.2.1.below hA2) hv.2.2)
  have hBwA := (hBw1.trans (hB2.mono hBw1.size)).trans (hA2.mono (hBw1.trans (hB2.mono hBw1.size)).size)
  replace kr := (kr.below hB2 kr.lt).alloc (.cells #[.int .i64 m, .slice ra rows.length rc, .slice ga gn.length gc] 29)
  replace kz := (kz.below hB2 kz.lt).alloc (.cells #[.int .i64 m, .slice ra rows.length rc, .slice ga gn.length gc] 29)
  clear hv hBw1 hB2 hmade i0 i1 i2 i3 i4 i5 i6 i7 kg
  go_wp2_with fail
  refine (hsv1.out ra rc ga gc _ hvA).mono ?_
  rintro e w3 ⟨pa, pc, rfl, hst1, hpl1, hB3⟩
  have hpc1 := hpl1.1
  have hpc2 := hpl1.2
  unfold maxLen at hpc2
  replace kr := kr.below hB3 kr.lt
  replace kz := kz.below hB3 kz.lt
  replace kp := kp.below hB3 kp.lt
  have hvB := And.intro (hvA.1.below hB3) (And.intro (hvA.2.1.below hB3) hvA.2.2)
  have hBw3 := hBwA.trans (hB3.mono hBwA.size)
  clear hvA hB3 hA2 hBwA hsv1
  have hA4 : Below w3.heap.size w3 (w3.alloc (.cells #[.bool s1.found, .int .i64 s1.set, .int .i64 s1.gain, .slice pa s1.proof.length pc] 37)) := (Below.refl _ _).alloc (Nat.le_refl _) _
  have ks := Blk.new w3 #[.bool s1.found, .int .i64 s1.set, .int .i64 s1.gain, .slice pa s1.proof.length pc] 37
  replace kr := kr.alloc (.cells #[.bool s1.found, .int .i64 s1.set, .int .i64 s1.gain, .slice pa s1.proof.length pc] 37)
  replace kz := kz.alloc (.cells #[.bool s1.found, .int .i64 s1.set, .int .i64 s1.gain, .slice pa s1.proof.length pc] 37)
  have l23 : w2.heap.size < w3.heap.size := kp.lt
  replace kp := kp.alloc (.cells #[.bool s1.found, .int .i64 s1.set, .int .i64 s1.gain, .slice pa s1.proof.length pc] 37)
  replace hst1 := StepsAt.below hst1 hA4
  replace hvB := And.intro (hvB.1.below hA4) (And.intro (hvB.2.1.below hA4) hvB.2.2)
  replace hBw3 := hBw3.trans (hA4.mono hBw3.size)
  clear hA4
  go_upto_region 8 with fail
  generalize w3.alloc (.cells #[.bool s1.found, .int .i64 s1.set, .int .i64 s1.gain, .slice pa s1.proof.length pc] 37) = V at *
  have i0 := kz.cell 0
  have i1 := kz.cell 1
  have i2 := kz.cell 2
  have i3 := kz.cell 3
  have s3 := ks.cell 3
  simp only [List.getElem?_toArray, List.getElem?_cons_succ, List.getElem?_cons_zero] at i0 i1 i2 i3 s3
  have hbn := bent_any (.slice pa s1.proof.length pc) s1.proof z0 z1 z2 z3 _ hst1 (by have := HSM.out.1.1.1; omega) (fun t ht => by have := HSM.out.1.1.2 t ht; omega) hz.1 hz.2.1 hz.2.2.1 hz.2.2.2
  go_wp2_with fail
  refine hbn.mono ?_
  rintro e w4 ⟨vb, rfl, hsb, hB4⟩
  obtain ⟨ba, bc, rfl, hbl1, hbl2⟩ := hsb.len
  unfold maxLen at hbl2
  have hBw4 := hBw3.trans (hB4.mono hBw3.size)
  replace kr := kr.below hB4 kr.lt
  replace kp := kp.below hB4 kp.lt
  replace ks := ks.below hB4 ks.lt
  replace hvB := And.intro (hvB.1.below hB4) (hvB.2.1.below hB4)
  have hblp : 0 < (bentD s1.proof z0 z1 z2 z3).length := bentD_pos HSM.out.2.1 _ _ _ _
  have hbls := HSM.out.1.1.bent z0 z1 z2 z3
  have hblt := HSM.out.2.2.bent z0 z1 z2 z3
  generalize bentD s1.proof z0 z1 z2 z3 = bl at *
  clear i0 i1 i2 i3 s3 hbn kz hst1 hB4
  have hbl511 : bl.length ≤ 511 := hbls.1
  have hposI : (0 : Int) < (bl.length : Int) := by omega
  have hpw := pickI_bd which (n := (bl.length : Int)) hposI
  obtain ⟨k, hk⟩ := Int.eq_ofNat_of_zero_le hpw.1
  have hkl : k < bl.length := by omega
  have hpk := Lib.hid (fun W => pick54 which (bl.length : Int) W hwh hposI (by omega))
  rw [hk] at hpk
  obtain ⟨cs, hcf, hnone, hnews⟩ := steps_news hsb
  obtain ⟨sk, hsk⟩ : ∃ s, bl.getD k st0 = s := ⟨_, rfl⟩
  have hsome : bl[k]? = some sk := by rw [← hsk]; exact getD_some st0 hkl
  obtain ⟨ds, hd1, hd2, vw, rfl, hwt⟩ := hcf.get k sk hsome
  have HD := Lib.hid (And.intro (hd2 0 _ rfl) (And.intro (hd2 1 _ rfl) (And.intro (hd2 2 _ rfl) (hd2 3 _ rfl))))
  have HBL := Lib.hid (And.intro hsb (And.intro hbls hblt))
  have HCS := Lib.hid (And.intro hcf (And.intro hnone hnews))
  have HSK := Lib.hid (And.intro hsk (And.intro hsome hwt))
  have HKK := Lib.hid (And.intro kp (And.intro ks kr))
  have HVB := Lib.hid hvB
  have HBW := Lib.hid hBw4
  have hown0 := own_emptyN (e := 80) (size := 4) w4 w4.heap.size (Nat.le_refl _)
  have HO := Lib.hid hown0
  have hBa0 : Below w4.heap.size w4 (w4.alloc (.cells #[] 80)) := (Below.refl _ _).alloc (Nat.le_refl _) _
  have HBA := Lib.hid hBa0
  clear hd1 hd2 hsb hbls hblt hcf hnone hnews hsk hsome hwt kp ks kr hvB hBw4 hown0 hBa0 hpw hk hBw3
  go_wp2_with fail
  refine (hpk.out _).mono ?_
  rintro e w' ⟨rfl, rfl⟩
  have hki : (0 : Int) ≤ (k : Int) ∧ (k : Int) < (bl.length : Int) := by omega
  go_wp2_with (at_builtin; refine wpList_appN (xa := ba) (c := bc) (m := bl.length) (news := cs) (g0 := w4.heap.size) (c0 := 0) (n := 0) (xs := []) E35 rfl _ _ rfl w4.heap.size HO.out rfl rfl HCS.out.1.len (HCS.out.2.2 _ HBA.out) HCS.out.2.1 (steps_flat_one HCS.out.1) (by unfold maxLen; omega) (by omega) (by simp) ?_; intro g c w5 hown1 hg1 hgb hnc; rw [show 0 + bl.length = bl.length from Nat.zero_add _, List.nil_append] at hown1; rw [show 0 + bl.length = bl.length from Nat.zero_add _]; have hBg : Below w4.heap.size w4 w5 := HBA.out.grown hg1 (by simp) (fun j hj => by cases hj; exact Nat.le_refl _); have hT : Hid (Cp w4 w5 bl cs g c k (.int .i64 sk.var) (.int .i64 sk.no) (.int .i64 sk.yes) vw) := ⟨HCS.out.1, hBg, cs, hown1, fun _ _ => rfl, HD.out.1, HD.out.2.1, HD.out.2.2.1, HD.out.2.2.2⟩; have b3 := hT.out.cells.2.2.2.1; have bf := hT.out.cells.2.2.2.2 (k * 4 + 3))
  have hT2 := hT.out.put3 (.slice none 0 0)
  clear b3 bf hBg hown1 hg1 hT
  generalize w5.setCell ⟨g, k * 4 + 3, none⟩ (.slice none 0 0) = w6 at hT2 ⊢
  have hpb := pickI_bd by_ (n := 100) (by decide)
  refine (pick54 by_ 100 w6 hby (by decide) (by decide)).mono ?_
  rintro e w' ⟨rfl, rfl⟩
  obtain ⟨n, hn⟩ : ∃ n, 1 + pickI by_ 100 = n := ⟨_, rfl⟩
  have hwn : IntKind.i64.wrap (1 + pickI by_ 100) = n := by rw [hn]; exact wrapS _ (by omega) (by omega)
  have hn1 : 1 ≤ n ∧ n ≤ 100 := by omega
  clear hpb hn
  obtain ⟨b, off, vq, rfl, c0, c1, c2, c3, hwq⟩ := StepsAt.getC HBL.out.1 HSK.out.2.1
  obtain ⟨qa, qc, rfl, hq1, hq2⟩ := (show SlicesLen vq sk.wts.length from StructsOf.len hwq)
  unfold maxLen at hq2
  have hwl : sk.wts.length ≤ 2 := HBL.out.2.1.2 sk (List.mem_of_getElem? HSK.out.2.1)
  have hwt2 := HBL.out.2.2 sk (List.mem_of_getElem? HSK.out.2.1)
  have HT2 := Lib.hid hT2
  have HC3 := Lib.hid c3
  have HWQ := Lib.hid hwq
  have HWT := Lib.hid hwt2
  clear hT2 c0 c1 c2 c3 hwq hwt2
  go_wp2
  go_loopw [23] (fun u23 wr => ∃ (i : Nat) (vt : Value) (ws : List Value), i ≤ sk.wts.length ∧ u23 = .int .i64 i ∧ Cp w4 wr bl cs g c k (.int .i64 sk.var) (.int .i64 sk.no) (.int .i64 sk.yes) vt ∧ wr.ownsRow w4.heap.size 82 2 vt i ws ∧ FlatC 2 WtC w4 ws (sclL n (sk.wts.take i)) ∧ (∀ x ∈ sk.wts.take i, 1 ≤ x.times ∧ x.times * n ≤ 1000)) (fun u23 _ => ((sk.wts.length : Int) - Go.RowKit.intOf u23).toNat)
  case atStart => exact ⟨0, _, [], by omega, rfl, HT2.out, World.ownsRow_nil _ _ _ _, rfl, fun x hx => by simp at hx⟩
  case round =>
    obtain ⟨i, vt, ws, hi, rfl, hT, hown, hfl, htm⟩ := hrel
    rename World => wr
    have hBr := hT.bel
    have c3 := (hBr.cell (World.block_lt_of_cell? _ _ HC3.out)).trans HC3.out
    obtain ⟨ta, tc, rfl, ht1, ht2⟩ := owned_len hown
    by_cases hil : i < sk.wts.length
    · obtain ⟨y, hy⟩ : ∃ y, sk.wts[i]? = some y := ⟨_, List.getElem?_eq_getElem hil⟩
      obtain ⟨b2, off2, rfl, d0, d1⟩ := WtsAt.getC HWQ.out hy
      replace d0 := (hBr.cell (World.block_lt_of_cell? _ _ d0)).trans d0
      replace d1 := (hBr.cell (World.block_lt_of_cell? _ _ d1)).trans d1
      obtain ⟨y1, y2⟩ := HWT.out y (List.mem_of_getElem? hy)
      have hyn : -100 ≤ y.times * n ∧ y.times * n ≤ 100100 := by
        constructor
        · have := Int.mul_le_mul_of_nonneg_right y1 (show 0 ≤ n by omega); omega
        · have := Int.mul_le_mul_of_nonneg_right y2 (show 0 ≤ n by omega); omega
      have hwy : IntKind.i64.wrap (y.times * n) = y.times * n := wrapS _ (by omega) (by omega)
      have HX := Lib.hid (And.intro hT (And.intro hown (And.intro hfl htm)))
      clear hT hown hfl htm
      by_cases hy1 : y.times < 1
      · have q1 : (y.times < 1) = True := eq_true hy1
        clear hyn y1 y2
        go_wp2
        go_ret
        exact ⟨rfl, (HBW.out.trans (hBr.mono HBW.out.size)).trans (((Below.refl _ _).alloc (Nat.le_refl _) _).mono (HBW.out.trans (hBr.mono HBW.out.size)).size)⟩
      · have q1 : (y.times < 1) = False := eq_false hy1
        by_cases hyl : 1000 < y.times * n
        · have q2 : (1000 < y.times * n) = True := eq_true hyl
          clear hyn y1 y2
          go_wp2
          go_ret
          exact ⟨rfl, (HBW.out.trans (hBr.mono HBW.out.size)).trans (((Below.refl _ _).alloc (Nat.le_refl _) _).mono (HBW.out.trans (hBr.mono HBW.out.size)).size)⟩
        · have q2 : (1000 < y.times * n) = False := eq_false hyl
          have HFL : Hid (FlatC 2 WtC w4 (ws ++ [.int .i64 y.row, .int .i64 (y.times * n)]) (sclL n (sk.wts.take (i + 1)))) := by
            show FlatC 2 WtC w4 _ _
            obtain ⟨hl2, rfl⟩ := List.getElem?_eq_some_iff.1 hy
            rw [List.take_succ_eq_append_getElem hl2]
            unfold sclL
            rw [List.map_append]
            exact FlatC.app HX.out.2.2.1 (FlatC.one rfl rfl)
          have HTM : Hid (∀ x ∈ sk.wts.take (i + 1), 1 ≤ x.times ∧ x.times * n ≤ 1000) := by
            show ∀ x ∈ _, _
            obtain ⟨hl2, rfl⟩ := List.getElem?_eq_some_iff.1 hy
            rw [List.take_succ_eq_append_getElem hl2]
            intro x hx
            rcases List.mem_append.1 hx with h1 | h1
            · exact HX.out.2.2.2 x h1
            · rw [List.mem_singleton] at h1; subst h1; omega
          go_upto_region 19 with fail
          clear q1 q2
          have kw := Blk.new wr #[.int .i64 y.row, .int .i64 y.times] 82
          have hA : Below wr.heap.size wr (wr.alloc (.cells #[.int .i64 y.row, .int .i64 y.times] 82)) := (Below.refl _ _).alloc (Nat.le_refl _) _
          have hTA := HX.out.1.below hA
          have hoA := owned_below HX.out.2.1 hA
          have e0 := kw.cell 0
          have e1 := kw.cell 1
          simp only [List.getElem?_toArray, List.getElem?_cons_succ, List.getElem?_cons_zero] at e0 e1
          have hTd := hTA.below (Below.refl _ _).drew
          have hod := owned_below hoA (Below.refl (wr.alloc (.cells #[.int .i64 y.row, .int .i64 y.times] 82)).heap.size _).drew
          have hW4 : w4.heap.size ≤ (wr.alloc (.cells #[.int .i64 y.row, .int .i64 y.times] 82)).heap.size := (hBr.trans (hA.mono hBr.size)).size
          have hi511 : i < 2 := by omega
          clear d0 d1 c3
          generalize wr.alloc (.cells #[.int .i64 y.row, .int .i64 y.times] 82) = W0 at *
          have hTa := hTA.below ((Below.refl W0.heap.size W0).alloc (Nat.le_refl _) (.cells #[.int .i64 y.row, .int .i64 (y.times * n)] 82)).drew
          have hoa := owned_below hoA ((Below.refl W0.heap.size W0).alloc (Nat.le_refl _) (.cells #[.int .i64 y.row, .int .i64 (y.times * n)] 82)).drew
          have hnb : Blk (W0.alloc (.cells #[.int .i64 y.row, .int .i64 (y.times * n)] 82)).drew W0.heap.size #[.int .i64 y.row, .int .i64 (y.times * n)] 82 := Blk.new W0 _ 82
          have hd3 := hTd.cells.2.2.2.1
          have ha3 := hTa.cells.2.2.2.1
          obtain ⟨cur, hcur, hgge⟩ := hTa.blk
          have hne := own_ne hoa hcur (by decide)
          have hge := own_ge hoa
          have e0d : W0.drew.cell? ⟨wr.heap.size, 0, none⟩ = some (.int .i64 y.row) := e0
          have e1d : W0.drew.cell? ⟨wr.heap.size, 1, none⟩ = some (.int .i64 y.times) := e1
          have kwa : Blk (W0.alloc (.cells #[.int .i64 y.row, .int .i64 (y.times * n)] 82)).drew wr.heap.size _ _ := kw.alloc (.cells #[.int .i64 y.row, .int .i64 (y.times * n)] 82)
          have e0a := kwa.cell 0
          have e1a := kwa.cell 1
          simp only [List.getElem?_toArray, List.getElem?_cons_succ, List.getElem?_cons_zero] at e0a e1a
          have HG := Lib.hid (And.intro hTa (And.intro hoa (And.intro hnb (And.intro hne hge))))
          clear hTA hoA hA hTd hod hTa hoa hnb hcur hgge kw kwa e0 e1 hne hge
          apply wp_suchA (fun va vc wx => Cp w4 wx bl cs g c k (.int .i64 sk.var) (.int .i64 sk.no) (.int .i64 sk.yes) (.slice va (i + 1) vc) ∧ wx.ownsRow w4.heap.size 82 2 (.slice va (i + 1) vc) (i + 1) (ws ++ [.int .i64 y.row, .int .i64 (y.times * n)]))
          · go_region_law (first | (refine step_appW E78 rfl (.tmp 97) (.tmp 105) rfl w4.heap.size (m := 1) (c := 1) (p := ⟨W0.heap.size, 0, none⟩) (news := [.int .i64 y.row, .int .i64 (y.times * n)]) HG.out.2.1 rfl rfl rfl (fun j u hj => by rw [addr_add, Nat.zero_add]; exact (HG.out.2.2.1.cell j).trans (by rw [List.getElem?_toArray]; exact hj)) (fun u hu => by simp at hu; rcases hu with rfl | rfl <;> rfl) (by unfold maxLen; omega) (by omega) (by simp; omega) ?_; intro v57 w57 ho57 hg57; obtain ⟨va, vc, rfl, hv1, hv2⟩ := owned_len ho57; unfold maxLen at hv2; have hx57 := HG.out.1.grown hg57 HG.out.2.2.2.1 HG.out.2.2.2.2; have hz57 := hx57.cells.2.2.2.1; have hf57 := hx57.cells.2.2.2.2 (k * 4 + 3); obtain ⟨cu57, hk57, -⟩ := hx57.blk; have hn57 := own_ne ho57 hk57 (by decide); have hox57 := ownsRow_set_ne ho57 (fun q hq e => hn57 (hq.trans (congrArg some e))) (k * 4 + 3) (.slice va (i + 1) vc); have hpx57 := hx57.put3 (.slice va (i + 1) vc)))
            all_goals (refine NoPanic.normal ?_; exact ⟨rfl, va, vc, rfl, hpx57, hox57⟩)
          · intro va vc wx hS
            obtain ⟨hT', ho'⟩ := hS
            go_wp2
            go_roundw
            case rel => exact ⟨i + 1, _, _, by omega, by go_num, hT', ho', HFL.out, HTM.out⟩
            case measure => simp [Go.RowKit.intOf]; omega
    · obtain rfl : i = sk.wts.length := by omega
      have htake : sk.wts.take sk.wts.length = sk.wts := List.take_length
      rw [htake] at hfl htm
      have hgreat : StepsAt wr (.slice (some ⟨g, 0, none⟩) bl.length c) (greatD bl k n) := by
        unfold greatD
        rw [HSK.out.1]
        refine hT.view (s := ⟨sk.var, sk.no, sk.yes, sclL n sk.wts⟩) hkl ?_
        have hf2 : FlatC 2 WtC wr ws (sclL n sk.wts) := FlatC.to (R := WtC) (W := w4) (R' := WtC) (W' := wr) (fun _ _ h => h) hfl
        have ho2 : wr.ownsRow w4.heap.size 82 2 (.slice ta sk.wts.length tc) (sclL n sk.wts).length ws := by rw [sclL_len]; exact hown
        have hx : StructsOf 2 WtC wr (.slice ta sk.wts.length tc) (sclL n sk.wts) := flat_view ho2 hf2
        exact hx
      have HGR := Lib.hid (And.intro hgreat (show ∀ x ∈ (bl.getD k st0).wts, 1 ≤ x.times ∧ x.times * n ≤ 1000 by rw [HSK.out.1]; exact htm))
      have HBR := Lib.hid hBr
      have hBwr := Lib.hid (HBW.out.trans (hBr.mono HBW.out.size))
      clear hgreat hT hown hfl htm hBr
      go_wp2
      clear c3
      go_loopw [25, 26] (fun u25 u26 wx => ∃ j : Nat, j ≤ bl.length ∧ u25 = .bool (wholeB bl j) ∧ u26 = .int .i64 j ∧ Below wr.heap.size wr wx) (fun _ u26 _ => ((bl.length : Int) - Go.RowKit.intOf u26).toNat)
      case atStart => exact ⟨0, by omega, rfl, rfl, Below.refl _ _⟩
      case round =>
        obtain ⟨j, hj, rfl, rfl, hBx⟩ := hrel
        rename World => wx
        by_cases hjl : j < bl.length
        · obtain ⟨s, hs⟩ : ∃ s, bl[j]? = some s := ⟨_, List.getElem?_eq_getElem hjl⟩
          obtain ⟨b', off', vq', e, d0, d1, d2, d3, -⟩ := StepsAt.getC (StepsAt.below (StepsAt.below HBL.out.1 HBR.out) hBx) hs
          cases e
          have hws := wholeB_succ hs
          have HWS := Lib.hid hws
          clear hws
          cases hw : wholeB bl j with
          | false =>
            rw [hw] at HWS
            go_wp2
            go_roundw
            case rel => exact ⟨j + 1, by omega, by rw [HWS.out]; rfl, by go_num, hBx⟩
            case measure => simp [Go.RowKit.intOf]; omega
          | true =>
            rw [hw] at HWS
            by_cases h1 : s.no < (bl.length : Int)
            · have q1 : (s.no < (bl.length : Int)) = True := eq_true h1
              by_cases h2 : s.yes < (bl.length : Int)
              · have q2 : (s.yes < (bl.length : Int)) = True := eq_true h2
                go_wp2
                go_roundw
                case rel => exact ⟨j + 1, by omega, by rw [HWS.out, decide_eq_true h1, decide_eq_true h2]; rfl, by go_num, hBx⟩
                case measure => simp [Go.RowKit.intOf]; omega
              · have q2 : (s.yes < (bl.length : Int)) = False := eq_false h2
                go_wp2
                go_roundw
                case rel => exact ⟨j + 1, by omega, by rw [HWS.out, decide_eq_true h1, decide_eq_false h2]; rfl, by go_num, hBx⟩
                case measure => simp [Go.RowKit.intOf]; omega
            · have q1 : (s.no < (bl.length : Int)) = False := eq_false h1
              go_wp2
              go_roundw
              case rel => exact ⟨j + 1, by omega, by rw [HWS.out, decide_eq_false h1]; rfl, by go_num, hBx⟩
              case measure => simp [Go.RowKit.intOf]; omega
        · obtain rfl : j = bl.length := by omega
          have HBX := Lib.hid (HBR.out.trans (hBx.mono HBR.out.size))
          have HBWX := Lib.hid (hBwr.out.trans (hBx.mono hBwr.out.size))
          obtain ⟨kp', ks', kr'⟩ := HKK.out
          have kr := kr'.below HBX.out kr'.lt
          have HE := Lib.hid (fun W (hW : Below wx.heap.size wx W) => show W.cell? ⟨w.heap.size + 1 + 1, 0, none⟩ = some (.int .i64 ex.var) ∧ W.cell? ⟨w.heap.size + 1 + 1, 1, none⟩ = some (.int .i64 ex.no) ∧ W.cell? ⟨w.heap.size + 1 + 1, 2, none⟩ = some (.int .i64 ex.yes) ∧ W.cell? ⟨w.heap.size + 1 + 1, 3, none⟩ = some (.slice ea ex.wts.length ec) from
            ⟨(hW.cell kr.lt).trans (kr.cell 0), (hW.cell kr.lt).trans (kr.cell 1), (hW.cell kr.lt).trans (kr.cell 2), (hW.cell kr.lt).trans (kr.cell 3)⟩)
          have hA : Below wx.heap.size wx ((wx.alloc (.cells #[] 80)).drew) := ((Below.refl _ _).alloc (Nat.le_refl _) _).drew
          have hB : Below wx.heap.size wx (((wx.alloc (.cells #[] 80)).alloc (.cells #[.int .i64 ex.var, .int .i64 ex.no, .int .i64 ex.yes, .slice ea ex.wts.length ec] 80)).drew) := (((Below.refl _ _).alloc (Nat.le_refl _) _).alloc (by simp) _).drew
          have hC : Below wx.heap.size wx (((wx.alloc (.cells #[.int .i64 ex.var, .int .i64 ex.no, .int .i64 ex.yes, .slice ea ex.wts.length ec] 80)).alloc (.cells #[] 80)).drew) := (((Below.refl _ _).alloc (Nat.le_refl _) _).alloc (by simp) _).drew
          have oA : World.ownsRow ((wx.alloc (.cells #[] 80)).drew) wx.heap.size 80 4 (.slice (some ⟨wx.heap.size, 0, none⟩) 0 0) 0 [] := own_emptyN (e := 80) (size := 4) wx wx.heap.size (Nat.le_refl _)
          have oB : World.ownsRow (((wx.alloc (.cells #[] 80)).alloc (.cells #[.int .i64 ex.var, .int .i64 ex.no, .int .i64 ex.yes, .slice ea ex.wts.length ec] 80)).drew) wx.heap.size 80 4 (.slice (some ⟨wx.heap.size, 0, none⟩) 0 0) 0 [] := owned_below oA ((Below.refl _ _).alloc (Nat.le_refl _) _)
          have oC : World.ownsRow (((wx.alloc (.cells #[.int .i64 ex.var, .int .i64 ex.no, .int .i64 ex.yes, .slice ea ex.wts.length ec] 80)).alloc (.cells #[] 80)).drew) wx.heap.size 80 4 (.slice (some ⟨wx.heap.size + 1, 0, none⟩) 0 0) 0 [] := by
            have := own_emptyN (e := 80) (size := 4) (wx.alloc (.cells #[.int .i64 ex.var, .int .i64 ex.no, .int .i64 ex.yes, .slice ea ex.wts.length ec] 80)) wx.heap.size (by simp)
            rw [show (wx.alloc (.cells #[.int .i64 ex.var, .int .i64 ex.no, .int .i64 ex.yes, .slice ea ex.wts.length ec] 80)).heap.size = wx.heap.size + 1 by simp] at this
            exact this
          have xB : Blk (((wx.alloc (.cells #[] 80)).alloc (.cells #[.int .i64 ex.var, .int .i64 ex.no, .int .i64 ex.yes, .slice ea ex.wts.length ec] 80)).drew) (wx.heap.size + 1) #[.int .i64 ex.var, .int .i64 ex.no, .int .i64 ex.yes, .slice ea ex.wts.length ec] 80 := Blk.newAt _ _ 80 (by simp)
          have xC : Blk (((wx.alloc (.cells #[.int .i64 ex.var, .int .i64 ex.no, .int .i64 ex.yes, .slice ea ex.wts.length ec] 80)).alloc (.cells #[] 80)).drew) wx.heap.size #[.int .i64 ex.var, .int .i64 ex.no, .int .i64 ex.yes, .slice ea ex.wts.length ec] 80 := (Blk.new wx _ 80).alloc _
          obtain ⟨e0, e1, e2, e3⟩ := HE.out _ (Below.refl wx.heap.size wx).drew
          obtain ⟨e0a, e1a, e2a, e3a⟩ := HE.out _ hA
          have HG := Lib.hid (And.intro oA (And.intro hA (And.intro oB (And.intro hB (And.intro xB (And.intro oC (And.intro hC xC)))))))
          clear oA hA oB hB xB oC hC xC kr kp' ks' kr'
          have hwx : bl.length ≤ 511 := hbl511
          go_wp2_with fail
          go_cut [27] from 109 to 141 (fun u27 wz => ∃ la lc, u27 = .slice la (bl.length + 1) lc ∧ StepsAt wz (.slice la (bl.length + 1) lc) (bl ++ [ex]) ∧ lc ≤ 9223372036854775807 ∧ Below wx.heap.size wx wz)
          case first =>
            go_region_law (first | ((with_reducible show (if _ then Oper.wp _ _ _ ((wx.alloc (.cells #[] 80)).drew) _ _ else _)); refine step_appW E35 rfl (.tmp 136) (.tmp 137) rfl wx.heap.size (m := bl.length) (c := bc) (p := ⟨b, off, none⟩) (news := cs) HG.out.1 rfl rfl HCS.out.1.len (HCS.out.2.2 _ (HBX.out.trans (HG.out.2.1.mono HBX.out.size)) _ rfl) (steps_flat_one HCS.out.1) (by unfold maxLen; omega) (by omega) (HG.out.2.1.size) ?_; intro v1 w1 ho1 hg1; rw [show 0 + bl.length = bl.length from Nat.zero_add _, List.nil_append] at ho1; obtain ⟨va1, vc1, rfl, hv11, hv12⟩ := owned_len ho1; unfold maxLen at hv12; have bg1 : Below wx.heap.size wx w1 := HG.out.2.1.grown hg1 HG.out.2.1.size (fun j hj => by simp [Value.ownBlock] at hj; omega); obtain ⟨e0x, e1x, e2x, e3x⟩ := HE.out _ bg1) | ((with_reducible show (if _ then Oper.wp _ _ _ (((wx.alloc (.cells #[] 80)).alloc (.cells #[.int .i64 ex.var, .int .i64 ex.no, .int .i64 ex.yes, .slice ea ex.wts.length ec] 80)).drew) _ _ else _)); refine step_appW E35 rfl (.tmp 136) (.tmp 137) rfl wx.heap.size (m := bl.length) (c := bc) (p := ⟨b, off, none⟩) (news := cs) HG.out.2.2.1 rfl rfl HCS.out.1.len (HCS.out.2.2 _ (HBX.out.trans (HG.out.2.2.2.1.mono HBX.out.size)) _ rfl) (steps_flat_one HCS.out.1) (by unfold maxLen; omega) (by omega) (HG.out.2.2.2.1.size) ?_; intro v1 w1 ho1 hg1; rw [show 0 + bl.length = bl.length from Nat.zero_add _, List.nil_append] at ho1; obtain ⟨va1, vc1, rfl, hv11, hv12⟩ := owned_len ho1; unfold maxLen at hv12; have bg1 : Below wx.heap.size wx w1 := HG.out.2.2.2.1.grown hg1 HG.out.2.2.2.1.size (fun j hj => by simp [Value.ownBlock] at hj; omega); obtain ⟨e0x, e1x, e2x, e3x⟩ := HE.out _ bg1; have xb1 : Blk w1 (wx.heap.size + 1) #[.int .i64 ex.var, .int .i64 ex.no, .int .i64 ex.yes, .slice ea ex.wts.length ec] 80 := (hg1.block _ HG.out.2.2.2.2.1.lt (fun e => by simp [Value.ownBlock] at e)).trans HG.out.2.2.2.2.1) | ((with_reducible show (if _ then Oper.wp _ _ _ (((wx.alloc (.cells #[.int .i64 ex.var, .int .i64 ex.no, .int .i64 ex.yes, .slice ea ex.wts.length ec] 80)).alloc (.cells #[] 80)).drew) _ _ else _)); refine step_appW E35 rfl (.tmp 136) (.tmp 137) rfl wx.heap.size (m := bl.length) (c := bc) (p := ⟨b, off, none⟩) (news := cs) HG.out.2.2.2.2.2.1 rfl rfl HCS.out.1.len (HCS.out.2.2 _ (HBX.out.trans (HG.out.2.2.2.2.2.2.1.mono HBX.out.size)) _ rfl) (steps_flat_one HCS.out.1) (by unfold maxLen; omega) (by omega) (HG.out.2.2.2.2.2.2.1.size) ?_; intro v1 w1 ho1 hg1; rw [show 0 + bl.length = bl.length from Nat.zero_add _, List.nil_append] at ho1; obtain ⟨va1, vc1, rfl, hv11, hv12⟩ := owned_len ho1; unfold maxLen at hv12; have bg1 : Below wx.heap.size wx w1 := HG.out.2.2.2.2.2.2.1.grown hg1 HG.out.2.2.2.2.2.2.1.size (fun j hj => by simp [Value.ownBlock] at hj; omega); obtain ⟨e0x, e1x, e2x, e3x⟩ := HE.out _ bg1; have xb1 : Blk w1 wx.heap.size #[.int .i64 ex.var, .int .i64 ex.no, .int .i64 ex.yes, .slice ea ex.wts.length ec] 80 := (hg1.block _ HG.out.2.2.2.2.2.2.2.lt (fun e => by simp [Value.ownBlock] at e)).trans HG.out.2.2.2.2.2.2.2) | (refine step_appW E35 rfl (.tmp 138) (.tmp 140) rfl wx.heap.size (w := w1.alloc (.cells #[.int .i64 ex.var, .int .i64 ex.no, .int .i64 ex.yes, .slice ea ex.wts.length ec] 80)) (v := .slice va1 bl.length vc1) (n := bl.length) (m := 1) (c := 1) (p := ⟨w1.heap.size, 0, none⟩) (news := [.int .i64 ex.var, .int .i64 ex.no, .int .i64 ex.yes, .slice ea ex.wts.length ec]) (owned_below ho1 ((Below.refl _ _).alloc (Nat.le_refl _) _)) rfl rfl rfl (fun j u hj => by rw [addr_add, Nat.zero_add]; exact ((Blk.new w1 #[.int .i64 ex.var, .int .i64 ex.no, .int .i64 ex.yes, .slice ea ex.wts.length ec] 80).cell j).trans (by rw [List.getElem?_toArray]; exact hj)) (fun u hu => by simp at hu; rcases hu with rfl | rfl | rfl | rfl <;> rfl) (by unfold maxLen; omega) (by omega) (by have := bg1.size; simp; omega) ?_; intro v2 w2 ho2 hg2; obtain ⟨va2, vc2, rfl, hv21, hv22⟩ := owned_len ho2; unfold maxLen at hv22; have bg2 : Below wx.heap.size wx w2 := (bg1.alloc bg1.size _).grown hg2 (bg1.alloc bg1.size _).size (own_ge ho1)) | (refine step_appW E35 rfl (.tmp 138) (.tmp 140) rfl wx.heap.size (w := w1) (v := .slice va1 bl.length vc1) (n := bl.length) (m := 1) (c := 1) (p := ⟨wx.heap.size + 1, 0, none⟩) (news := [.int .i64 ex.var, .int .i64 ex.no, .int .i64 ex.yes, .slice ea ex.wts.length ec]) ho1 rfl rfl rfl (fun j u hj => by rw [addr_add, Nat.zero_add]; exact (xb1.cell j).trans (by rw [List.getElem?_toArray]; exact hj)) (fun u hu => by simp at hu; rcases hu with rfl | rfl | rfl | rfl <;> rfl) (by unfold maxLen; omega) (by omega) bg1.size ?_; intro v2 w2 ho2 hg2; obtain ⟨va2, vc2, rfl, hv21, hv22⟩ := owned_len ho2; unfold maxLen at hv22; have bg2 : Below wx.heap.size wx w2 := bg1.grown hg2 bg1.size (own_ge ho1)) | (refine step_appW E35 rfl (.tmp 138) (.tmp 140) rfl wx.heap.size (w := w1) (v := .slice va1 bl.length vc1) (n := bl.length) (m := 1) (c := 1) (p := ⟨wx.heap.size, 0, none⟩) (news := [.int .i64 ex.var, .int .i64 ex.no, .int .i64 ex.yes, .slice ea ex.wts.length ec]) ho1 rfl rfl rfl (fun j u hj => by rw [addr_add, Nat.zero_add]; exact (xb1.cell j).trans (by rw [List.getElem?_toArray]; exact hj)) (fun u hu => by simp at hu; rcases hu with rfl | rfl | rfl | rfl <;> rfl) (by unfold maxLen; omega) (by omega) bg1.size ?_; intro v2 w2 ho2 hg2; obtain ⟨va2, vc2, rfl, hv21, hv22⟩ := owned_len ho2; unfold maxLen at hv22; have bg2 : Below wx.heap.size wx w2 := bg1.grown hg2 bg1.size (own_ge ho1)))
            all_goals (
              go_wp2_with fail
              go_meet
              have hB42 := HBX.out.trans (bg2.mono HBX.out.size)
              have hBw2 := HBWX.out.trans (bg2.mono HBWX.out.size)
              have hl1 : (bl ++ [ex]).length = bl.length + 1 := by simp
              have ho3 : w2.ownsRow wx.heap.size 80 4 (.slice va2 (bl.length + 1) vc2) (bl ++ [ex]).length (cs ++ [.int .i64 ex.var, .int .i64 ex.no, .int .i64 ex.yes, .slice ea ex.wts.length ec]) := by rw [hl1]; exact ho2
              have hst : StepsAt w2 (.slice va2 (bl.length + 1) vc2) (bl ++ [ex]) := flat_view ho3 (FlatC.app (FlatC.to (R := StepCs) (W := w4) (R' := StepCs) (W' := w2) (fun _ _ h => h.below hB42) HCS.out.1) (FlatC.one rfl ⟨_, rfl, WtsAt.below HEX.out hBw2⟩))
              exact ⟨va2, vc2, rfl, hst, hv22, bg2⟩)
          case rest =>
            rename World => wz
            obtain ⟨la, lc, rfl, hlong, hlc, hBz⟩ := hcut
            have hB4z := HBX.out.trans (hBz.mono HBX.out.size)
            have hBwz := HBWX.out.trans (hBz.mono HBWX.out.size)
            obtain ⟨kp', ks', -⟩ := HKK.out
            have kp := kp'.below hB4z kp'.lt
            have ks := ks'.below hB4z ks'.lt
            have HPV := Lib.hid (fun W (hW : Below wz.heap.size wz W) => show ProgV W (.agg #[.int .i64 m, .slice ra rows.length rc, .slice ga gn.length gc]) ⟨m, rows, gn⟩ from ⟨_, _, rfl, (HVB.out.1.below hB4z).below hW, (HVB.out.2.below hB4z).below hW⟩)
            have HL := Lib.hid (fun W (hW : Below wz.heap.size wz W) => (StepsAt.below HBL.out.1 hB4z).below hW)
            have HLG := Lib.hid (fun W (hW : Below wz.heap.size wz W) => (StepsAt.below HGR.out.1 (hBx.trans (hBz.mono hBx.size))).below hW)
            have HLL := Lib.hid (fun W (hW : Below wz.heap.size wz W) => StepsAt.below hlong hW)
            have h1 := Lib.hid (fun W (hW : Below wz.heap.size wz W) => bounds_any _ _ ⟨m, rows, gn⟩ bl s1.gain W (HPV.out W hW) (HL.out W hW) hgl (by show rows.length ≤ 1000; omega))
            have h2 := Lib.hid (fun W (hW : Below wz.heap.size wz W) => bounds_any _ _ ⟨m, rows, gn⟩ (greatD bl k n) s1.gain W (HPV.out W hW) (HLG.out W hW) hgl (by show rows.length ≤ 1000; omega))
            have h3 := Lib.hid (fun W (hW : Below wz.heap.size wz W) => bounds_any _ _ ⟨m, rows, gn⟩ (bl ++ [ex]) s1.gain W (HPV.out W hW) (HLL.out W hW) hgl (by show rows.length ≤ 1000; omega))
            have h4 := Lib.hid (fun W (hW : Below wz.heap.size wz W) => prefutes_any _ _ ⟨m, rows, gn⟩ bl W (HPV.out W hW) (HL.out W hW))
            have h5 := Lib.hid (fun W (hW : Below wz.heap.size wz W) => prefutes_any _ _ ⟨m, rows, gn⟩ (greatD bl k n) W (HPV.out W hW) (HLG.out W hW))
            have h6 := Lib.hid (fun W (hW : Below wz.heap.size wz W) => wrong_any _ _ ⟨m, rows, gn⟩ bl W (HPV.out W hW) (HL.out W hW))
            have h7 := Lib.hid (fun W (hW : Below wz.heap.size wz W) => wrong_any _ _ ⟨m, rows, gn⟩ (bl ++ [ex]) W (HPV.out W hW) (HLL.out W hW))
            rw [bounds_great hn1.1 HGR.out.2] at h2
            rw [wrong_great hn1.1 HGR.out.2] at h5
            have hl1 : wholeB bl bl.length = true → boundsV ⟨m, rows, gn⟩ (bl ++ [ex]) s1.gain = boundsV ⟨m, rows, gn⟩ bl s1.gain ∧ wrongD ⟨m, rows, gn⟩ (bl ++ [ex]) = wrongD ⟨m, rows, gn⟩ bl := fun h => ⟨bounds_longer h hblp (by omega), wrong_longer h hblp (by omega)⟩
            obtain ⟨wh, hwh⟩ : ∃ b, wholeB bl bl.length = b := ⟨_, rfl⟩
            rw [hwh] at hl1 ⊢
            have HL1 := Lib.hid hl1
            generalize boundsV ⟨m, rows, gn⟩ (bl ++ [ex]) s1.gain = vb3 at h3 HL1
            generalize boundsV ⟨m, rows, gn⟩ bl s1.gain = vb at h1 h2 HL1
            generalize wrongD ⟨m, rows, gn⟩ (bl ++ [ex]) = wd3 at h7 HL1
            generalize wrongD ⟨m, rows, gn⟩ bl = wd at h4 h5 h6 HL1
            have j0 := kp.cell 0
            have j1 := kp.cell 1
            have j2 := kp.cell 2
            have s2 := ks.cell 2
            simp only [List.getElem?_toArray, List.getElem?_cons_succ, List.getElem?_cons_zero] at j0 j1 j2 s2
            have lp := kp.lt
            have ls := ks.lt
            have HC := Lib.hid (fun W (hW : Below wz.heap.size wz W) => show W.cell? ⟨w2.heap.size, 0, none⟩ = some (.int .i64 m) ∧ W.cell? ⟨w2.heap.size, 1, none⟩ = some (.slice ra rows.length rc) ∧ W.cell? ⟨w2.heap.size, 2, none⟩ = some (.slice ga gn.length gc) ∧ W.cell? ⟨w3.heap.size, 2, none⟩ = some (.int .i64 s1.gain) from ⟨(hW.cell lp).trans j0, (hW.cell lp).trans j1, (hW.cell lp).trans j2, (hW.cell ls).trans s2⟩)
            have HBWZ := Lib.hid hBwz
            clear hwh hl1 kp' ks' kp ks hlong hBz hB4z hBwz HPV HL HLG HLL HGR HBR hBx e0 e1 e2 e3 e0a e1a e2a e3a hpk
            go_upto_region 26 with fail
            go_cut [28] from 142 to 161 (fun u28 wy => u28 = .bool true ∧ Below wz.heap.size wz wy)
            case first =>
              go_region_held3 (fun w' => Below wz.heap.size wz w' ∧ w'.cell? ⟨w2.heap.size, 0, none⟩ = some (.int .i64 m) ∧ w'.cell? ⟨w2.heap.size, 1, none⟩ = some (.slice ra rows.length rc) ∧ w'.cell? ⟨w2.heap.size, 2, none⟩ = some (.slice ga gn.length gc) ∧ w'.cell? ⟨w3.heap.size, 2, none⟩ = some (.int .i64 s1.gain))
                (first | exact ⟨(Below.refl _ _).drew, HC.out _ (Below.refl _ _).drew⟩ | (have hh := (‹Below wz.heap.size wz _ ∧ _›).1; have hb := hh.trans (hBq.mono hh.size); exact ⟨hb, HC.out _ hb⟩))
                (first
                  | (go_at_call 55; (with_reducible refine (h1.out _ (‹Below wz.heap.size wz _ ∧ _›).1).mono ?_); rintro e wq ⟨rfl, hBq⟩)
                  | (go_at_call 55; (with_reducible refine (h2.out _ (‹Below wz.heap.size wz _ ∧ _›).1).mono ?_); rintro e wq ⟨rfl, hBq⟩)
                  | (go_at_call 48; (with_reducible refine (h4.out _ (‹Below wz.heap.size wz _ ∧ _›).1).mono ?_); rintro e wq ⟨rfl, hBq⟩)
                  | (go_at_call 48; (with_reducible refine (h5.out _ (‹Below wz.heap.size wz _ ∧ _›).1).mono ?_); rintro e wq ⟨rfl, hBq⟩))
              all_goals (
                go_wp2_with fail
                go_meet
                exact ⟨rfl, (‹Below wz.heap.size wz _ ∧ _›).1⟩)
            case rest =>
              rename World => wy
              obtain ⟨rfl, hBy'⟩ := hcut
              have hBy := Lib.hid hBy'
              clear j0 j1 j2 s2
              obtain ⟨j0, j1, j2, s2⟩ := HC.out _ hBy'
              have HCy := Lib.hid (fun W (hW : Below wy.heap.size wy W) => HC.out W (hBy.out.trans (hW.mono hBy.out.size)))
              clear hBy'
              go_upto_region 27 with fail
              go_cut [29] from 162 to 185 (fun u29 wu => u29 = .bool true ∧ Below wy.heap.size wy wu)
              case first =>
                cases wh with
                | false =>
                  go_quiet (fail)
                  go_wp2_with fail
                  go_meet
                  exact ⟨rfl, below_drewN (Below.refl _ _) _⟩
                | true =>
                  obtain ⟨l1, l2⟩ := HL1.out rfl
                  rw [l1] at h3
                  rw [l2] at h7
                  go_region_held3 (fun w' => Below wy.heap.size wy w' ∧ w'.cell? ⟨w2.heap.size, 0, none⟩ = some (.int .i64 m) ∧ w'.cell? ⟨w2.heap.size, 1, none⟩ = some (.slice ra rows.length rc) ∧ w'.cell? ⟨w2.heap.size, 2, none⟩ = some (.slice ga gn.length gc) ∧ w'.cell? ⟨w3.heap.size, 2, none⟩ = some (.int .i64 s1.gain))
                    (first | exact ⟨(Below.refl _ _).drew, HCy.out _ (Below.refl _ _).drew⟩ | (have hh := (‹Below wy.heap.size wy _ ∧ _›).1; have hb := hh.trans (hBq.mono hh.size); exact ⟨hb, HCy.out _ hb⟩))
                    (first
                      | (go_at_call 55; (with_reducible refine (h1.out _ (hBy.out.trans ((‹Below wy.heap.size wy _ ∧ _›).1.mono hBy.out.size))).mono ?_); rintro e wq ⟨rfl, hBq⟩)
                      | (go_at_call 55; (with_reducible refine (h3.out _ (hBy.out.trans ((‹Below wy.heap.size wy _ ∧ _›).1.mono hBy.out.size))).mono ?_); rintro e wq ⟨rfl, hBq⟩)
                      | (go_at_call 50; (with_reducible refine (h6.out _ (hBy.out.trans ((‹Below wy.heap.size wy _ ∧ _›).1.mono hBy.out.size))).mono ?_); rintro e wq ⟨rfl, hBq⟩)
                      | (go_at_call 50; (with_reducible refine (h7.out _ (hBy.out.trans ((‹Below wy.heap.size wy _ ∧ _›).1.mono hBy.out.size))).mono ?_); rintro e wq ⟨rfl, hBq⟩))
                  all_goals (
                    go_wp2_with fail
                    go_meet
                    exact ⟨rfl, (‹Below wy.heap.size wy _ ∧ _›).1⟩)
              case rest =>
                rename World => wu
                obtain ⟨rfl, hBu'⟩ := hcut
                have hBu := Lib.hid hBu'
                clear j0 j1 j2 s2
                obtain ⟨j0, j1, j2, s2⟩ := HCy.out _ hBu'
                have HCu := Lib.hid (fun W (hW : Below wu.heap.size wu W) => HCy.out W (hBu.out.trans (hW.mono hBu.out.size)))
                have h4u := Lib.hid (fun W (hW : Below wu.heap.size wu W) => h4.out W (hBy.out.trans ((hBu.out.trans (hW.mono hBu.out.size)).mono hBy.out.size)))
                have h6u := Lib.hid (fun W (hW : Below wu.heap.size wu W) => h6.out W (hBy.out.trans ((hBu.out.trans (hW.mono hBu.out.size)).mono hBy.out.size)))
                have hBwu := Lib.hid (HBWZ.out.trans ((hBy.out.trans (hBu.out.mono hBy.out.size)).mono HBWZ.out.size))
                clear hBu'
                go_upto_region 28 with fail
                go_region_held3 (fun w' => Below wu.heap.size wu w' ∧ w'.cell? ⟨w2.heap.size, 0, none⟩ = some (.int .i64 m) ∧ w'.cell? ⟨w2.heap.size, 1, none⟩ = some (.slice ra rows.length rc) ∧ w'.cell? ⟨w2.heap.size, 2, none⟩ = some (.slice ga gn.length gc) ∧ w'.cell? ⟨w3.heap.size, 2, none⟩ = some (.int .i64 s1.gain))
                  (first | exact ⟨(Below.refl _ _).drew, HCu.out _ (Below.refl _ _).drew⟩ | (have hh := (‹Below wu.heap.size wu _ ∧ _›).1; have hb := hh.trans (hBq.mono hh.size); exact ⟨hb, HCu.out _ hb⟩))
                  (first
                    | (go_at_call 48; (with_reducible refine (h4u.out _ (‹Below wu.heap.size wu _ ∧ _›).1).mono ?_); rintro e wq ⟨rfl, hBq⟩)
                    | (go_at_call 50; (with_reducible refine (h6u.out _ (‹Below wu.heap.size wu _ ∧ _›).1).mono ?_); rintro e wq ⟨rfl, hBq⟩))
                all_goals (
                  go_wp2
                  go_ret
                  have hh := (‹Below wu.heap.size wu _ ∧ _›).1
                  exact ⟨by simp, hBwu.out.trans (hh.mono hBwu.out.size)⟩)
theorem weights_all (vars : Int) (vx : Value) (x : List X3) (gain : List Int) (z : List Int) (which by_ : Int) (ex : StepD) (vew : Value) (w : World) (hv : InR vars) (hx : XsAt w vx x) (hxr : ∀ t ∈ x, XR t) (hg : gain.length = 8) (hgr : ∀ t ∈ gain, InR t)
    (hz : z.length = 4) (hzr : ∀ t ∈ z, InR t) (hwh : InR which) (hby : InR by_) (hex : WtsAt w vew ex.wts) :
    Calls Try.prog 11 #[.int .i64 vars, vx, .agg (gain.map (Value.int .i64)).toArray, .agg (z.map (Value.int .i64)).toArray, .int .i64 which, .int .i64 by_, .agg #[.int .i64 ex.var, .int .i64 ex.no, .int .i64 ex.yes, vew]] w fun e w' => e = .returned (.bool true) ∧ Below w.heap.size w w' := by
  obtain ⟨m, hG⟩ := goodP vars x gain
  have hmade := Lib.hid (fun W (hW : Below w.heap.size w W) => made_view vars vx x gain W hv (hx.below hW) hxr hg hgr)
  generalize madeP vars x gain = p at hG hmade
  obtain ⟨pv, rows, gn⟩ := p
  obtain rfl : pv = m := hG.vm
  obtain ⟨g0, g1, g2, g3, g4, g5, g6, g7, hge⟩ := list8 hg
  have harg : (gain.map (Value.int .i64)).toArray = #[.int .i64 g0, .int .i64 g1, .int .i64 g2, .int .i64 g3, .int .i64 g4, .int .i64 g5, .int .i64 g6, .int .i64 g7] := by rw [hge]; rfl
  obtain ⟨z0, z1, z2, z3, hze⟩ : ∃ a b c d, z = [a, b, c, d] := by
    match z, hz with
    | [a, b, c, d], _ => exact ⟨a, b, c, d, rfl⟩
  have hzarg : (z.map (Value.int .i64)).toArray = #[.int .i64 z0, .int .i64 z1, .int .i64 z2, .int .i64 z3] := by rw [hze]; rfl
  rw [harg] at hmade ⊢
  rw [hzarg]
  refine weights_true vars vx g0 g1 g2 g3 g4 g5 g6 g7 z0 z1 z2 z3 which by_ ex vew m rows gn w hG ?_ hwh hby hex hmade
  subst hze
  exact ⟨hzr _ (by simp), hzr _ (by simp), hzr _ (by simp), hzr _ (by simp)⟩
end Go.Proofs.Ytblmpmapcdpaiaa

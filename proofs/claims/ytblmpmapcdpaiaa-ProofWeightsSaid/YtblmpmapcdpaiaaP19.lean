/- nadirlaw23.sane. -/
import Derived.Test.YtblmpmapcdpaiaaP18
import Derived.Test.YtblmpmapcdpaiaaP15
import Derived.Test.YtblmpmapcdpaiaaHead
namespace Go.Proofs.Ytblmpmapcdpaiaa
open Go.RowKit Lib

theorem wpList_rows {ops : Array Oper} {rest : List Oper} {o : Oper} {a : Act} {w : World} {Q : Exit → Act → World → Prop}
    (hg : o.guard = none) (s x : Operand) (hop : o.op = Op.call { callee := Callee.builtin Builtin.append, args := #[s, x], argTypes := #[27, 27] })
    {ra : Option Addr} {cap B n m : Nat} {rows : List RowD} {r : RowD} (hrows : RowsAt w (.slice ra rows.length cap) rows) (hs : a.eval s = .slice ra n n) (hnr : n = rows.length) (hm : m = n + 1)
    (cs : Array Value) (hx : a.eval x = .slice (some ⟨B, 0, none⟩) 1 1) (hb : Blk w B cs 26) (hr : RowCs w cs.toList r) (h1 : ∀ u ∈ cs.toList, u.oneCell' = true) (hn : rows.length ≤ 1000)
    (hK : ∀ a' cap' w', RowsAt w' (.slice a' m cap') (rows ++ [r]) → Below w.heap.size w w' → wpList Try.prog ops Q rest (a.put o.dst (.slice a' m cap')) w') :
    wpList Try.prog ops Q (o :: rest) a w := by
  subst hnr hm
  obtain ⟨i, hi, hz0, hz1, hz2⟩ := info_parts E27.info
  obtain ⟨olds, ho1, ho2⟩ := hrows.flat
  have h6 : cs.toList.length = 6 := by obtain ⟨vc, e, -⟩ := hr; rw [e]; rfl
  refine wpList_append_grows w hg s x 27 hop 26 i _ 6 64 E27.und hi hz0 hz1 hz2 E27.zs E27.pos ra rows.length rows.length olds hs ?_ ho1.len ho2 ⟨B, 0, none⟩ 1 1 cs.toList hx (by rw [h6]) ?_ h1 (by omega) (by unfold maxLen; omega) (by omega) ?_
  · rintro rfl
    rw [hrows.none]; exact ⟨rfl, rfl⟩
  · intro j u hj
    rw [add_zero_off]
    exact (hb.cell j).trans (by simpa using hj)
  · intro v' w' hown hgrow
    have hB := below_grown hgrow
    have hv := flat_view (l := rows ++ [r]) (R := RowCs) (by simpa using hown) ((ho1.imp (fun cs y h => h.below hB)).app (FlatC.one h6 (hr.below hB)))
    obtain ⟨a', cap', e, -, -⟩ := hv.len
    subst e
    have := hK a' cap' w' (by unfold RowsAt; simpa using hv) hB
    simpa using this

def tightR : RowD := ⟨0, 0, 0, 0, [-1, -1, -1], -3⟩
def tightP : ProgD := ⟨3, exP.rows ++ [tightR], exP.gain⟩
theorem ex_solve : solveV exP = ⟨true, 3, 9, proofS exP⟩ ∧ solveV tightP = ⟨false, 0, 0, proofS tightP⟩ ∧ solveV ⟨1, [], []⟩ = ⟨false, 0, 0, []⟩ := ⟨rfl, rfl, rfl⟩
theorem ex_err : errV exP = 0 ∧ errV tightP = 0 ∧ errV ⟨1, [], []⟩ = 230 := by decide
theorem ex_proof : (∃ n y l, proofS exP = { var := 0, no := n, yes := y, wts := [] } :: l) ∧ (∃ s l, proofS tightP = s :: l) := ⟨⟨_, _, _, rfl⟩, _, _, rfl⟩
theorem ex_all : allV exP = [0, 1, 2, 3, 4, 6] := by decide
theorem ex_with : withoutE tightP [2] = 0 ∧ withoutV tightP [2] = exP ∧ withoutE exP [2] = 230 ∧ withoutV exP [2] = ⟨0, [], []⟩ := ⟨by decide, rfl, by decide, rfl⟩
theorem ex_rest : brokenV exP 5 = [1] ∧ sumV ⟨0, 0, 0, 0, [2, 3, 1], 5⟩ 5 = 3 ∧ gainV exP 6 = 7 := ⟨rfl, rfl, rfl⟩
theorem ex_valid : validB exP = true ∧ validB ⟨13, [], []⟩ = false := by decide

set_option maxRecDepth 100000 in
set_option maxHeartbeats 4000000 in
theorem sane_true (w : World) : Calls Try.prog 16 #[] w fun e w' => e = .returned (.bool true) ∧ Below w.heap.size w w' := by
  obtain ⟨n0, y0, l0, hp0⟩ := ex_proof.1
  obtain ⟨s1, l1, hp1⟩ := ex_proof.2
  go_enter Try.func16, Try.ntmps16
  go_wp2_with fail
  refine (example_all _).mono ?_
  rintro e w1 ⟨rb, vg, rfl, hr1, hg1, hB1⟩
  obtain ⟨ga, gc, rfl, -, -⟩ := hg1.len
  have hA : Below w1.heap.size w1 (w1.alloc (.cells #[.int .i64 3, .slice (some ⟨rb, 0, none⟩) 2 2, .slice ga exP.gain.length gc] 29)) := (Below.refl _ _).alloc (Nat.le_refl _) _
  have hx := solve_all _ exP _ ⟨_, _, rfl, hr1.below hA, hg1.below hA⟩
  rw [ex_solve.1, ex_err.1, hp0] at hx
  go_wp2_with fail
  refine hx.mono ?_
  rintro e w2 ⟨v2, rfl, ⟨pv, rfl, hst⟩, hB2⟩
  have hAB := hA.trans (hB2.mono hA.size)
  have kp : Blk w2 w1.heap.size _ 29 := (Blk.new w1 #[.int .i64 3, .slice (some ⟨rb, 0, none⟩) 2 2, .slice ga exP.gain.length gc] 29).below hB2 (by simp)
  replace hr1 := hr1.below hAB
  replace hg1 := hg1.below hAB
  have hB := hB1.trans (hAB.mono hB1.size)
  obtain ⟨pa, pc, rfl, -, -⟩ := hst.len
  have i0 := kp.cell 0
  have i1 := kp.cell 1
  have i2 := kp.cell 2
  have lp := kp.lt
  simp only [List.getElem?_toArray, List.getElem?_cons_succ, List.getElem?_cons_zero] at i0 i1 i2
  clear hA hx hB2 hAB hB1
  have hA : Below w2.heap.size w2 (w2.alloc (.cells #[.bool true, .int .i64 3, .int .i64 9, .slice pa (l0.length + 1) pc] 37)) := (Below.refl _ _).alloc (Nat.le_refl _) _
  have hx := all_all _ exP _ ⟨_, _, rfl, hr1.below hA, hg1.below hA⟩
  rw [ex_err.1, ex_all] at hx
  go_wp2_with fail
  refine hx.mono ?_
  rintro e w3 ⟨v3, rfl, hal, hB2⟩
  have hAB := hA.trans (hB2.mono hA.size)
  have ks : Blk w3 w2.heap.size _ 37 := (Blk.new w2 #[.bool true, .int .i64 3, .int .i64 9, .slice pa (l0.length + 1) pc] 37).below hB2 (by simp)
  replace kp := kp.below hAB kp.lt
  replace hr1 := hr1.below hAB
  replace hg1 := hg1.below hAB
  replace hst := StepsAt.below hst hAB
  replace hB := hB.trans (hAB.mono hB.size)
  clear hA hx hB2 hAB i0 i1 i2 lp
  go_wp2_with fail
  refine (example_all _).mono ?_
  rintro e w4 ⟨rb2, vg2, rfl, hr2, hg2, hAB⟩
  obtain ⟨ga2, gc2, rfl, -, -⟩ := hg2.len
  replace kp := kp.below hAB kp.lt
  replace ks := ks.below hAB ks.lt
  replace hr1 := hr1.below hAB
  replace hg1 := hg1.below hAB
  replace hst := StepsAt.below hst hAB
  replace hal := hal.below hAB
  replace hB := hB.trans (hAB.mono hB.size)
  clear hAB
  have hA : Below w4.heap.size w4 (((w4.alloc (.cells #[.int .i64 3, .slice (some ⟨rb2, 0, none⟩) 2 2, .slice ga2 exP.gain.length gc2] 29)).alloc (.cells #[.int .i64 (-1), .int .i64 (-1), .int .i64 (-1)] 3)).alloc (.cells #[.int .i64 0, .int .i64 0, .int .i64 0, .int .i64 0, .slice (some ⟨w4.heap.size + 1, 0, none⟩) 3 3, .int .i64 (-3)] 26)) := (((Below.refl _ _).alloc (Nat.le_refl _) _).alloc (by simp) _).alloc (by simp <;> omega) _
  have kt := ((Blk.new w4 #[.int .i64 3, .slice (some ⟨rb2, 0, none⟩) 2 2, .slice ga2 exP.gain.length gc2] 29).alloc (.cells #[.int .i64 (-1), .int .i64 (-1), .int .i64 (-1)] 3)).alloc (.cells #[.int .i64 0, .int .i64 0, .int .i64 0, .int .i64 0, .slice (some ⟨w4.heap.size + 1, 0, none⟩) 3 3, .int .i64 (-3)] 26)
  go_wp2_with (at_builtin; (refine wpList_rows (rows := exP.rows) rfl _ _ rfl (hr2.below hA) rfl rfl rfl _ (by rfl) (Blk.newAt _ _ _ (by simp)) (r := tightR) ⟨_, rfl, ints_blk (l := [-1, -1, -1]) ((Blk.newAt _ _ _ (by simp)).alloc _) (by decide)⟩ (by intro u hu; simp at hu; rcases hu with rfl | rfl | rfl <;> rfl) (by decide) ?_; intro a5 c5 w5 hr5 hB5; have kt5 := kt.below hB5 kt.lt; have j0 := kt5.cell 0; have j1 := kt5.cell 1; have j2 := kt5.cell 2; have f1 := kt5.frozen 1; simp only [List.getElem?_toArray, List.getElem?_cons_succ, List.getElem?_cons_zero] at j0 j1 j2))
  have hX : Below w4.heap.size w4 (w5.setCell ⟨w4.heap.size, 1, none⟩ (.slice a5 3 c5)) := (hA.trans (hB5.mono hA.size)).setCell (p := ⟨w4.heap.size, 1, none⟩) (Nat.le_refl _) _
  replace hr5 := hr5.setHead kt5 ⟨_, _, _, rfl⟩ (.slice a5 3 c5)
  replace kt := kt5.set 1 (.slice a5 3 c5)
  replace kp := kp.below hX kp.lt
  replace ks := ks.below hX ks.lt
  replace hr1 := hr1.below hX
  replace hg1 := hg1.below hX
  replace hg2 := hg2.below hX
  replace hst := StepsAt.below hst hX
  replace hal := hal.below hX
  replace hB := hB.trans (hX.mono hB.size)
  have hx := solve_all _ tightP _ ⟨_, _, rfl, hr5, hg2⟩
  rw [ex_solve.2.1, ex_err.2.1, hp1] at hx
  clear hA hX hB5 j0 j1 j2 f1 kt5
  refine hx.mono ?_
  rintro e w6 ⟨v6, rfl, ⟨pv6, rfl, hst6⟩, hAB⟩
  obtain ⟨pa6, pc6, rfl, -, -⟩ := hst6.len
  replace kp := kp.below hAB kp.lt
  replace ks := ks.below hAB ks.lt
  replace kt := kt.below hAB kt.lt
  replace hr1 := hr1.below hAB
  replace hg1 := hg1.below hAB
  replace hr5 := hr5.below hAB
  replace hg2 := hg2.below hAB
  replace hst := StepsAt.below hst hAB
  replace hal := hal.below hAB
  replace hB := hB.trans (hAB.mono hB.size)
  clear hAB hx
  have hA : Below w6.heap.size w6 (w6.alloc (.cells #[.bool false, .int .i64 0, .int .i64 0, .slice pa6 (l1.length + 1) pc6] 37)) := (Below.refl _ _).alloc (Nat.le_refl _) _
  have hx := solve_all (.agg #[.int .i64 1, .slice none 0 0, .slice none 0 0]) ⟨1, [], []⟩ (w6.alloc (.cells #[.bool false, .int .i64 0, .int .i64 0, .slice pa6 (l1.length + 1) pc6] 37)) ⟨_, _, rfl, ⟨none, 0, rfl, by simp, by decide, fun h => by simp at h⟩, ⟨none, 0, rfl, by simp, by decide, fun h => by simp at h⟩⟩
  rw [ex_err.2.2, ex_solve.2.2] at hx
  go_wp2_with fail
  refine hx.mono ?_
  rintro e w7 ⟨v7, rfl, ⟨pv7, rfl, hst7⟩, hB2⟩
  obtain ⟨pa7, pc7, rfl, -, -⟩ := hst7.len
  have hAB := hA.trans (hB2.mono hA.size)
  have k7 : Blk w7 w6.heap.size _ 37 := (Blk.new w6 #[.bool false, .int .i64 0, .int .i64 0, .slice pa6 (l1.length + 1) pc6] 37).below hB2 (by simp)
  replace kp := kp.below hAB kp.lt
  replace ks := ks.below hAB ks.lt
  replace kt := kt.below hAB kt.lt
  replace hr1 := hr1.below hAB
  replace hg1 := hg1.below hAB
  replace hr5 := hr5.below hAB
  replace hg2 := hg2.below hAB
  replace hst := StepsAt.below hst hAB
  replace hst6 := StepsAt.below hst6 hAB
  replace hal := hal.below hAB
  replace hB := hB.trans (hAB.mono hB.size)
  clear hA hx hB2 hAB
  have c0 := kt.cell 0
  have c1 := kt.cell 1
  have c2 := kt.cell 2
  have lt := kt.lt
  simp only [List.getElem?_toArray, List.getElem?_cons_succ, List.getElem?_cons_zero, List.setIfInBounds_toArray, List.set_cons_succ, List.set_cons_zero] at c0 c1 c2
  go_wp2_with fail
  have hA : Below w7.heap.size w7 ((w7.alloc (.cells #[.bool false, .int .i64 0, .int .i64 0, .slice pa7 0 pc7] 37)).alloc (.cells #[.int .i64 2] 3)) := ((Below.refl _ _).alloc (Nat.le_refl _) _).alloc (by simp) _
  have hx := without_all (.agg #[.int .i64 3, .slice a5 3 c5, .slice ga2 exP.gain.length gc2]) (.slice (some ⟨w7.heap.size + 1, 0, none⟩) 1 1) tightP [2] ((w7.alloc (.cells #[.bool false, .int .i64 0, .int .i64 0, .slice pa7 0 pc7] 37)).alloc (.cells #[.int .i64 2] 3)) ⟨_, _, rfl, hr5.below hA, hg2.below hA⟩ (ints_blk (l := [2]) (Blk.newAt _ _ _ (by simp)) (by decide)) (by decide) (by decide)
  rw [ex_with.1, ex_with.2.1] at hx
  refine hx.mono ?_
  rintro e w8 ⟨v8, rfl, ⟨vr8, vg8, rfl, hr8, hg8⟩, hB2⟩
  obtain ⟨ra8, rc8, rfl, -, -⟩ := (show SlicesLen vr8 exP.rows.length from hr8.len)
  obtain ⟨ga8, gc8, rfl, -, -⟩ := hg8.len
  have hAB := hA.trans (hB2.mono hA.size)
  replace kp := kp.below hAB kp.lt
  replace ks := ks.below hAB ks.lt
  replace kt := kt.below hAB kt.lt
  replace k7 := k7.below hAB k7.lt
  replace hr1 := hr1.below hAB
  replace hg1 := hg1.below hAB
  replace hst := StepsAt.below hst hAB
  replace hst6 := StepsAt.below hst6 hAB
  replace hal := hal.below hAB
  replace hB := hB.trans (hAB.mono hB.size)
  clear hA hx hB2 hAB c0 c1 c2 hr5 hg2 kt lt
  have i0 := kp.cell 0
  have i1 := kp.cell 1
  have i2 := kp.cell 2
  simp only [List.getElem?_toArray, List.getElem?_cons_succ, List.getElem?_cons_zero] at i0 i1 i2
  have lp := kp.lt
  have hA : Below w8.heap.size w8 ((w8.alloc (.cells #[.int .i64 3, .slice ra8 exP.rows.length rc8, .slice ga8 exP.gain.length gc8] 29)).alloc (.cells #[.int .i64 2] 3)) := ((Below.refl _ _).alloc (Nat.le_refl _) _).alloc (by simp) _
  have hx := without_all (.agg #[.int .i64 3, .slice (some ⟨rb, 0, none⟩) 2 2, .slice ga exP.gain.length gc]) (.slice (some ⟨w8.heap.size + 1, 0, none⟩) 1 1) exP [2] ((w8.alloc (.cells #[.int .i64 3, .slice ra8 exP.rows.length rc8, .slice ga8 exP.gain.length gc8] 29)).alloc (.cells #[.int .i64 2] 3)) ⟨_, _, rfl, hr1.below hA, hg1.below hA⟩ (ints_blk (l := [2]) (Blk.newAt _ _ _ (by simp)) (by decide)) (by decide) (by decide)
  rw [ex_with.2.2.1, ex_with.2.2.2] at hx
  go_wp2_with fail
  refine hx.mono ?_
  rintro e w9 ⟨v9, rfl, ⟨vr9, vg9, rfl, hr9, hg9⟩, hB2⟩
  obtain ⟨ra9, rc9, rfl, -, -⟩ := (show SlicesLen vr9 0 from hr9.len)
  obtain ⟨ga9, gc9, rfl, -, -⟩ := (show SlicesLen vg9 0 from hg9.len)
  have hAB := hA.trans (hB2.mono hA.size)
  have k11 := (show Blk w9 w8.heap.size _ 29 from ((Blk.new w8 #[.int .i64 3, .slice ra8 exP.rows.length rc8, .slice ga8 exP.gain.length gc8] 29).alloc (.cells #[.int .i64 2] 3)).below hB2 (by simp <;> omega))
  replace kp := kp.below hAB kp.lt
  replace ks := ks.below hAB ks.lt
  replace k7 := k7.below hAB k7.lt
  replace hr1 := hr1.below hAB
  replace hg1 := hg1.below hAB
  replace hr8 := hr8.below hAB
  replace hg8 := hg8.below hAB
  replace hst := StepsAt.below hst hAB
  replace hst6 := StepsAt.below hst6 hAB
  replace hal := hal.below hAB
  replace hB := hB.trans (hAB.mono hB.size)
  clear hA hx hB2 hAB i0 i1 i2 lp hr9 hg9
  obtain ⟨pb, po, rfl, hfst⟩ : ∃ pb po, pa = some ⟨pb, po, none⟩ ∧ w9.cell? ⟨pb, po, none⟩ = some (.int .i64 0) := by
    obtain ⟨a', c', e, -, -, h4⟩ := hst
    cases e
    obtain ⟨pb, po, rfl, h5⟩ := h4 (by simp)
    obtain ⟨cs, -, c2, vw, rfl, -⟩ := h5 0 _ rfl
    exact ⟨pb, po, rfl, by simpa using c2 0 _ rfl⟩
  have a0 := ks.cell 0
  have a1 := ks.cell 1
  have a2 := ks.cell 2
  have a3 := ks.cell 3
  simp only [List.getElem?_toArray, List.getElem?_cons_succ, List.getElem?_cons_zero] at a0 a1 a2 a3
  have b0 := k7.cell 0
  have b1 := k7.cell 1
  have b2 := k7.cell 2
  have b3 := k7.cell 3
  simp only [List.getElem?_toArray, List.getElem?_cons_succ, List.getElem?_cons_zero] at b0 b1 b2 b3
  have c0 := k11.cell 0
  have c1 := k11.cell 1
  have c2 := k11.cell 2
  simp only [List.getElem?_toArray, List.getElem?_cons_succ, List.getElem?_cons_zero] at c0 c1 c2
  have i0 := kp.cell 0
  have i1 := kp.cell 1
  have i2 := kp.cell 2
  simp only [List.getElem?_toArray, List.getElem?_cons_succ, List.getElem?_cons_zero] at i0 i1 i2
  have l1s := ks.lt
  have l7s := k7.lt
  have l11s := k11.lt
  have lps := kp.lt
  have lpb := World.block_lt_of_cell? _ _ hfst
  simp only at lpb
  have q0 : ((l0.length : Int) + 1 == 0) = false := beq_eq_false_iff_ne.2 (by omega)
  have q1 : ((l1.length : Int) + 1 == 0) = false := beq_eq_false_iff_ne.2 (by omega)
  have q2 : (0 : Int) < (l0.length : Int) + 1 := by omega
  have hA : Below w9.heap.size w9 ((w9.alloc (.cells #[.int .i64 0, .slice ra9 0 rc9, .slice ga9 0 gc9] 29)).alloc (.cells #[.int .i64 0, .int .i64 1, .int .i64 2, .int .i64 3, .int .i64 4, .int .i64 6] 3)) := ((Below.refl _ _).alloc (Nat.le_refl _) _).alloc (by simp) _
  have hx := ints_same v3 (.slice (some ⟨w9.heap.size + 1, 0, none⟩) 6 6) [0, 1, 2, 3, 4, 6] ((w9.alloc (.cells #[.int .i64 0, .slice ra9 0 rc9, .slice ga9 0 gc9] 29)).alloc (.cells #[.int .i64 0, .int .i64 1, .int .i64 2, .int .i64 3, .int .i64 4, .int .i64 6] 3)) (hal.below hA) (ints_blk (l := [0, 1, 2, 3, 4, 6]) (Blk.newAt _ _ _ (by simp)) (by decide))
  go_wp2_with fail
  refine hx.mono ?_
  rintro e w10 ⟨rfl, hB2⟩
  have hAB := hA.trans (hB2.mono hA.size)
  replace kp := kp.below hAB kp.lt
  replace k11 := k11.below hAB k11.lt
  replace hr1 := hr1.below hAB
  replace hg1 := hg1.below hAB
  replace hr8 := hr8.below hAB
  replace hg8 := hg8.below hAB
  replace hB := hB.trans (hAB.mono hB.size)
  clear hA hx hB2 hAB i0 i1 i2 a0 a1 a2 a3 b0 b1 b2 b3 c0 c1 c2 l1s l7s l11s lps lpb hfst hal hst hst6 ks k7
  have i0 := kp.cell 0
  have i1 := kp.cell 1
  have i2 := kp.cell 2
  simp only [List.getElem?_toArray, List.getElem?_cons_succ, List.getElem?_cons_zero] at i0 i1 i2
  have hx := broken_all _ exP 5 w10 ⟨_, _, rfl, hr1, hg1⟩
  rw [ex_rest.1] at hx
  go_wp2_with fail
  refine hx.mono ?_
  rintro e w11 ⟨v11, rfl, hv11, hAB⟩
  replace kp := kp.below hAB kp.lt
  replace k11 := k11.below hAB k11.lt
  replace hr1 := hr1.below hAB
  replace hg1 := hg1.below hAB
  replace hr8 := hr8.below hAB
  replace hg8 := hg8.below hAB
  replace hB := hB.trans (hAB.mono hB.size)
  clear hx hAB i0 i1 i2
  have hA : Below w11.heap.size w11 (w11.alloc (.cells #[.int .i64 1] 3)) := (Below.refl _ _).alloc (Nat.le_refl _) _
  have hx := ints_same v11 (.slice (some ⟨w11.heap.size, 0, none⟩) 1 1) [1] (w11.alloc (.cells #[.int .i64 1] 3)) (hv11.below hA) (ints_blk (l := [1]) (Blk.newAt _ _ _ (by simp)) (by decide))
  obtain ⟨a11, c11, rfl, -, -⟩ := hv11.len
  go_wp2_with fail
  refine hx.mono ?_
  rintro e w12 ⟨rfl, hB2⟩
  have hAB := hA.trans (hB2.mono hA.size)
  replace kp := kp.below hAB kp.lt
  replace k11 := k11.below hAB k11.lt
  replace hr1 := hr1.below hAB
  replace hg1 := hg1.below hAB
  replace hr8 := hr8.below hAB
  replace hg8 := hg8.below hAB
  replace hB := hB.trans (hAB.mono hB.size)
  clear hA hx hB2 hAB hv11
  have i0 := kp.cell 0
  have i1 := kp.cell 1
  have i2 := kp.cell 2
  simp only [List.getElem?_toArray, List.getElem?_cons_succ, List.getElem?_cons_zero] at i0 i1 i2
  obtain ⟨b, off, vc, e, d0, d1, d2, d3, d4, d5, hvc⟩ := hr1.get (k := 0) (r := ⟨0, 0, 0, 0, [2, 3, 1], 5⟩) rfl
  cases e
  simp only [Nat.zero_mul, Nat.add_zero, Nat.zero_add] at d0 d1 d2 d3 d4 d5
  have hx := sum_all _ ⟨0, 0, 0, 0, [2, 3, 1], 5⟩ 5 w12 ⟨vc, rfl, hvc⟩
  rw [ex_rest.2.1] at hx
  obtain ⟨a12, c12, rfl, -, -⟩ := (show SlicesLen vc 3 from hvc.len)
  go_wp2_with fail
  refine hx.mono ?_
  rintro e w13 ⟨rfl, hAB⟩
  replace kp := kp.below hAB kp.lt
  replace k11 := k11.below hAB k11.lt
  replace hr1 := hr1.below hAB
  replace hg1 := hg1.below hAB
  replace hr8 := hr8.below hAB
  replace hg8 := hg8.below hAB
  replace hB := hB.trans (hAB.mono hB.size)
  clear hx hAB hvc d0 d1 d2 d3 d4 d5 i0 i1 i2
  have i0 := kp.cell 0
  have i1 := kp.cell 1
  have i2 := kp.cell 2
  simp only [List.getElem?_toArray, List.getElem?_cons_succ, List.getElem?_cons_zero] at i0 i1 i2
  have hx := gain_all _ exP 6 w13 ⟨_, _, rfl, hr1, hg1⟩
  rw [ex_rest.2.2] at hx
  go_wp2_with fail
  refine hx.mono ?_
  rintro e w14 ⟨rfl, hAB⟩
  replace kp := kp.below hAB kp.lt
  replace k11 := k11.below hAB k11.lt
  replace hr1 := hr1.below hAB
  replace hg1 := hg1.below hAB
  replace hr8 := hr8.below hAB
  replace hg8 := hg8.below hAB
  replace hB := hB.trans (hAB.mono hB.size)
  clear hx hAB i0 i1 i2
  have i0 := kp.cell 0
  have i1 := kp.cell 1
  have i2 := kp.cell 2
  simp only [List.getElem?_toArray, List.getElem?_cons_succ, List.getElem?_cons_zero] at i0 i1 i2
  have hx := keeps_all _ exP 6 w14 ⟨_, _, rfl, hr1, hg1⟩
  rw [show (choiceB exP 6 && keepsB exP.rows (6 : Int).toNat) = true from by decide] at hx
  go_wp2_with fail
  refine hx.mono ?_
  rintro e w15 ⟨rfl, hAB⟩
  replace kp := kp.below hAB kp.lt
  replace k11 := k11.below hAB k11.lt
  replace hr1 := hr1.below hAB
  replace hg1 := hg1.below hAB
  replace hr8 := hr8.below hAB
  replace hg8 := hg8.below hAB
  replace hB := hB.trans (hAB.mono hB.size)
  clear hx hAB i0 i1 i2
  have i0 := kp.cell 0
  have i1 := kp.cell 1
  have i2 := kp.cell 2
  simp only [List.getElem?_toArray, List.getElem?_cons_succ, List.getElem?_cons_zero] at i0 i1 i2
  have hx := keeps_all _ exP 5 w15 ⟨_, _, rfl, hr1, hg1⟩
  rw [show (choiceB exP 5 && keepsB exP.rows (5 : Int).toNat) = false from by decide] at hx
  go_wp2_with fail
  refine hx.mono ?_
  rintro e w16 ⟨rfl, hAB⟩
  replace kp := kp.below hAB kp.lt
  replace k11 := k11.below hAB k11.lt
  replace hr1 := hr1.below hAB
  replace hg1 := hg1.below hAB
  replace hr8 := hr8.below hAB
  replace hg8 := hg8.below hAB
  replace hB := hB.trans (hAB.mono hB.size)
  clear hx hAB i0 i1 i2
  have i0 := kp.cell 0
  have i1 := kp.cell 1
  have i2 := kp.cell 2
  simp only [List.getElem?_toArray, List.getElem?_cons_succ, List.getElem?_cons_zero] at i0 i1 i2
  have hx := valid_all _ exP w16 ⟨_, _, rfl, hr1, hg1⟩
  rw [ex_valid.1] at hx
  go_wp2_with fail
  refine hx.mono ?_
  rintro e w17 ⟨rfl, hAB⟩
  replace kp := kp.below hAB kp.lt
  replace k11 := k11.below hAB k11.lt
  replace hr1 := hr1.below hAB
  replace hg1 := hg1.below hAB
  replace hr8 := hr8.below hAB
  replace hg8 := hg8.below hAB
  replace hB := hB.trans (hAB.mono hB.size)
  clear hx hAB i0 i1 i2
  have hx := valid_all (.agg #[.int .i64 13, .slice none 0 0, .slice none 0 0]) ⟨13, [], []⟩ w17 ⟨_, _, rfl, ⟨none, 0, rfl, by simp, by decide, fun h => by simp at h⟩, ⟨none, 0, rfl, by simp, by decide, fun h => by simp at h⟩⟩
  rw [ex_valid.2] at hx
  go_wp2_with fail
  refine hx.mono ?_
  rintro e w18 ⟨rfl, hAB⟩
  replace kp := kp.below hAB kp.lt
  replace k11 := k11.below hAB k11.lt
  replace hr1 := hr1.below hAB
  replace hg1 := hg1.below hAB
  replace hr8 := hr8.below hAB
  replace hg8 := hg8.below hAB
  replace hB := hB.trans (hAB.mono hB.size)
  clear hx hAB
  have i0 := kp.cell 0
  have i1 := kp.cell 1
  have i2 := kp.cell 2
  simp only [List.getElem?_toArray, List.getElem?_cons_succ, List.getElem?_cons_zero] at i0 i1 i2
  have c0 := k11.cell 0
  have c1 := k11.cell 1
  have c2 := k11.cell 2
  simp only [List.getElem?_toArray, List.getElem?_cons_succ, List.getElem?_cons_zero] at c0 c1 c2
  have hx := same_same _ _ exP w18 ⟨_, _, rfl, hr8, hg8⟩ ⟨_, _, rfl, hr1, hg1⟩
  go_wp2_with fail
  refine hx.mono ?_
  rintro e w19 ⟨rfl, hAB⟩
  go_wp2
  go_ret
  exact ⟨rfl, hB.trans (hAB.mono hB.size)⟩
end Go.Proofs.Ytblmpmapcdpaiaa

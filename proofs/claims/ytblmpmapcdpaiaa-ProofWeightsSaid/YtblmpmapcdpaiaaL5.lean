/- nadirlaw23.ProgramProof: the walk. -/
import Derived.Test.YtblmpmapcdpaiaaB9
import Derived.Test.YtblmpmapcdpaiaaL7
namespace Go.Proofs.Ytblmpmapcdpaiaa
open Go.RowKit Go.Shelf Lib

theorem T3.grown0 {A B : World} {base e n m : Nat} {v : Value} {xs : List Value} (hown : A.ownsRow base e n v m xs) (he : e ≠ 3) (hg : A.grownBy B v.ownBlock) : T3 A B := fun k cs fz h => by
  have hk := (Array.getElem?_eq_some_iff.1 h).1
  refine (hg.block k hk (fun e2 => ?_)).trans h
  rcases hown.2 with ⟨rfl, -⟩ | ⟨g, cap, cur, rfl, -, hgg, -⟩
  · cases e2
  · obtain rfl : k = g := by simpa [Value.ownBlock] using e2
    have := hgg.symm.trans h
    simp at this; exact he this.2.1
/-- An append of rows to rows of the call's own, as a step of a region that draws; with what stays. -/
theorem step_appT {ops : Array Oper} {o : Oper} {a : Act} {w : World} {K : Act → World → Prop} {Q : Exit → Act → World → Prop} {E : Prop}
    (hg : o.guard = none) (s x : Operand) (hop : o.op = Op.call { callee := Callee.builtin Builtin.append, args := #[s, x], argTypes := #[27, 27] })
    (base : Nat) {v : Value} {n m c : Nat} {xs news : List Value} {xa : Option Addr} (hown : w.ownsRow base 26 6 v n xs) (hs : a.eval s = v) (hx : a.eval x = .slice xa m c) (hl : news.length = m * 6)
    (hnews : ∀ p, xa = some p → ∀ j u, news[j]? = some u → w.cell? (p.add j) = some u) (hnone : xa = none → m = 0 ∧ c = 0) (h1 : ∀ u ∈ news, u.oneCell' = true) (hn : n + m ≤ 1000) (hbase : base ≤ w.heap.size)
    (hK : ∀ v' w', w'.ownsRow base 26 6 v' (n + m) (xs ++ news) → T3 w w' → (∀ k, k < w.heap.size → some k ≠ v.ownBlock → w'.heap[k]? = w.heap[k]?) → Below base w w' → K (a.put o.dst v') w') :
    if Region.wanted o (yielded ops a.tmps) = true then Oper.wp Try.prog o a w K Q else E :=
  step_app hg s x hop base hown hs hx hl hnews hnone h1 hn hbase fun v' w' h2 h3 => hK v' w' h2 (T3.grown0 hown (by decide) h3) (fun k hk hv => h3.block k hk hv) ((Below.refl _ _).grown h3 hbase (fun j hj => (hown.lt j hj).1))
theorem proof_law (m : Nat) (rows : List RowD) (gn : List Int) (hv : validB ⟨(m : Int), rows, gn⟩ = true) (hm : m ≤ 8) :
    errV ⟨m, rows, gn⟩ = 0 ∧ (proofS ⟨m, rows, gn⟩).length ≤ 511 ∧
      ((∃ x : Nat × Int, bestS ⟨m, rows, gn⟩ = some x ∧ -1000000000000 ≤ x.2 ∧ x.2 ≤ 1000000000000 ∧ solveV ⟨m, rows, gn⟩ = ⟨true, x.1, x.2, proofS ⟨m, rows, gn⟩⟩ ∧
          refB (rows ++ [goalS gn x.2]) (proofS ⟨m, rows, gn⟩) (proofS ⟨m, rows, gn⟩).length 0 (List.replicate m (-1)) = true ∧
          refB (rows ++ [goalS gn (x.2 - 1)]) (proofS ⟨m, rows, gn⟩) (proofS ⟨m, rows, gn⟩).length 0 (List.replicate m (-1)) = false ∧
          (∀ g, -10000000000000 ≤ -(g + 1) → -(g + 1) ≤ 10000000000000 → ∀ r ∈ rows ++ [goalS gn g], r.coef.length = m ∧ coefOK r.coef = true ∧ -10000000000000 ≤ r.most ∧ r.most ≤ 10000000000000) ∧
          ∀ g i s, (proofS ⟨m, rows, gn⟩)[i]? = some s → PlainS m (rows ++ [goalS gn g]).length i s) ∨
        (bestS ⟨m, rows, gn⟩ = none ∧ solveV ⟨m, rows, gn⟩ = ⟨false, 0, 0, proofS ⟨m, rows, gn⟩⟩ ∧ refB rows (proofS ⟨m, rows, gn⟩) (proofS ⟨m, rows, gn⟩).length 0 (List.replicate m (-1)) = true ∧
          (∀ r ∈ rows, r.coef.length = m ∧ coefOK r.coef = true ∧ -10000000000000 ≤ r.most ∧ r.most ≤ 10000000000000) ∧
          ∀ i s, (proofS ⟨m, rows, gn⟩)[i]? = some s → PlainS m rows.length i s)) := by
  have hvm : (⟨(m : Int), rows, gn⟩ : ProgD).vars = m := rfl
  have hlen := rowsS_len hv (m := m) hvm
  have hbad := rowsS_bad hv (m := m) hvm
  have hpl := grow_plain (rowsS ⟨m, rows, gn⟩) m m 0 0 0 (by omega)
  have href := refB_grow (rowsS ⟨m, rows, gn⟩) (proofS ⟨m, rows, gn⟩) m (fun r hr => (hlen r hr).1) hbad m 0 0 0 (proofS ⟨m, rows, gn⟩).length (by omega) (by omega)
    (by unfold proofS; simp only [Int.toNat_natCast]; exact Nat.le_refl _) (fun i s h => by rw [Nat.zero_add]; unfold proofS; simp only [Int.toNat_natCast]; exact h)
  have hgl := grow_len (rowsS ⟨m, rows, gn⟩) m 0 0 0
  have hpp : proofS ⟨m, rows, gn⟩ = growS (rowsS ⟨m, rows, gn⟩) m 0 0 0 := by unfold proofS; simp only [Int.toNat_natCast]
  rw [← hpp] at hpl hgl
  rw [decP_open] at href
  have h2 : 2 ^ (m + 1) ≤ 2 ^ 9 := Nat.pow_le_pow_right (by omega) (by omega)
  obtain ⟨v1, v2, v3, v4, v5, v6⟩ := validB_true hv
  simp only at v1 v2 v5 v6
  have hrow : ∀ r ∈ rows, r.coef.length = m ∧ coefOK r.coef = true ∧ -10000000000000 ≤ r.most ∧ r.most ≤ 10000000000000 := fun r hr => by
    obtain ⟨q1, q2, q3, q4, q5⟩ := validB_row hv hr
    simp only [Int.toNat_natCast] at q1
    exact ⟨q1, q3, by omega, by omega⟩
  refine ⟨by unfold errV; rw [if_pos hv], by omega, ?_⟩
  cases hb : bestS ⟨(m : Int), rows, gn⟩ with
  | some x =>
    left
    have hbd := best_bd hv hb
    have hR : rowsS ⟨(m : Int), rows, gn⟩ = rows ++ [goalS gn x.2] := by unfold rowsS; rw [hb]
    rw [hR] at href hpl
    have hall : ∀ g, -10000000000000 ≤ -(g + 1) → -(g + 1) ≤ 10000000000000 → ∀ r ∈ rows ++ [goalS gn g], r.coef.length = m ∧ coefOK r.coef = true ∧ -10000000000000 ≤ r.most ∧ r.most ≤ 10000000000000 := fun g g1 g2 r hr => by
      rcases List.mem_append.1 hr with h | h
      · exact hrow r h
      · simp only [List.mem_singleton] at h; subst h
        exact ⟨by unfold goalS; simp only [List.length_map]; omega, coefOK_neg v6, g1, g2⟩
    have hpl2 : ∀ g i s, (proofS ⟨m, rows, gn⟩)[i]? = some s → PlainS m (rows ++ [goalS gn g]).length i s := fun g i s h => by
      have := hpl i s h
      rw [Nat.zero_add, List.length_append] at this
      rw [List.length_append]; exact this
    refine ⟨x, rfl, hbd.1, hbd.2.1, ?_, href, ?_, hall, hpl2⟩
    · unfold solveV; rw [if_pos hv, hb]
    · refine Bool.eq_false_iff.2 fun hc => ?_
      have hbo := best_of ⟨(m : Int), rows, gn⟩
      rw [hb] at hbo
      obtain ⟨b1, b2, -, -⟩ := hbo
      have hk := (chL_mem.1 (show x.1 ∈ chL rows (2 ^ m) from by have := b1; unfold allS at this; simpa [chL] using this)).2
      have hs := refB_sound _ _ m (fun r hr => (hall (x.2 - 1) (by omega) (by omega) r hr).1) (hpl2 (x.2 - 1)) _ _ _ List.length_replicate hc x.1 (agrees_open m x.1)
      unfold keepsB at hs hk
      rw [List.all_append, hk, Bool.true_and] at hs
      simp only [List.all_cons, List.all_nil, Bool.and_true, keptB, goalS, decide_eq_false_iff_not] at hs
      have hn : ch (gn.map fun n => -n) x.1 = -(ch gn x.1) := ch_neg gn x.1
      simp only at b2
      rw [hn] at hs
      omega
  | none =>
    right
    have hR : rowsS ⟨(m : Int), rows, gn⟩ = rows := by unfold rowsS; rw [hb]
    rw [hR] at href hpl
    exact ⟨rfl, by unfold solveV; rw [if_pos hv, hb], href, hrow, fun i s h => by have := hpl i s h; rwa [Nat.zero_add] at this⟩
set_option maxRecDepth 100000 in
set_option maxHeartbeats 8000000 in
theorem proof_none (vars : Int) (vx : Value) (x : List X3) (gain : List Int) (w : World) (hv : InR vars) (hx : XsAt w vx x) (hxr : ∀ y ∈ x, XR y) (hg : gain.length = 8) (hgr : ∀ y ∈ gain, InR y) (pf : List StepD) (hsv : solveV (madeP vars x gain) = ⟨false, 0, 0, pf⟩) (hlen : pf.length ≤ 511) (href : refB (madeP vars x gain).rows pf pf.length 0 (List.replicate (madeP vars x gain).vars.toNat (-1)) = true)
    (hrow : ∀ r ∈ (madeP vars x gain).rows, r.coef.length = (madeP vars x gain).vars.toNat ∧ coefOK r.coef = true ∧ -10000000000000 ≤ r.most ∧ r.most ≤ 10000000000000) (hpl : ∀ i s, pf[i]? = some s → PlainS (madeP vars x gain).vars.toNat (madeP vars x gain).rows.length i s) :
    Calls Try.prog 5 #[.int .i64 vars, vx, .agg (gain.map (Value.int .i64)).toArray] w fun e w' => e = .returned (.bool true) ∧ Below w.heap.size w w' := by
  obtain ⟨m, hG⟩ := goodP vars x gain
  have hmade := Lib.hid (fun W (hW : Below w.heap.size w W) => made_own vars vx x gain W hv (hx.below hW) hxr hg hgr)
  generalize madeP vars x gain = p at hG hmade hsv href hrow hpl
  obtain ⟨pv, rows, gn⟩ := p
  obtain rfl : pv = m := hG.vm
  obtain ⟨g0, g1, g2, g3, g4, g5, g6, g7, hge⟩ := list8 hg
  have harg : (gain.map (Value.int .i64)).toArray = #[.int .i64 g0, .int .i64 g1, .int .i64 g2, .int .i64 g3, .int .i64 g4, .int .i64 g5, .int .i64 g6, .int .i64 g7] := by rw [hge]; rfl
  rw [harg] at hmade ⊢
  have hm8 := hG.m8
  have hn8 := hG.n8
  simp only at hn8
  have herr : errV ⟨(m : Int), rows, gn⟩ = 0 := by unfold errV; rw [if_pos hG.val]
  simp only [Int.toNat_natCast] at href hrow hpl
  have HG := Lib.hid hG
  have HS := Lib.hid (And.intro hsv herr)
  have HR := Lib.hid (And.intro href (And.intro hrow hpl))
  clear href hrow hpl
  clear hx hxr hg hgr hge harg hG hsv herr
  go_enter Try.func5, Try.ntmps5
  go_wp2_with fail
  refine (sane_true _).mono ?_
  rintro e w1 ⟨rfl, hBa⟩
  have hBw1 : Below w.heap.size w w1 := ((Below.refl _ _).alloc (Nat.le_refl _) _).trans (hBa.mono (by simp))
  have kg : Blk w1 w.heap.size #[.int .i64 g0, .int .i64 g1, .int .i64 g2, .int .i64 g3, .int .i64 g4, .int .i64 g5, .int .i64 g6, .int .i64 g7] 23 := (Blk.new w _ 23).below hBa (by simp)
  have i0 := kg.cell 0
  have i1 := kg.cell 1
  have i2 := kg.cell 2
  have i3 := kg.cell 3
  have i4 := kg.cell 4
  have i5 := kg.cell 5
  have i6 := kg.cell 6
  have i7 := kg.cell 7
  simp only [List.getElem?_toArray, List.getElem?_cons_succ, List.getElem?_cons_zero] at i0 i1 i2 i3 i4 i5 i6 i7
  go_wp2_with fail
  refine (hmade.out w1 hBw1).mono ?_
  rintro e w2 ⟨oB, vk, vg, rfl, hO, -, hB2⟩
  obtain ⟨cs, ho1, ho2⟩ := hO.own
  obtain ⟨vr', vg', e, hvr, hvg⟩ := hO.prog
  cases e
  simp only at hvr hvg
  obtain ⟨ra, rc, rfl, hr1, hr2⟩ := (show SlicesLen vk rows.length from hvr.len)
  obtain ⟨ga, gc, rfl, hg1, hg2⟩ := hvg.len
  unfold maxLen at hr2 hg2
  have hBw2 := hBw1.trans (hB2.mono hBw1.size)
  clear hO hB2 hBa hBw1 kg i0 i1 i2 i3 i4 i5 i6 i7 hmade
  have hA2 : Below w2.heap.size w2 (w2.alloc (.cells #[.int .i64 m, .slice ra rows.length rc, .slice ga gn.length gc] 29)) := (Below.refl _ _).alloc (Nat.le_refl _) _
  have kp := Blk.new w2 #[.int .i64 m, .slice ra rows.length rc, .slice ga gn.length gc] 29
  have hx := solve_all (.agg #[.int .i64 m, .slice ra rows.length rc, .slice ga gn.length gc]) ⟨m, rows, gn⟩ _ ⟨_, _, rfl, hvr.below hA2, hvg.below hA2⟩
  rw [HS.out.1, HS.out.2] at hx
  go_wp2_with fail
  refine hx.mono ?_
  rintro e w3 ⟨v9, rfl, ⟨vp, rfl, hst⟩, hB3⟩
  simp only at hst
  obtain ⟨pa, pc, rfl, hpl1, hpl2⟩ := hst.len
  unfold maxLen at hpl2
  have hA3 := hA2.trans (hB3.mono hA2.size)
  have hA4 : Below w3.heap.size w3 (w3.alloc (.cells #[.bool false, .int .i64 0, .int .i64 0, .slice pa pf.length pc] 37)) := (Below.refl _ _).alloc (Nat.le_refl _) _
  have hA5 := hA3.trans (hA4.mono hA3.size)
  have hBw3 := hBw2.trans (hA5.mono hBw2.size)
  have kp0 : Blk w3 w2.heap.size #[.int .i64 m, .slice ra rows.length rc, .slice ga gn.length gc] 29 := kp.below hB3 kp.lt
  have kp3 : Blk (w3.alloc (.cells #[.bool false, .int .i64 0, .int .i64 0, .slice pa pf.length pc] 37)) w2.heap.size #[.int .i64 m, .slice ra rows.length rc, .slice ga gn.length gc] 29 := kp0.alloc _
  have ks3 := Blk.new w3 #[.bool false, .int .i64 0, .int .i64 0, .slice pa pf.length pc] 37
  have hpv : ProgV (w3.alloc (.cells #[.bool false, .int .i64 0, .int .i64 0, .slice pa pf.length pc] 37)) (.agg #[.int .i64 m, .slice ra rows.length rc, .slice ga gn.length gc]) ⟨m, rows, gn⟩ := ⟨_, _, rfl, hvr.below hA5, hvg.below hA5⟩
  have hst3 := hst.below hA4
  have j0 := kp0.cell 0
  have j1 := kp0.cell 1
  have j2 := kp0.cell 2
  simp only [List.getElem?_toArray, List.getElem?_cons_succ, List.getElem?_cons_zero] at j0 j1 j2
  have lp0 := kp0.lt
  have hun := undecided_all (.agg #[.int .i64 m, .slice ra rows.length rc, .slice ga gn.length gc]) ⟨m, rows, gn⟩ _ hpv (by simp only; omega) (by simp only; omega)
  simp only [Int.toNat_natCast] at hun
  have hpf5 : (pf.length : Int) ≤ 8192 := by omega
  clear hx hst hA2 hA3 hA4 hB3 kp
  go_wp2_with fail
  refine hun.mono ?_
  rintro e w4 ⟨vo, rfl, hop, hB4⟩
  obtain ⟨oa, oc, rfl, ho3, ho4⟩ := hop.len
  rw [List.length_replicate] at hop ho3
  rw [List.length_replicate]
  have kp4 := kp3.below hB4 kp3.lt
  have ks4 := ks3.below hB4 ks3.lt
  have hpv4 := hpv.below hB4
  have hst4 := hst3.below hB4
  have hBw4 := hBw3.trans (hB4.mono hBw3.size)
  have hX4 := hA5.trans (hB4.mono hA5.size)
  clear hun kp3 ks3 hpv hst3 hB4 j0 j1 j2 lp0 hA5 kp0
  have j0 := kp4.cell 0
  have j1 := kp4.cell 1
  have j2 := kp4.cell 2
  have b0 := ks4.cell 0
  have b2 := ks4.cell 2
  have b3 := ks4.cell 3
  simp only [List.getElem?_toArray, List.getElem?_cons_succ, List.getElem?_cons_zero] at j0 j1 j2 b0 b2 b3
  obtain ⟨vr9, vg9, e9, hr9, -⟩ := hpv4
  cases e9
  have hx := refutes_any rows pf m _ _ HR.out.2.1 (by omega) HR.out.2.2 pf.length 0 _ w4 _ List.length_replicate (by omega) hr9 hst4 hop
  rw [HR.out.1] at hx
  simp only [Int.natCast_zero] at hx
  go_wp2_with fail
  refine hx.mono ?_
  rintro e w5 ⟨rfl, hB5⟩
  go_wp2
  go_ret
  exact ⟨rfl, hBw4.trans (hB5.mono hBw4.size)⟩
set_option maxRecDepth 100000 in
set_option maxHeartbeats 8000000 in
theorem proof_some (vars : Int) (vx : Value) (x : List X3) (gain : List Int) (w : World) (hv : InR vars) (hx : XsAt w vx x) (hxr : ∀ y ∈ x, XR y) (hg : gain.length = 8) (hgr : ∀ y ∈ gain, InR y) (pf : List StepD) (xs : Nat) (xg : Int) (hsv : solveV (madeP vars x gain) = ⟨true, xs, xg, pf⟩) (hlen : pf.length ≤ 511) (hxg : -1000000000000 ≤ xg ∧ xg ≤ 1000000000000) (href : refB ((madeP vars x gain).rows ++ [goalS (madeP vars x gain).gain xg]) pf pf.length 0 (List.replicate (madeP vars x gain).vars.toNat (-1)) = true)
    (hless : refB ((madeP vars x gain).rows ++ [goalS (madeP vars x gain).gain (xg - 1)]) pf pf.length 0 (List.replicate (madeP vars x gain).vars.toNat (-1)) = false)
    (hrow : ∀ g, -10000000000000 ≤ -(g + 1) → -(g + 1) ≤ 10000000000000 → ∀ r ∈ (madeP vars x gain).rows ++ [goalS (madeP vars x gain).gain g], r.coef.length = (madeP vars x gain).vars.toNat ∧ coefOK r.coef = true ∧ -10000000000000 ≤ r.most ∧ r.most ≤ 10000000000000) (hpl : ∀ g i s, pf[i]? = some s → PlainS (madeP vars x gain).vars.toNat ((madeP vars x gain).rows ++ [goalS (madeP vars x gain).gain g]).length i s) :
    Calls Try.prog 5 #[.int .i64 vars, vx, .agg (gain.map (Value.int .i64)).toArray] w fun e w' => e = .returned (.bool true) ∧ Below w.heap.size w w' := by
  obtain ⟨m, hG⟩ := goodP vars x gain
  have hmade := Lib.hid (fun W (hW : Below w.heap.size w W) => made_own vars vx x gain W hv (hx.below hW) hxr hg hgr)
  generalize madeP vars x gain = p at hG hmade hsv href hless hrow hpl
  obtain ⟨pv, rows, gn⟩ := p
  obtain rfl : pv = m := hG.vm
  obtain ⟨g0, g1, g2, g3, g4, g5, g6, g7, hge⟩ := list8 hg
  have harg : (gain.map (Value.int .i64)).toArray = #[.int .i64 g0, .int .i64 g1, .int .i64 g2, .int .i64 g3, .int .i64 g4, .int .i64 g5, .int .i64 g6, .int .i64 g7] := by rw [hge]; rfl
  rw [harg] at hmade ⊢
  have hm8 := hG.m8
  have hn8 := hG.n8
  simp only at hn8
  have herr : errV ⟨(m : Int), rows, gn⟩ = 0 := by unfold errV; rw [if_pos hG.val]
  simp only [Int.toNat_natCast] at href hless hrow hpl
  have HG := Lib.hid hG
  have HS := Lib.hid (And.intro hsv herr)
  have HR := Lib.hid (And.intro href (And.intro hless (And.intro hrow hpl)))
  clear href hless hrow hpl
  clear hx hxr hg hgr hge harg hG hsv herr
  go_enter Try.func5, Try.ntmps5
  go_wp2_with fail
  refine (sane_true _).mono ?_
  rintro e w1 ⟨rfl, hBa⟩
  have hBw1 : Below w.heap.size w w1 := ((Below.refl _ _).alloc (Nat.le_refl _) _).trans (hBa.mono (by simp))
  have kg : Blk w1 w.heap.size #[.int .i64 g0, .int .i64 g1, .int .i64 g2, .int .i64 g3, .int .i64 g4, .int .i64 g5, .int .i64 g6, .int .i64 g7] 23 := (Blk.new w _ 23).below hBa (by simp)
  have i0 := kg.cell 0
  have i1 := kg.cell 1
  have i2 := kg.cell 2
  have i3 := kg.cell 3
  have i4 := kg.cell 4
  have i5 := kg.cell 5
  have i6 := kg.cell 6
  have i7 := kg.cell 7
  simp only [List.getElem?_toArray, List.getElem?_cons_succ, List.getElem?_cons_zero] at i0 i1 i2 i3 i4 i5 i6 i7
  go_wp2_with fail
  refine (hmade.out w1 hBw1).mono ?_
  rintro e w2 ⟨oB, vk, vg, rfl, hO, -, hB2⟩
  obtain ⟨cs, ho1, ho2⟩ := hO.own
  obtain ⟨vr', vg', e, hvr, hvg⟩ := hO.prog
  cases e
  simp only at hvr hvg
  obtain ⟨ra, rc, rfl, hr1, hr2⟩ := (show SlicesLen vk rows.length from hvr.len)
  obtain ⟨ga, gc, rfl, hg1, hg2⟩ := hvg.len
  unfold maxLen at hr2 hg2
  have hBw2 := hBw1.trans (hB2.mono hBw1.size)
  clear hO hB2 hBa hBw1 kg i0 i1 i2 i3 i4 i5 i6 i7 hmade
  have hA2 : Below w2.heap.size w2 (w2.alloc (.cells #[.int .i64 m, .slice ra rows.length rc, .slice ga gn.length gc] 29)) := (Below.refl _ _).alloc (Nat.le_refl _) _
  have kp := Blk.new w2 #[.int .i64 m, .slice ra rows.length rc, .slice ga gn.length gc] 29
  have hx := solve_all (.agg #[.int .i64 m, .slice ra rows.length rc, .slice ga gn.length gc]) ⟨m, rows, gn⟩ _ ⟨_, _, rfl, hvr.below hA2, hvg.below hA2⟩
  rw [HS.out.1, HS.out.2] at hx
  go_wp2_with fail
  refine hx.mono ?_
  rintro e w3 ⟨v9, rfl, ⟨vp, rfl, hst⟩, hB3⟩
  simp only at hst
  obtain ⟨pa, pc, rfl, hpl1, hpl2⟩ := hst.len
  unfold maxLen at hpl2
  have hA3 := hA2.trans (hB3.mono hA2.size)
  have hA4 : Below w3.heap.size w3 (w3.alloc (.cells #[.bool true, .int .i64 xs, .int .i64 xg, .slice pa pf.length pc] 37)) := (Below.refl _ _).alloc (Nat.le_refl _) _
  have hA5 := hA3.trans (hA4.mono hA3.size)
  have hBw3 := hBw2.trans (hA5.mono hBw2.size)
  have kp0 : Blk w3 w2.heap.size #[.int .i64 m, .slice ra rows.length rc, .slice ga gn.length gc] 29 := kp.below hB3 kp.lt
  have kp3 : Blk (w3.alloc (.cells #[.bool true, .int .i64 xs, .int .i64 xg, .slice pa pf.length pc] 37)) w2.heap.size #[.int .i64 m, .slice ra rows.length rc, .slice ga gn.length gc] 29 := kp0.alloc _
  have ks3 := Blk.new w3 #[.bool true, .int .i64 xs, .int .i64 xg, .slice pa pf.length pc] 37
  have hpv : ProgV (w3.alloc (.cells #[.bool true, .int .i64 xs, .int .i64 xg, .slice pa pf.length pc] 37)) (.agg #[.int .i64 m, .slice ra rows.length rc, .slice ga gn.length gc]) ⟨m, rows, gn⟩ := ⟨_, _, rfl, hvr.below hA5, hvg.below hA5⟩
  have hst3 := hst.below hA4
  have j0 := kp0.cell 0
  have j1 := kp0.cell 1
  have j2 := kp0.cell 2
  simp only [List.getElem?_toArray, List.getElem?_cons_succ, List.getElem?_cons_zero] at j0 j1 j2
  have lp0 := kp0.lt
  have hun := undecided_all (.agg #[.int .i64 m, .slice ra rows.length rc, .slice ga gn.length gc]) ⟨m, rows, gn⟩ _ hpv (by simp only; omega) (by simp only; omega)
  simp only [Int.toNat_natCast] at hun
  have hpf5 : (pf.length : Int) ≤ 8192 := by omega
  clear hx hst hA2 hA3 hA4 hB3 kp
  go_wp2_with fail
  refine hun.mono ?_
  rintro e w4 ⟨vo, rfl, hop, hB4⟩
  obtain ⟨oa, oc, rfl, ho3, ho4⟩ := hop.len
  rw [List.length_replicate] at hop ho3
  rw [List.length_replicate]
  have kp4 := kp3.below hB4 kp3.lt
  have ks4 := ks3.below hB4 ks3.lt
  have hpv4 := hpv.below hB4
  have hst4 := hst3.below hB4
  have hBw4 := hBw3.trans (hB4.mono hBw3.size)
  have hX4 := hA5.trans (hB4.mono hA5.size)
  clear hun kp3 ks3 hpv hst3 hB4 j0 j1 j2 lp0 hA5 kp0
  have j0 := kp4.cell 0
  have j1 := kp4.cell 1
  have j2 := kp4.cell 2
  have b0 := ks4.cell 0
  have b2 := ks4.cell 2
  have b3 := ks4.cell 3
  simp only [List.getElem?_toArray, List.getElem?_cons_succ, List.getElem?_cons_zero] at j0 j1 j2 b0 b2 b3
  have lp4 := kp4.lt
  have ls4 := ks4.lt
  have hcg : Hid (coefOK gn = true) := (validB_true HG.out.val).2.2.2.2.2
  have hgl : gn.length = m := by have := (validB_true HG.out.val).2.2.2.2.1; simp only at this; omega
  have HGL := Lib.hid hgl
  have hgl12 : gn.length ≤ 12 := by omega
  have HN : Hid (ra = none → rows.length = 0 ∧ rc = 0) := fun e => by
    subst e
    rcases ho1.2 with ⟨e, h0⟩ | ⟨g, cap, cur, e, -⟩
    · injection e with _ e2 e3; exact ⟨h0, e3⟩
    · cases e
  have HQ : Hid (∀ W, Below w2.heap.size w2 W → ∀ q, ra = some q → ∀ j u, cs[j]? = some u → W.cell? (q.add j) = some u) := fun W hW q hq j u hj => by
    subst hq
    rcases ho1.2 with ⟨e, -⟩ | ⟨g, cap, cur, e, -⟩
    · cases e
    · cases e
      have := ho1.cells rfl j u hj
      exact (hW.cell (World.block_lt_of_cell? _ _ this)).trans this
  have hf4 : FlatC 6 RowO w4 cs rows := ho2.imp (fun _ _ h => h.t (T3.of_below hX4))
  clear hgl ho1 ho2
  go_upto_region 11 with fail
  go_cut [12] from 48 to 57 (fun u wx => ∃ qa qc, u = .slice qa (rows.length + 1) qc ∧ RowsAt wx u (rows ++ [goalS gn xg]) ∧ Below w4.heap.size w4 wx)
  case first =>
    have HSX := Lib.hid (fun W (hW : Below w4.heap.size w4 W) => show Below w4.heap.size w4 W ∧ W.cell? ⟨w2.heap.size, 0, none⟩ = some (.int .i64 m) ∧ W.cell? ⟨w2.heap.size, 1, none⟩ = some (.slice ra rows.length rc) ∧ W.cell? ⟨w2.heap.size, 2, none⟩ = some (.slice ga gn.length gc) ∧ W.cell? ⟨w3.heap.size, 2, none⟩ = some (.int .i64 xg) from
      ⟨hW, (hW.cell (by show w2.heap.size < _; omega)).trans j0, (hW.cell (by show w2.heap.size < _; omega)).trans j1, (hW.cell (by show w2.heap.size < _; omega)).trans j2, (hW.cell (by show w3.heap.size < _; omega)).trans b2⟩)
    have hgoal := Lib.hid (fun W (hW : Below w4.heap.size w4 W) => goal_ref (.agg #[.int .i64 m, .slice ra rows.length rc, .slice ga gn.length gc]) ⟨m, rows, gn⟩ (xg) W (hpv4.below hW) (by simp only; omega) (by exact hcg.out) (by omega) (by omega))
    have HC := Lib.hid (show cs.length = rows.length * 6 ∧ (∀ W, Below w4.heap.size w4 W → ∀ q, ra = some q → ∀ j u, cs[j]? = some u → W.cell? (q.add j) = some u) ∧ (ra = none → rows.length = 0 ∧ rc = 0) ∧ (∀ u ∈ cs, u.oneCell' = true) from
      ⟨hf4.len, fun W hW => HQ.out _ (hX4.trans (hW.mono hX4.size)), HN.out, flat_one hf4⟩)
    go_region_held3 (fun w' => Below w4.heap.size w4 w' ∧ w'.cell? ⟨w2.heap.size, 0, none⟩ = some (.int .i64 m) ∧ w'.cell? ⟨w2.heap.size, 1, none⟩ = some (.slice ra rows.length rc) ∧ w'.cell? ⟨w2.heap.size, 2, none⟩ = some (.slice ga gn.length gc) ∧ w'.cell? ⟨w3.heap.size, 2, none⟩ = some (.int .i64 xg))
      (first | exact ⟨(Below.refl _ _).drew, j0, j1, j2, b2⟩ | exact HSX.out _ ((‹Below w4.heap.size w4 _ ∧ _›).1.trans hb57) | exact HSX.out _ ((‹Below w4.heap.size w4 _ ∧ _›).1.trans hb51) | exact HSX.out _ ((‹Below w4.heap.size w4 _ ∧ _›).1.trans (hB6.mono (‹Below w4.heap.size w4 _ ∧ _›).1.size)) | exact HSX.out _ ((‹Below w4.heap.size w4 _ ∧ _›).1.alloc (‹Below w4.heap.size w4 _ ∧ _›).1.size _) | exact HSX.out _ ((‹Below w4.heap.size w4 _ ∧ _›).1.alloc (‹Below w4.heap.size w4 _ ∧ _›).1.size _).drew | exact HSX.out _ (‹Below w4.heap.size w4 _ ∧ _›).1.drew | exact HSX.out _ ((Below.refl _ _).alloc (Nat.le_refl _) _).drew | exact HSX.out _ ((Below.refl _ _).alloc (Nat.le_refl _) _) | go_keep)
      (first | (go_at_call 41; refine (hgoal.out _ (‹Below w4.heap.size w4 _ ∧ _›).1).mono ?_; rintro e w6 ⟨vG, rfl, hoG, hB6⟩; obtain ⟨Ga, Gc, rfl, -, -⟩ := owned_len hoG; have hV6 : Hid (w4.heap.size ≤ w6.heap.size) := Nat.le_trans (‹Below w4.heap.size w4 _ ∧ _›).1.size hB6.size; have HRO : Hid (∀ u ∈ ([.int .i64 0, .int .i64 0, .int .i64 0, .int .i64 0, .slice Ga (goalS gn xg).coef.length Gc, .int .i64 (goalS gn xg).most] : List Value), u.oneCell' = true) := rowO_one (show RowO w6 [.int .i64 0, .int .i64 0, .int .i64 0, .int .i64 0, .slice Ga (goalS gn xg).coef.length Gc, .int .i64 (goalS gn xg).most] (goalS gn xg) from ⟨_, rfl, hoG⟩); first | (have HLT : Hid (w4.heap.size < w6.heap.size) := (Nat.lt_of_lt_of_le (by show w4.heap.size < (World.alloc _ _).heap.size; simp) hB6.size)) | skip) | (refine step_appT (v := v51) (n := rows.length) (m := 1) (c := 1) (xs := cs) (xa := some ⟨w6.heap.size, 0, none⟩) (news := [.int .i64 0, .int .i64 0, .int .i64 0, .int .i64 0, .slice Ga (goalS gn xg).coef.length Gc, .int .i64 (goalS gn xg).most]) rfl (.tmp 51) (.tmp 56) rfl w4.heap.size (owned_below ho51 (hB6.alloc hB6.size _)) rfl rfl rfl (fun q hq j u hj => by cases hq; rw [add_zero_off]; exact ((Blk.new w6 #[.int .i64 0, .int .i64 0, .int .i64 0, .int .i64 0, .slice Ga (goalS gn xg).coef.length Gc, .int .i64 (goalS gn xg).most] 26).cell j).trans (by simpa using hj)) (fun h => by cases h) HRO.out (by omega) (‹Below w4.heap.size w4 _ ∧ _›).1.size ?_; intro v57 w57 ho57 ht57 hk57 hb57; have hTG : T3 w6 w57 := (T3.of_below ((Below.refl _ _).alloc (Nat.le_refl _) _)).trans ht57; have hVw : Below w4.heap.size w4 w57 := (‹Below w4.heap.size w4 _ ∧ _›).1.trans hb57; obtain ⟨na, nc, rfl, hn1, hn2⟩ := owned_len ho57) | (refine step_appT (v := v51) (n := rows.length) (m := 1) (c := 1) (xs := cs) (xa := some ⟨w51.heap.size, 0, none⟩) (news := [.int .i64 0, .int .i64 0, .int .i64 0, .int .i64 0, .slice Ga (goalS gn xg).coef.length Gc, .int .i64 (goalS gn xg).most]) rfl (.tmp 51) (.tmp 56) rfl w4.heap.size (owned_below ho51 ((Below.refl _ _).alloc (Nat.le_refl _) _)) rfl rfl rfl (fun q hq j u hj => by cases hq; rw [add_zero_off]; exact ((Blk.new w51 #[.int .i64 0, .int .i64 0, .int .i64 0, .int .i64 0, .slice Ga (goalS gn xg).coef.length Gc, .int .i64 (goalS gn xg).most] 26).cell j).trans (by simpa using hj)) (fun h => by cases h) HRO.out (by omega) (‹Below w4.heap.size w4 _ ∧ _›).1.size ?_; intro v57 w57 ho57 ht57 hk57 hb57; have hTG : T3 w6 w57 := (ht51.trans (T3.of_below ((Below.refl _ _).alloc (Nat.le_refl _) _))).trans ht57; have hVw : Below w4.heap.size w4 w57 := (‹Below w4.heap.size w4 _ ∧ _›).1.trans hb57; obtain ⟨na, nc, rfl, hn1, hn2⟩ := owned_len ho57) | (refine step_appT (v := v51) (n := rows.length) (m := 1) (c := 1) (xs := cs) (xa := some ⟨w51.heap.size, 0, none⟩) (news := [.int .i64 0, .int .i64 0, .int .i64 0, .int .i64 0, .slice Ga (goalS gn xg).coef.length Gc, .int .i64 (goalS gn xg).most]) rfl (.tmp 51) (.tmp 56) rfl w4.heap.size (owned_below ho51 ((Below.refl _ _).alloc (Nat.le_refl _) _)) rfl rfl rfl (fun q hq j u hj => by cases hq; rw [add_zero_off]; exact ((Blk.new w51 #[.int .i64 0, .int .i64 0, .int .i64 0, .int .i64 0, .slice Ga (goalS gn xg).coef.length Gc, .int .i64 (goalS gn xg).most] 26).cell j).trans (by simpa using hj)) (fun h => by cases h) HRO.out (by omega) (‹Below w4.heap.size w4 _ ∧ _›).1.size ?_; intro v57 w57 ho57 ht57 hk57 hb57; have hTG : T3 w6 w57 := (((T3.of_below ((Below.refl _ _).alloc (Nat.le_refl _) _)).trans ht51).trans (T3.of_below ((Below.refl _ _).alloc (Nat.le_refl _) _))).trans ht57; have hVw : Below w4.heap.size w4 w57 := (‹Below w4.heap.size w4 _ ∧ _›).1.trans hb57; obtain ⟨na, nc, rfl, hn1, hn2⟩ := owned_len ho57) | (refine step_appT (v := v51) (n := rows.length) (m := 1) (c := 1) (xs := cs) (xa := some ⟨w6.heap.size, 0, none⟩) (news := [.int .i64 0, .int .i64 0, .int .i64 0, .int .i64 0, .slice Ga (goalS gn xg).coef.length Gc, .int .i64 (goalS gn xg).most]) rfl (.tmp 51) (.tmp 56) rfl w4.heap.size ho51 rfl rfl rfl (fun q hq j u hj => by cases hq; rw [add_zero_off]; exact ((show Blk w51 w6.heap.size #[.int .i64 0, .int .i64 0, .int .i64 0, .int .i64 0, .slice Ga (goalS gn xg).coef.length Gc, .int .i64 (goalS gn xg).most] 26 from (hk51 w6.heap.size (by show _ < (World.alloc _ _).heap.size; simp) (fun e2 => by have := HLT.out; simp [Value.ownBlock] at e2; omega)).trans (Blk.new w6 #[.int .i64 0, .int .i64 0, .int .i64 0, .int .i64 0, .slice Ga (goalS gn xg).coef.length Gc, .int .i64 (goalS gn xg).most] 26)).cell j).trans (by simpa using hj)) (fun h => by cases h) HRO.out (by omega) (‹Below w4.heap.size w4 _ ∧ _›).1.size ?_; intro v57 w57 ho57 ht57 hk57 hb57; have hTG : T3 w6 w57 := ((T3.of_below ((Below.refl _ _).alloc (Nat.le_refl _) _)).trans ht51).trans ht57; have hVw : Below w4.heap.size w4 w57 := (‹Below w4.heap.size w4 _ ∧ _›).1.trans hb57; obtain ⟨na, nc, rfl, hn1, hn2⟩ := owned_len ho57) | (refine step_appT (v := v51) (n := rows.length) (m := 1) (c := 1) (xs := cs) (xa := some ⟨(w6.heap.size + 1), 0, none⟩) (news := [.int .i64 0, .int .i64 0, .int .i64 0, .int .i64 0, .slice Ga (goalS gn xg).coef.length Gc, .int .i64 (goalS gn xg).most]) rfl (.tmp 51) (.tmp 56) rfl w4.heap.size ho51 rfl rfl rfl (fun q hq j u hj => by cases hq; rw [add_zero_off]; exact ((show Blk w51 (w6.heap.size + 1) #[.int .i64 0, .int .i64 0, .int .i64 0, .int .i64 0, .slice Ga (goalS gn xg).coef.length Gc, .int .i64 (goalS gn xg).most] 26 from (hk51 (w6.heap.size + 1) (by show _ < (World.alloc _ _).heap.size; simp) (fun e2 => by simp [Value.ownBlock] at e2)).trans (Blk.newAt (w6.alloc (.cells #[] 26)) #[.int .i64 0, .int .i64 0, .int .i64 0, .int .i64 0, .slice Ga (goalS gn xg).coef.length Gc, .int .i64 (goalS gn xg).most] 26 (by simp))).cell j).trans (by simpa using hj)) (fun h => by cases h) HRO.out (by omega) (‹Below w4.heap.size w4 _ ∧ _›).1.size ?_; intro v57 w57 ho57 ht57 hk57 hb57; have hTG : T3 w6 w57 := ((T3.of_below (((Below.refl _ _).alloc (Nat.le_refl _) _).alloc (by simp) _)).trans ht51).trans ht57; have hVw : Below w4.heap.size w4 w57 := (‹Below w4.heap.size w4 _ ∧ _›).1.trans hb57; obtain ⟨na, nc, rfl, hn1, hn2⟩ := owned_len ho57) | (refine step_appT (v := v51) (n := rows.length) (m := 1) (c := 1) (xs := cs) (xa := some ⟨w6.heap.size, 0, none⟩) (news := [.int .i64 0, .int .i64 0, .int .i64 0, .int .i64 0, .slice Ga (goalS gn xg).coef.length Gc, .int .i64 (goalS gn xg).most]) rfl (.tmp 51) (.tmp 56) rfl w4.heap.size ho51 rfl rfl rfl (fun q hq j u hj => by cases hq; rw [add_zero_off]; exact ((show Blk w51 w6.heap.size #[.int .i64 0, .int .i64 0, .int .i64 0, .int .i64 0, .slice Ga (goalS gn xg).coef.length Gc, .int .i64 (goalS gn xg).most] 26 from (hk51 w6.heap.size (by show _ < (World.alloc _ _).heap.size; simp <;> omega) (fun e2 => by simp [Value.ownBlock] at e2)).trans ((Blk.new w6 #[.int .i64 0, .int .i64 0, .int .i64 0, .int .i64 0, .slice Ga (goalS gn xg).coef.length Gc, .int .i64 (goalS gn xg).most] 26).alloc (.cells #[] 26))).cell j).trans (by simpa using hj)) (fun h => by cases h) HRO.out (by omega) (‹Below w4.heap.size w4 _ ∧ _›).1.size ?_; intro v57 w57 ho57 ht57 hk57 hb57; have hTG : T3 w6 w57 := ((T3.of_below (((Below.refl _ _).alloc (Nat.le_refl _) _).alloc (by simp) _)).trans ht51).trans ht57; have hVw : Below w4.heap.size w4 w57 := (‹Below w4.heap.size w4 _ ∧ _›).1.trans hb57; obtain ⟨na, nc, rfl, hn1, hn2⟩ := owned_len ho57) | (refine step_appT (w := (w4.alloc (.cells #[] 26)).drew) (v := .slice (some ⟨w4.heap.size, 0, none⟩) 0 0) (n := 0) (m := rows.length) (c := rc) (xs := []) (xa := ra) (news := cs) rfl (.tmp 48) (.tmp 50) rfl w4.heap.size (own_empty (B := w4.heap.size) (Blk.new w4 #[] 26) (Nat.le_refl _)) rfl rfl HC.out.1 (HC.out.2.1 _ (‹Below w4.heap.size w4 _ ∧ _›).1) HC.out.2.2.1 HC.out.2.2.2 (by omega) (‹Below w4.heap.size w4 _ ∧ _›).1.size ?_; intro v51 w51 ho51 ht51 hk51 hb51; rw [show 0 + rows.length = rows.length from Nat.zero_add _, List.nil_append] at ho51) | (refine step_appT (w := _) (v := .slice (some ⟨w4.heap.size, 0, none⟩) 0 0) (n := 0) (m := rows.length) (c := rc) (xs := []) (xa := ra) (news := cs) rfl (.tmp 48) (.tmp 50) rfl w4.heap.size (own_empty (B := w4.heap.size) ((Blk.new w4 #[] 26).below hB6 (by simp)) (Nat.le_refl _)) rfl rfl HC.out.1 (HC.out.2.1 _ (‹Below w4.heap.size w4 _ ∧ _›).1) HC.out.2.2.1 HC.out.2.2.2 (by omega) (‹Below w4.heap.size w4 _ ∧ _›).1.size ?_; intro v51 w51 ho51 ht51 hk51 hb51; rw [show 0 + rows.length = rows.length from Nat.zero_add _, List.nil_append] at ho51) | (refine step_appT (w := (w6.alloc (.cells #[.int .i64 0, .int .i64 0, .int .i64 0, .int .i64 0, .slice Ga (goalS gn xg).coef.length Gc, .int .i64 (goalS gn xg).most] 26)).drew) (v := .slice (some ⟨w4.heap.size, 0, none⟩) 0 0) (n := 0) (m := rows.length) (c := rc) (xs := []) (xa := ra) (news := cs) rfl (.tmp 48) (.tmp 50) rfl w4.heap.size (own_empty (B := w4.heap.size) (((Blk.new w4 #[] 26).below hB6 (by simp)).alloc (.cells #[.int .i64 0, .int .i64 0, .int .i64 0, .int .i64 0, .slice Ga (goalS gn xg).coef.length Gc, .int .i64 (goalS gn xg).most] 26)) (Nat.le_refl _)) rfl rfl HC.out.1 (HC.out.2.1 _ (‹Below w4.heap.size w4 _ ∧ _›).1) HC.out.2.2.1 HC.out.2.2.2 (by omega) (‹Below w4.heap.size w4 _ ∧ _›).1.size ?_; intro v51 w51 ho51 ht51 hk51 hb51; rw [show 0 + rows.length = rows.length from Nat.zero_add _, List.nil_append] at ho51) | (refine step_appT (w := (w6.alloc (.cells #[] 26)).drew) (v := .slice (some ⟨w6.heap.size, 0, none⟩) 0 0) (n := 0) (m := rows.length) (c := rc) (xs := []) (xa := ra) (news := cs) rfl (.tmp 48) (.tmp 50) rfl w4.heap.size (own_empty (B := w6.heap.size) (Blk.new w6 #[] 26) hV6.out) rfl rfl HC.out.1 (HC.out.2.1 _ (‹Below w4.heap.size w4 _ ∧ _›).1) HC.out.2.2.1 HC.out.2.2.2 (by omega) (‹Below w4.heap.size w4 _ ∧ _›).1.size ?_; intro v51 w51 ho51 ht51 hk51 hb51; rw [show 0 + rows.length = rows.length from Nat.zero_add _, List.nil_append] at ho51) | (refine step_appT (w := ((w6.alloc (.cells #[] 26)).alloc (.cells #[.int .i64 0, .int .i64 0, .int .i64 0, .int .i64 0, .slice Ga (goalS gn xg).coef.length Gc, .int .i64 (goalS gn xg).most] 26)).drew) (v := .slice (some ⟨w6.heap.size, 0, none⟩) 0 0) (n := 0) (m := rows.length) (c := rc) (xs := []) (xa := ra) (news := cs) rfl (.tmp 48) (.tmp 50) rfl w4.heap.size (own_empty (B := w6.heap.size) ((Blk.new w6 #[] 26).alloc (.cells #[.int .i64 0, .int .i64 0, .int .i64 0, .int .i64 0, .slice Ga (goalS gn xg).coef.length Gc, .int .i64 (goalS gn xg).most] 26)) hV6.out) rfl rfl HC.out.1 (HC.out.2.1 _ (‹Below w4.heap.size w4 _ ∧ _›).1) HC.out.2.2.1 HC.out.2.2.2 (by omega) (‹Below w4.heap.size w4 _ ∧ _›).1.size ?_; intro v51 w51 ho51 ht51 hk51 hb51; rw [show 0 + rows.length = rows.length from Nat.zero_add _, List.nil_append] at ho51) | (refine step_appT (w := ((w6.alloc (.cells #[.int .i64 0, .int .i64 0, .int .i64 0, .int .i64 0, .slice Ga (goalS gn xg).coef.length Gc, .int .i64 (goalS gn xg).most] 26)).alloc (.cells #[] 26)).drew) (v := .slice (some ⟨(w6.heap.size + 1), 0, none⟩) 0 0) (n := 0) (m := rows.length) (c := rc) (xs := []) (xa := ra) (news := cs) rfl (.tmp 48) (.tmp 50) rfl w4.heap.size (own_empty (B := (w6.heap.size + 1)) (Blk.newAt (w6.alloc (.cells #[.int .i64 0, .int .i64 0, .int .i64 0, .int .i64 0, .slice Ga (goalS gn xg).coef.length Gc, .int .i64 (goalS gn xg).most] 26)) #[] 26 (by simp)) (Nat.le_succ_of_le hV6.out)) rfl rfl HC.out.1 (HC.out.2.1 _ (‹Below w4.heap.size w4 _ ∧ _›).1) HC.out.2.2.1 HC.out.2.2.2 (by omega) (‹Below w4.heap.size w4 _ ∧ _›).1.size ?_; intro v51 w51 ho51 ht51 hk51 hb51; rw [show 0 + rows.length = rows.length from Nat.zero_add _, List.nil_append] at ho51))
    all_goals (
      go_wp2_with fail
      go_meet
      have hfg : FlatC 6 RowO w57 [.int .i64 0, .int .i64 0, .int .i64 0, .int .i64 0, .slice Ga (goalS gn (xg)).coef.length Gc, .int .i64 (goalS gn (xg)).most] [goalS gn (xg)] := ⟨_, [], (List.append_nil _).symm, rfl, ⟨_, rfl, hoG.t hTG⟩, rfl⟩
      have hrv : RowsAt w57 (.slice na (rows ++ [goalS gn (xg)]).length nc) (rows ++ [goalS gn (xg)]) := flat_view (by rw [List.length_append]; exact ho57) ((FlatC.app (hf4.imp (fun _ _ h => h.t (T3.of_below hVw))) hfg).to (fun _ _ h => h.row))
      rw [List.length_append] at hrv
      exact ⟨na, nc, rfl, hrv, hVw⟩)
  case rest =>
    rename World => W5
    obtain ⟨qa, qc, rfl, hq5, hB5⟩ := hcut
    have hpv5 := hpv4.below hB5
    have hf5 : FlatC 6 RowO W5 cs rows := hf4.imp (fun _ _ h => h.t (T3.of_below hB5))
    have hX5 := hX4.trans (hB5.mono hX4.size)
    have kp5 := kp4.below hB5 lp4
    have ks5 := ks4.below hB5 ls4
    have hop5 := hop.below hB5
    have hst5 := hst4.below hB5
    have hBw5 := hBw4.trans (hB5.mono hBw4.size)
    clear j0 j1 j2 b0 b2 b3 hpv4 hf4 kp4 ks4 hop hst4
    have j0 := kp5.cell 0
    have j1 := kp5.cell 1
    have j2 := kp5.cell 2
    have b2 := ks5.cell 2
    simp only [List.getElem?_toArray, List.getElem?_cons_succ, List.getElem?_cons_zero] at j0 j1 j2 b2
    have lp5 := kp5.lt
    have ls5 := ks5.lt
    have hwg : IntKind.i64.wrap (xg - 1) = xg - 1 := wrapS _ (by omega) (by omega)
    go_upto_region 12 with fail
    go_cut [13] from 58 to 68 (fun u wx => ∃ qa qc, u = .slice qa (rows.length + 1) qc ∧ RowsAt wx u (rows ++ [goalS gn (xg - 1)]) ∧ Below W5.heap.size W5 wx)
    case first =>
      have HSX := Lib.hid (fun W (hW : Below W5.heap.size W5 W) => show Below W5.heap.size W5 W ∧ W.cell? ⟨w2.heap.size, 0, none⟩ = some (.int .i64 m) ∧ W.cell? ⟨w2.heap.size, 1, none⟩ = some (.slice ra rows.length rc) ∧ W.cell? ⟨w2.heap.size, 2, none⟩ = some (.slice ga gn.length gc) ∧ W.cell? ⟨w3.heap.size, 2, none⟩ = some (.int .i64 xg) from
        ⟨hW, (hW.cell (by show w2.heap.size < _; omega)).trans j0, (hW.cell (by show w2.heap.size < _; omega)).trans j1, (hW.cell (by show w2.heap.size < _; omega)).trans j2, (hW.cell (by show w3.heap.size < _; omega)).trans b2⟩)
      have hgoal := Lib.hid (fun W (hW : Below W5.heap.size W5 W) => goal_ref (.agg #[.int .i64 m, .slice ra rows.length rc, .slice ga gn.length gc]) ⟨m, rows, gn⟩ ((xg - 1)) W (hpv5.below hW) (by simp only; omega) (by exact hcg.out) (by omega) (by omega))
      have HC := Lib.hid (show cs.length = rows.length * 6 ∧ (∀ W, Below W5.heap.size W5 W → ∀ q, ra = some q → ∀ j u, cs[j]? = some u → W.cell? (q.add j) = some u) ∧ (ra = none → rows.length = 0 ∧ rc = 0) ∧ (∀ u ∈ cs, u.oneCell' = true) from
        ⟨hf5.len, fun W hW => HQ.out _ (hX5.trans (hW.mono hX5.size)), HN.out, flat_one hf5⟩)
      go_region_held3 (fun w' => Below W5.heap.size W5 w' ∧ w'.cell? ⟨w2.heap.size, 0, none⟩ = some (.int .i64 m) ∧ w'.cell? ⟨w2.heap.size, 1, none⟩ = some (.slice ra rows.length rc) ∧ w'.cell? ⟨w2.heap.size, 2, none⟩ = some (.slice ga gn.length gc) ∧ w'.cell? ⟨w3.heap.size, 2, none⟩ = some (.int .i64 xg))
        (first | exact ⟨(Below.refl _ _).drew, j0, j1, j2, b2⟩ | exact HSX.out _ ((‹Below W5.heap.size W5 _ ∧ _›).1.trans hb57) | exact HSX.out _ ((‹Below W5.heap.size W5 _ ∧ _›).1.trans hb51) | exact HSX.out _ ((‹Below W5.heap.size W5 _ ∧ _›).1.trans (hB6.mono (‹Below W5.heap.size W5 _ ∧ _›).1.size)) | exact HSX.out _ ((‹Below W5.heap.size W5 _ ∧ _›).1.alloc (‹Below W5.heap.size W5 _ ∧ _›).1.size _) | exact HSX.out _ ((‹Below W5.heap.size W5 _ ∧ _›).1.alloc (‹Below W5.heap.size W5 _ ∧ _›).1.size _).drew | exact HSX.out _ (‹Below W5.heap.size W5 _ ∧ _›).1.drew | exact HSX.out _ ((Below.refl _ _).alloc (Nat.le_refl _) _).drew | exact HSX.out _ ((Below.refl _ _).alloc (Nat.le_refl _) _) | go_keep)
        (first | (go_at_call 41; refine (hgoal.out _ (‹Below W5.heap.size W5 _ ∧ _›).1).mono ?_; rintro e w6 ⟨vG, rfl, hoG, hB6⟩; obtain ⟨Ga, Gc, rfl, -, -⟩ := owned_len hoG; have hV6 : Hid (W5.heap.size ≤ w6.heap.size) := Nat.le_trans (‹Below W5.heap.size W5 _ ∧ _›).1.size hB6.size; have HRO : Hid (∀ u ∈ ([.int .i64 0, .int .i64 0, .int .i64 0, .int .i64 0, .slice Ga (goalS gn (xg - 1)).coef.length Gc, .int .i64 (goalS gn (xg - 1)).most] : List Value), u.oneCell' = true) := rowO_one (show RowO w6 [.int .i64 0, .int .i64 0, .int .i64 0, .int .i64 0, .slice Ga (goalS gn (xg - 1)).coef.length Gc, .int .i64 (goalS gn (xg - 1)).most] (goalS gn (xg - 1)) from ⟨_, rfl, hoG⟩); first | (have HLT : Hid (W5.heap.size < w6.heap.size) := (Nat.lt_of_lt_of_le (by show W5.heap.size < (World.alloc _ _).heap.size; simp) hB6.size)) | skip) | (refine step_appT (v := v51) (n := rows.length) (m := 1) (c := 1) (xs := cs) (xa := some ⟨w6.heap.size, 0, none⟩) (news := [.int .i64 0, .int .i64 0, .int .i64 0, .int .i64 0, .slice Ga (goalS gn (xg - 1)).coef.length Gc, .int .i64 (goalS gn (xg - 1)).most]) rfl (.tmp 61) (.tmp 67) rfl W5.heap.size (owned_below ho51 (hB6.alloc hB6.size _)) rfl rfl rfl (fun q hq j u hj => by cases hq; rw [add_zero_off]; exact ((Blk.new w6 #[.int .i64 0, .int .i64 0, .int .i64 0, .int .i64 0, .slice Ga (goalS gn (xg - 1)).coef.length Gc, .int .i64 (goalS gn (xg - 1)).most] 26).cell j).trans (by simpa using hj)) (fun h => by cases h) HRO.out (by omega) (‹Below W5.heap.size W5 _ ∧ _›).1.size ?_; intro v57 w57 ho57 ht57 hk57 hb57; have hTG : T3 w6 w57 := (T3.of_below ((Below.refl _ _).alloc (Nat.le_refl _) _)).trans ht57; have hVw : Below W5.heap.size W5 w57 := (‹Below W5.heap.size W5 _ ∧ _›).1.trans hb57; obtain ⟨na, nc, rfl, hn1, hn2⟩ := owned_len ho57) | (refine step_appT (v := v51) (n := rows.length) (m := 1) (c := 1) (xs := cs) (xa := some ⟨w51.heap.size, 0, none⟩) (news := [.int .i64 0, .int .i64 0, .int .i64 0, .int .i64 0, .slice Ga (goalS gn (xg - 1)).coef.length Gc, .int .i64 (goalS gn (xg - 1)).most]) rfl (.tmp 61) (.tmp 67) rfl W5.heap.size (owned_below ho51 ((Below.refl _ _).alloc (Nat.le_refl _) _)) rfl rfl rfl (fun q hq j u hj => by cases hq; rw [add_zero_off]; exact ((Blk.new w51 #[.int .i64 0, .int .i64 0, .int .i64 0, .int .i64 0, .slice Ga (goalS gn (xg - 1)).coef.length Gc, .int .i64 (goalS gn (xg - 1)).most] 26).cell j).trans (by simpa using hj)) (fun h => by cases h) HRO.out (by omega) (‹Below W5.heap.size W5 _ ∧ _›).1.size ?_; intro v57 w57 ho57 ht57 hk57 hb57; have hTG : T3 w6 w57 := (ht51.trans (T3.of_below ((Below.refl _ _).alloc (Nat.le_refl _) _))).trans ht57; have hVw : Below W5.heap.size W5 w57 := (‹Below W5.heap.size W5 _ ∧ _›).1.trans hb57; obtain ⟨na, nc, rfl, hn1, hn2⟩ := owned_len ho57) | (refine step_appT (v := v51) (n := rows.length) (m := 1) (c := 1) (xs := cs) (xa := some ⟨w51.heap.size, 0, none⟩) (news := [.int .i64 0, .int .i64 0, .int .i64 0, .int .i64 0, .slice Ga (goalS gn (xg - 1)).coef.length Gc, .int .i64 (goalS gn (xg - 1)).most]) rfl (.tmp 61) (.tmp 67) rfl W5.heap.size (owned_below ho51 ((Below.refl _ _).alloc (Nat.le_refl _) _)) rfl rfl rfl (fun q hq j u hj => by cases hq; rw [add_zero_off]; exact ((Blk.new w51 #[.int .i64 0, .int .i64 0, .int .i64 0, .int .i64 0, .slice Ga (goalS gn (xg - 1)).coef.length Gc, .int .i64 (goalS gn (xg - 1)).most] 26).cell j).trans (by simpa using hj)) (fun h => by cases h) HRO.out (by omega) (‹Below W5.heap.size W5 _ ∧ _›).1.size ?_; intro v57 w57 ho57 ht57 hk57 hb57; have hTG : T3 w6 w57 := (((T3.of_below ((Below.refl _ _).alloc (Nat.le_refl _) _)).trans ht51).trans (T3.of_below ((Below.refl _ _).alloc (Nat.le_refl _) _))).trans ht57; have hVw : Below W5.heap.size W5 w57 := (‹Below W5.heap.size W5 _ ∧ _›).1.trans hb57; obtain ⟨na, nc, rfl, hn1, hn2⟩ := owned_len ho57) | (refine step_appT (v := v51) (n := rows.length) (m := 1) (c := 1) (xs := cs) (xa := some ⟨w6.heap.size, 0, none⟩) (news := [.int .i64 0, .int .i64 0, .int .i64 0, .int .i64 0, .slice Ga (goalS gn (xg - 1)).coef.length Gc, .int .i64 (goalS gn (xg - 1)).most]) rfl (.tmp 61) (.tmp 67) rfl W5.heap.size ho51 rfl rfl rfl (fun q hq j u hj => by cases hq; rw [add_zero_off]; exact ((show Blk w51 w6.heap.size #[.int .i64 0, .int .i64 0, .int .i64 0, .int .i64 0, .slice Ga (goalS gn (xg - 1)).coef.length Gc, .int .i64 (goalS gn (xg - 1)).most] 26 from (hk51 w6.heap.size (by show _ < (World.alloc _ _).heap.size; simp) (fun e2 => by have := HLT.out; simp [Value.ownBlock] at e2; omega)).trans (Blk.new w6 #[.int .i64 0, .int .i64 0, .int .i64 0, .int .i64 0, .slice Ga (goalS gn (xg - 1)).coef.length Gc, .int .i64 (goalS gn (xg - 1)).most] 26)).cell j).trans (by simpa using hj)) (fun h => by cases h) HRO.out (by omega) (‹Below W5.heap.size W5 _ ∧ _›).1.size ?_; intro v57 w57 ho57 ht57 hk57 hb57; have hTG : T3 w6 w57 := ((T3.of_below ((Below.refl _ _).alloc (Nat.le_refl _) _)).trans ht51).trans ht57; have hVw : Below W5.heap.size W5 w57 := (‹Below W5.heap.size W5 _ ∧ _›).1.trans hb57; obtain ⟨na, nc, rfl, hn1, hn2⟩ := owned_len ho57) | (refine step_appT (v := v51) (n := rows.length) (m := 1) (c := 1) (xs := cs) (xa := some ⟨(w6.heap.size + 1), 0, none⟩) (news := [.int .i64 0, .int .i64 0, .int .i64 0, .int .i64 0, .slice Ga (goalS gn (xg - 1)).coef.length Gc, .int .i64 (goalS gn (xg - 1)).most]) rfl (.tmp 61) (.tmp 67) rfl W5.heap.size ho51 rfl rfl rfl (fun q hq j u hj => by cases hq; rw [add_zero_off]; exact ((show Blk w51 (w6.heap.size + 1) #[.int .i64 0, .int .i64 0, .int .i64 0, .int .i64 0, .slice Ga (goalS gn (xg - 1)).coef.length Gc, .int .i64 (goalS gn (xg - 1)).most] 26 from (hk51 (w6.heap.size + 1) (by show _ < (World.alloc _ _).heap.size; simp) (fun e2 => by simp [Value.ownBlock] at e2)).trans (Blk.newAt (w6.alloc (.cells #[] 26)) #[.int .i64 0, .int .i64 0, .int .i64 0, .int .i64 0, .slice Ga (goalS gn (xg - 1)).coef.length Gc, .int .i64 (goalS gn (xg - 1)).most] 26 (by simp))).cell j).trans (by simpa using hj)) (fun h => by cases h) HRO.out (by omega) (‹Below W5.heap.size W5 _ ∧ _›).1.size ?_; intro v57 w57 ho57 ht57 hk57 hb57; have hTG : T3 w6 w57 := ((T3.of_below (((Below.refl _ _).alloc (Nat.le_refl _) _).alloc (by simp) _)).trans ht51).trans ht57; have hVw : Below W5.heap.size W5 w57 := (‹Below W5.heap.size W5 _ ∧ _›).1.trans hb57; obtain ⟨na, nc, rfl, hn1, hn2⟩ := owned_len ho57) | (refine step_appT (v := v51) (n := rows.length) (m := 1) (c := 1) (xs := cs) (xa := some ⟨w6.heap.size, 0, none⟩) (news := [.int .i64 0, .int .i64 0, .int .i64 0, .int .i64 0, .slice Ga (goalS gn (xg - 1)).coef.length Gc, .int .i64 (goalS gn (xg - 1)).most]) rfl (.tmp 61) (.tmp 67) rfl W5.heap.size ho51 rfl rfl rfl (fun q hq j u hj => by cases hq; rw [add_zero_off]; exact ((show Blk w51 w6.heap.size #[.int .i64 0, .int .i64 0, .int .i64 0, .int .i64 0, .slice Ga (goalS gn (xg - 1)).coef.length Gc, .int .i64 (goalS gn (xg - 1)).most] 26 from (hk51 w6.heap.size (by show _ < (World.alloc _ _).heap.size; simp <;> omega) (fun e2 => by simp [Value.ownBlock] at e2)).trans ((Blk.new w6 #[.int .i64 0, .int .i64 0, .int .i64 0, .int .i64 0, .slice Ga (goalS gn (xg - 1)).coef.length Gc, .int .i64 (goalS gn (xg - 1)).most] 26).alloc (.cells #[] 26))).cell j).trans (by simpa using hj)) (fun h => by cases h) HRO.out (by omega) (‹Below W5.heap.size W5 _ ∧ _›).1.size ?_; intro v57 w57 ho57 ht57 hk57 hb57; have hTG : T3 w6 w57 := ((T3.of_below (((Below.refl _ _).alloc (Nat.le_refl _) _).alloc (by simp) _)).trans ht51).trans ht57; have hVw : Below W5.heap.size W5 w57 := (‹Below W5.heap.size W5 _ ∧ _›).1.trans hb57; obtain ⟨na, nc, rfl, hn1, hn2⟩ := owned_len ho57) | (refine step_appT (w := (W5.alloc (.cells #[] 26)).drew) (v := .slice (some ⟨W5.heap.size, 0, none⟩) 0 0) (n := 0) (m := rows.length) (c := rc) (xs := []) (xa := ra) (news := cs) rfl (.tmp 58) (.tmp 60) rfl W5.heap.size (own_empty (B := W5.heap.size) (Blk.new W5 #[] 26) (Nat.le_refl _)) rfl rfl HC.out.1 (HC.out.2.1 _ (‹Below W5.heap.size W5 _ ∧ _›).1) HC.out.2.2.1 HC.out.2.2.2 (by omega) (‹Below W5.heap.size W5 _ ∧ _›).1.size ?_; intro v51 w51 ho51 ht51 hk51 hb51; rw [show 0 + rows.length = rows.length from Nat.zero_add _, List.nil_append] at ho51) | (refine step_appT (w := _) (v := .slice (some ⟨W5.heap.size, 0, none⟩) 0 0) (n := 0) (m := rows.length) (c := rc) (xs := []) (xa := ra) (news := cs) rfl (.tmp 58) (.tmp 60) rfl W5.heap.size (own_empty (B := W5.heap.size) ((Blk.new W5 #[] 26).below hB6 (by simp)) (Nat.le_refl _)) rfl rfl HC.out.1 (HC.out.2.1 _ (‹Below W5.heap.size W5 _ ∧ _›).1) HC.out.2.2.1 HC.out.2.2.2 (by omega) (‹Below W5.heap.size W5 _ ∧ _›).1.size ?_; intro v51 w51 ho51 ht51 hk51 hb51; rw [show 0 + rows.length = rows.length from Nat.zero_add _, List.nil_append] at ho51) | (refine step_appT (w := (w6.alloc (.cells #[.int .i64 0, .int .i64 0, .int .i64 0, .int .i64 0, .slice Ga (goalS gn (xg - 1)).coef.length Gc, .int .i64 (goalS gn (xg - 1)).most] 26)).drew) (v := .slice (some ⟨W5.heap.size, 0, none⟩) 0 0) (n := 0) (m := rows.length) (c := rc) (xs := []) (xa := ra) (news := cs) rfl (.tmp 58) (.tmp 60) rfl W5.heap.size (own_empty (B := W5.heap.size) (((Blk.new W5 #[] 26).below hB6 (by simp)).alloc (.cells #[.int .i64 0, .int .i64 0, .int .i64 0, .int .i64 0, .slice Ga (goalS gn (xg - 1)).coef.length Gc, .int .i64 (goalS gn (xg - 1)).most] 26)) (Nat.le_refl _)) rfl rfl HC.out.1 (HC.out.2.1 _ (‹Below W5.heap.size W5 _ ∧ _›).1) HC.out.2.2.1 HC.out.2.2.2 (by omega) (‹Below W5.heap.size W5 _ ∧ _›).1.size ?_; intro v51 w51 ho51 ht51 hk51 hb51; rw [show 0 + rows.length = rows.length from Nat.zero_add _, List.nil_append] at ho51) | (refine step_appT (w := (w6.alloc (.cells #[] 26)).drew) (v := .slice (some ⟨w6.heap.size, 0, none⟩) 0 0) (n := 0) (m := rows.length) (c := rc) (xs := []) (xa := ra) (news := cs) rfl (.tmp 58) (.tmp 60) rfl W5.heap.size (own_empty (B := w6.heap.size) (Blk.new w6 #[] 26) hV6.out) rfl rfl HC.out.1 (HC.out.2.1 _ (‹Below W5.heap.size W5 _ ∧ _›).1) HC.out.2.2.1 HC.out.2.2.2 (by omega) (‹Below W5.heap.size W5 _ ∧ _›).1.size ?_; intro v51 w51 ho51 ht51 hk51 hb51; rw [show 0 + rows.length = rows.length from Nat.zero_add _, List.nil_append] at ho51) | (refine step_appT (w := ((w6.alloc (.cells #[] 26)).alloc (.cells #[.int .i64 0, .int .i64 0, .int .i64 0, .int .i64 0, .slice Ga (goalS gn (xg - 1)).coef.length Gc, .int .i64 (goalS gn (xg - 1)).most] 26)).drew) (v := .slice (some ⟨w6.heap.size, 0, none⟩) 0 0) (n := 0) (m := rows.length) (c := rc) (xs := []) (xa := ra) (news := cs) rfl (.tmp 58) (.tmp 60) rfl W5.heap.size (own_empty (B := w6.heap.size) ((Blk.new w6 #[] 26).alloc (.cells #[.int .i64 0, .int .i64 0, .int .i64 0, .int .i64 0, .slice Ga (goalS gn (xg - 1)).coef.length Gc, .int .i64 (goalS gn (xg - 1)).most] 26)) hV6.out) rfl rfl HC.out.1 (HC.out.2.1 _ (‹Below W5.heap.size W5 _ ∧ _›).1) HC.out.2.2.1 HC.out.2.2.2 (by omega) (‹Below W5.heap.size W5 _ ∧ _›).1.size ?_; intro v51 w51 ho51 ht51 hk51 hb51; rw [show 0 + rows.length = rows.length from Nat.zero_add _, List.nil_append] at ho51) | (refine step_appT (w := ((w6.alloc (.cells #[.int .i64 0, .int .i64 0, .int .i64 0, .int .i64 0, .slice Ga (goalS gn (xg - 1)).coef.length Gc, .int .i64 (goalS gn (xg - 1)).most] 26)).alloc (.cells #[] 26)).drew) (v := .slice (some ⟨(w6.heap.size + 1), 0, none⟩) 0 0) (n := 0) (m := rows.length) (c := rc) (xs := []) (xa := ra) (news := cs) rfl (.tmp 58) (.tmp 60) rfl W5.heap.size (own_empty (B := (w6.heap.size + 1)) (Blk.newAt (w6.alloc (.cells #[.int .i64 0, .int .i64 0, .int .i64 0, .int .i64 0, .slice Ga (goalS gn (xg - 1)).coef.length Gc, .int .i64 (goalS gn (xg - 1)).most] 26)) #[] 26 (by simp)) (Nat.le_succ_of_le hV6.out)) rfl rfl HC.out.1 (HC.out.2.1 _ (‹Below W5.heap.size W5 _ ∧ _›).1) HC.out.2.2.1 HC.out.2.2.2 (by omega) (‹Below W5.heap.size W5 _ ∧ _›).1.size ?_; intro v51 w51 ho51 ht51 hk51 hb51; rw [show 0 + rows.length = rows.length from Nat.zero_add _, List.nil_append] at ho51))
      all_goals (
        go_wp2_with fail
        go_meet
        have hfg : FlatC 6 RowO w57 [.int .i64 0, .int .i64 0, .int .i64 0, .int .i64 0, .slice Ga (goalS gn ((xg - 1))).coef.length Gc, .int .i64 (goalS gn ((xg - 1))).most] [goalS gn ((xg - 1))] := ⟨_, [], (List.append_nil _).symm, rfl, ⟨_, rfl, hoG.t hTG⟩, rfl⟩
        have hrv : RowsAt w57 (.slice na (rows ++ [goalS gn ((xg - 1))]).length nc) (rows ++ [goalS gn ((xg - 1))]) := flat_view (by rw [List.length_append]; exact ho57) ((FlatC.app (hf5.imp (fun _ _ h => h.t (T3.of_below hVw))) hfg).to (fun _ _ h => h.row))
        rw [List.length_append] at hrv
        exact ⟨na, nc, rfl, hrv, hVw⟩)
    case rest =>
      rename World => W6
      obtain ⟨ua, uc, rfl, hq6, hB6⟩ := hcut
      have ks6 := ks5.below hB6 ls5
      have hop6 := hop5.below hB6
      have hst6 := hst5.below hB6
      have hq5' := hq5.below hB6
      have hBw6 := hBw5.trans (hB6.mono hBw5.size)
      clear j0 j1 j2 b2
      have b3 := ks6.cell 3
      simp only [List.getElem?_toArray, List.getElem?_cons_succ, List.getElem?_cons_zero] at b3
      obtain ⟨r1, r2, r3, r4⟩ := HR.out
      have hx := refutes_any (rows ++ [goalS gn xg]) pf m _ _ (r3 xg (by omega) (by omega)) (by omega) (r4 xg) pf.length 0 _ W6 _ List.length_replicate (by omega) hq5' hst6 hop6
      have hx2 := Lib.hid (fun W (hW : Below W6.heap.size W6 W) => refutes_any (rows ++ [goalS gn (xg - 1)]) pf m _ _ (r3 (xg - 1) (by omega) (by omega)) (by omega) (r4 (xg - 1)) pf.length 0 _ W _ List.length_replicate (by omega) (hq6.below hW) (hst6.below hW) (hop6.below hW))
      rw [r1] at hx
      rw [r2] at hx2
      simp only [Int.natCast_zero] at hx hx2
      clear r1 r2 r3 r4
      have ls6 := ks6.lt
      go_wp2_with fail
      refine hx.mono ?_
      rintro e w7 ⟨rfl, hB7⟩
      have ks7 := ks6.below hB7 ls6
      clear b3 hx
      have b3 := ks7.cell 3
      simp only [List.getElem?_toArray, List.getElem?_cons_succ, List.getElem?_cons_zero] at b3
      have hx3 := hx2.out w7 hB7
      go_wp2_with fail
      refine hx3.mono ?_
      rintro e w8 ⟨rfl, hB8⟩
      go_wp2
      go_ret
      exact ⟨rfl, (hBw6.trans (hB7.mono hBw6.size)).trans (hB8.mono (hBw6.trans (hB7.mono hBw6.size)).size)⟩
theorem proof_lawP (p : ProgD) (m : Nat) (hG : GoodP p m) : (proofS p).length ≤ 511 ∧
    ((∃ x : Nat × Int, (-1000000000000 ≤ x.2 ∧ x.2 ≤ 1000000000000) ∧ solveV p = ⟨true, x.1, x.2, proofS p⟩ ∧
        refB (p.rows ++ [goalS p.gain x.2]) (proofS p) (proofS p).length 0 (List.replicate p.vars.toNat (-1)) = true ∧
        refB (p.rows ++ [goalS p.gain (x.2 - 1)]) (proofS p) (proofS p).length 0 (List.replicate p.vars.toNat (-1)) = false ∧
        (∀ g, -10000000000000 ≤ -(g + 1) → -(g + 1) ≤ 10000000000000 → ∀ r ∈ p.rows ++ [goalS p.gain g], r.coef.length = p.vars.toNat ∧ coefOK r.coef = true ∧ -10000000000000 ≤ r.most ∧ r.most ≤ 10000000000000) ∧
        ∀ g i s, (proofS p)[i]? = some s → PlainS p.vars.toNat (p.rows ++ [goalS p.gain g]).length i s) ∨
      (solveV p = ⟨false, 0, 0, proofS p⟩ ∧ refB p.rows (proofS p) (proofS p).length 0 (List.replicate p.vars.toNat (-1)) = true ∧
        (∀ r ∈ p.rows, r.coef.length = p.vars.toNat ∧ coefOK r.coef = true ∧ -10000000000000 ≤ r.most ∧ r.most ≤ 10000000000000) ∧
        ∀ i s, (proofS p)[i]? = some s → PlainS p.vars.toNat p.rows.length i s)) := by
  obtain ⟨pv, rows, gn⟩ := p
  obtain rfl : pv = m := hG.vm
  obtain ⟨-, h1, h2⟩ := proof_law m rows gn hG.val hG.m8
  simp only [Int.toNat_natCast]
  refine ⟨h1, ?_⟩
  rcases h2 with ⟨x, -, a, b, c, d, e, f, g⟩ | ⟨-, b, c, d, e⟩
  · exact .inl ⟨x, ⟨a, b⟩, c, d, e, f, g⟩
  · exact .inr ⟨b, c, d, e⟩
theorem proof_true (vars : Int) (vx : Value) (x : List X3) (gain : List Int) (w : World) (hv : InR vars) (hx : XsAt w vx x) (hxr : ∀ y ∈ x, XR y) (hg : gain.length = 8) (hgr : ∀ y ∈ gain, InR y) :
    Calls Try.prog 5 #[.int .i64 vars, vx, .agg (gain.map (Value.int .i64)).toArray] w fun e w' => e = .returned (.bool true) ∧ Below w.heap.size w w' := by
  obtain ⟨m, hG⟩ := goodP vars x gain
  obtain ⟨h1, ⟨y, h2, h3, h4, h5, h6, h7⟩ | ⟨h3, h4, h5, h6⟩⟩ := proof_lawP _ m hG
  · exact proof_some vars vx x gain w hv hx hxr hg hgr _ y.1 y.2 h3 h1 h2 h4 h5 h6 h7
  · exact proof_none vars vx x gain w hv hx hxr hg hgr _ h3 h1 h4 h5 h6
end Go.Proofs.Ytblmpmapcdpaiaa

/- nadirlaw26.ProofUsed: the walk. -/
import Derived.Test.YtblmpmapcdpaiaaS1
import Derived.Test.YtblmpmapcdpaiaaU1
namespace Go.Proofs.Ytblmpmapcdpaiaa
open Go.RowKit Go.Shelf Lib
attribute [local go_sem] Oper.semAt_some
attribute [local irreducible] wpStill

theorem cat_news {U : World} {base rc : Nat} {ra : Option Addr} {cs : List Value} {rows : List RowD} (h1 : U.ownsRow base 26 6 (.slice ra rows.length rc) rows.length cs) (h2 : FlatC 6 RowO U cs rows) :
    cs.length = rows.length * 6 ∧ (∀ W, Below U.heap.size U W → ∀ q, ra = some q → ∀ j u, cs[j]? = some u → W.cell? (q.add j) = some u) ∧ (ra = none → rows.length = 0 ∧ rc = 0) ∧ (∀ u ∈ cs, u.oneCell' = true) := by
  refine ⟨h2.len, fun W hW q hq j u hj => ?_, fun e => ?_, cat_flat_one h2⟩
  · subst hq
    rcases h1.2 with ⟨e, -⟩ | ⟨g, cap, cur, e, -⟩
    · cases e
    · cases e
      have := h1.cells rfl j u hj
      exact (hW.cell (World.block_lt_of_cell? _ _ this)).trans this
  · subst e
    rcases h1.2 with ⟨e, h0⟩ | ⟨g, cap, cur, e, -⟩
    · injection e with _ e2 e3; exact ⟨h0, e3⟩
    · cases e
theorem step_appE {t e : TypeId} {z : Value} {size bytes : Nat} {ops : Array Oper} {o : Oper} {a : Act} {w : World} {K : Act → World → Prop} {Q : Exit → Act → World → Prop} {E : Prop} (EE : ElemOK Try.prog t e z size bytes)
    (hg : o.guard = none) (s x : Operand) (hop : o.op = Op.call { callee := Callee.builtin Builtin.append, args := #[s, x], argTypes := #[t, t] })
    (base : Nat) {v : Value} {n m c : Nat} {xs news : List Value} {p : Addr} (hown : w.ownsRow base e size v n xs) (hs : a.eval s = v) (hx : a.eval x = .slice (some p) m c) (hl : news.length = m * size)
    (hnews : ∀ j u, news[j]? = some u → w.cell? (p.add j) = some u) (h1 : ∀ u ∈ news, u.oneCell' = true) (hn : n + m ≤ maxLen) (hby : (n + m) * bytes ≤ 140737488355328) (hbase : base ≤ w.heap.size)
    (hK : ∀ v' w', w'.ownsRow base e size v' (n + m) (xs ++ news) → w.grownBy w' v.ownBlock → K (a.put o.dst v') w') :
    if Region.wanted o (yielded ops a.tmps) = true then Oper.wp Try.prog o a w K Q else E := by
  have hw : Region.wanted o (yielded ops a.tmps) = true := by simp [Region.wanted, hg]
  rw [if_pos hw]
  obtain ⟨i, hi, hz0, hz1, hz2⟩ := info_parts EE.info
  obtain ⟨v', w', hrun, h2, h3, -⟩ := run_append_own (P := Try.prog) w base t o.type e i z size bytes EE.und hi hz0 hz1 hz2 EE.zs EE.pos v n xs hown p m c news hl hnews h1 hn hby hbase
  unfold Oper.wp
  simp [execOp, hop, resolve, invoke, builtin, hs, hx, hrun, Result.andThen]
  exact hK v' w' h2 h3
set_option maxRecDepth 100000 in
set_option maxHeartbeats 40000000 in
theorem used_true (vars : Int) (vx : Value) (g0 g1 g2 g3 g4 g5 g6 g7 : Int) (f0 f1 f2 : Int) (m : Nat) (rows : List RowD) (r : RowD) (gn : List Int) (w : World) (hG : GoodP ⟨(m : Int), rows, gn⟩ m) (hT : TinyR r m)
    (hmade : Hid (∀ W, Below w.heap.size w W → Calls Try.prog 17 #[.int .i64 vars, vx, .agg #[.int .i64 g0, .int .i64 g1, .int .i64 g2, .int .i64 g3, .int .i64 g4, .int .i64 g5, .int .i64 g6, .int .i64 g7]] W fun e w' => ∃ oB vk vg, e = .returned (.agg #[.int .i64 m, vk, vg]) ∧ OutP oB w' m vk vg rows gn ∧ W.heap.size ≤ oB ∧ Below W.heap.size W w'))
    (hone : Hid (∀ W vz, Below w.heap.size w W → XsAt W vz [⟨f0, f1, f2⟩] → Calls Try.prog 17 #[.int .i64 vars, vz, .agg #[.int .i64 g0, .int .i64 g1, .int .i64 g2, .int .i64 g3, .int .i64 g4, .int .i64 g5, .int .i64 g6, .int .i64 g7]] W fun e w' => ∃ oB vk vg, e = .returned (.agg #[.int .i64 m, vk, vg]) ∧ OutP oB w' m vk vg [r] gn ∧ W.heap.size ≤ oB ∧ Below W.heap.size W w')) :
    Calls Try.prog 15 #[.int .i64 vars, vx, .agg #[.int .i64 g0, .int .i64 g1, .int .i64 g2, .int .i64 g3, .int .i64 g4, .int .i64 g5, .int .i64 g6, .int .i64 g7], .agg #[.int .i64 f0, .int .i64 f1, .int .i64 f2]] w fun e w' => e = .returned (.bool true) ∧ Below w.heap.size w w' := by
  have hm8 := hG.m8
  have hn8 := hG.n8
  simp only at hn8
  have hval := hG.val
  have hfd : ∀ (x y z : Value) W, (Instr.field 29 (.agg #[x, y, z]) 1).run Try.prog W = .ok y W := fun _ _ _ _ => by kernel_rfl
  have hv2 := usedP_valid hval hT hn8
  have herr : errV (usedP m rows gn r) = 0 := by unfold errV; rw [hv2]; rfl
  have hbest := usedP_best (rows := rows) (gn := gn) hT.len
  obtain ⟨pf, hpf⟩ : ∃ pf, proofS (usedP m rows gn r) = pf := ⟨_, rfl⟩
  have hsv : solveV (usedP m rows gn r) = ⟨false, 0, 0, pf⟩ := by unfold solveV; rw [hv2, if_pos rfl, hbest]; simp only [hpf]
  have hw := complete_none hv2 (by show (m : Int) ≤ 8; omega) hbest
  rw [hpf] at hw
  obtain ⟨b, hb⟩ : ∃ b, usedV pf pf.length 0 (fun _ => false) = b := ⟨_, rfl⟩
  have hul := used_left hw hb
  have hlen2 : (usedP m rows gn r).rows.length = rows.length + 2 := by show (rows ++ [r, oppR r m]).length = _; simp
  rw [hlen2] at hul
  have HSV := Lib.hid (And.intro hsv (And.intro herr (And.intro hw hul)))
  clear hsv herr hw hul hb hbest hpf hlen2 hG
  go_enter Try.func15, Try.ntmps15
  go_wp2_with fail
  refine (sane26_true _).mono ?_
  rintro e w1 ⟨rfl, hBa⟩
  have hBw1 : Below w.heap.size w w1 := (((Below.refl w.heap.size w).alloc (Nat.le_refl _) (.cells #[.int .i64 g0, .int .i64 g1, .int .i64 g2, .int .i64 g3, .int .i64 g4, .int .i64 g5, .int .i64 g6, .int .i64 g7] 23)).alloc (by simp) (.cells #[.int .i64 f0, .int .i64 f1, .int .i64 f2] 59)).trans (hBa.mono (by simp; omega))
  have kg : Blk w1 w.heap.size #[.int .i64 g0, .int .i64 g1, .int .i64 g2, .int .i64 g3, .int .i64 g4, .int .i64 g5, .int .i64 g6, .int .i64 g7] 23 := ((Blk.new w #[.int .i64 g0, .int .i64 g1, .int .i64 g2, .int .i64 g3, .int .i64 g4, .int .i64 g5, .int .i64 g6, .int .i64 g7] 23).alloc (.cells #[.int .i64 f0, .int .i64 f1, .int .i64 f2] 59)).below hBa (by simp; omega)
  have kf : Blk w1 (w.heap.size + 1) #[.int .i64 f0, .int .i64 f1, .int .i64 f2] 59 := (Blk.newAt (w.alloc (.cells #[.int .i64 g0, .int .i64 g1, .int .i64 g2, .int .i64 g3, .int .i64 g4, .int .i64 g5, .int .i64 g6, .int .i64 g7] 23)) #[.int .i64 f0, .int .i64 f1, .int .i64 f2] 59 (by simp)).below hBa (by simp)
  have i0 := kg.cell 0
  have i1 := kg.cell 1
  have i2 := kg.cell 2
  have i3 := kg.cell 3
  have i4 := kg.cell 4
  have i5 := kg.cell 5
  have i6 := kg.cell 6
  have i7 := kg.cell 7
  simp only [List.getElem?_toArray, List.getElem?_cons_succ, List.getElem?_cons_zero] at i0 i1 i2 i3 i4 i5 i6 i7
  go_wp2_with fail
  refine (hmade.out w1 hBw1).mono ?_
  rintro e w2 ⟨oB, vk, vg, rfl, hO, -, hB2⟩
  obtain ⟨vr', vg', e, hvr, hvg⟩ := hO.prog
  cases e
  simp only at hvr hvg
  obtain ⟨ra, rc, rfl, hr1, hr2⟩ := (show SlicesLen vk rows.length from hvr.len)
  obtain ⟨ga, gc, rfl, hg1, hg2⟩ := hvg.len
  unfold maxLen at hr2 hg2
  have hBw2 := hBw1.trans (hB2.mono hBw1.size)
  have hA2 : Below w2.heap.size w2 (w2.alloc (.cells #[.int .i64 m, .slice ra rows.length rc, .slice ga gn.length gc] 29)) := (Below.refl _ _).alloc (Nat.le_refl _) _
  have kp := Blk.new w2 #[.int .i64 m, .slice ra rows.length rc, .slice ga gn.length gc] 29
  have kg2 := (kg.below hB2 kg.lt).alloc (.cells #[.int .i64 m, .slice ra rows.length rc, .slice ga gn.length gc] 29)
  have kf2 := (kf.below hB2 kf.lt).alloc (.cells #[.int .i64 m, .slice ra rows.length rc, .slice ga gn.length gc] 29)
  have HBW := Lib.hid hBw2
  have HP := Lib.hid (And.intro hO (And.intro hA2 (hBw2.trans (hA2.mono hBw2.size))))
  clear hO hB2 hBa hBw1 kg kf i0 i1 i2 i3 i4 i5 i6 i7 hmade hvr hvg hA2 hBw2
  obtain ⟨V, hV⟩ : ∃ V, w2.alloc (.cells #[.int .i64 m, .slice ra rows.length rc, .slice ga gn.length gc] 29) = V := ⟨_, rfl⟩
  have hVz : V.heap.size = w2.heap.size + 1 := by rw [← hV]; simp
  rw [hV] at kp kg2 kf2 HP
  have i0 := (kg2.alloc (.cells #[.int .i64 f0, .int .i64 f1, .int .i64 f2] 59)).cell 0
  have i1 := (kg2.alloc (.cells #[.int .i64 f0, .int .i64 f1, .int .i64 f2] 59)).cell 1
  have i2 := (kg2.alloc (.cells #[.int .i64 f0, .int .i64 f1, .int .i64 f2] 59)).cell 2
  have i3 := (kg2.alloc (.cells #[.int .i64 f0, .int .i64 f1, .int .i64 f2] 59)).cell 3
  have i4 := (kg2.alloc (.cells #[.int .i64 f0, .int .i64 f1, .int .i64 f2] 59)).cell 4
  have i5 := (kg2.alloc (.cells #[.int .i64 f0, .int .i64 f1, .int .i64 f2] 59)).cell 5
  have i6 := (kg2.alloc (.cells #[.int .i64 f0, .int .i64 f1, .int .i64 f2] 59)).cell 6
  have i7 := (kg2.alloc (.cells #[.int .i64 f0, .int .i64 f1, .int .i64 f2] 59)).cell 7
  have d0 := kf2.cell 0
  have d1 := kf2.cell 1
  have d2 := kf2.cell 2
  simp only [List.getElem?_toArray, List.getElem?_cons_succ, List.getElem?_cons_zero] at i0 i1 i2 i3 i4 i5 i6 i7 d0 d1 d2
  have hl1 := kg2.lt
  have hl2 := kf2.lt
  go_wp2_with fail
  clear hV
  have hV3 : Below V.heap.size V (V.alloc (.cells #[.int .i64 f0, .int .i64 f1, .int .i64 f2] 59)) := (Below.refl _ _).alloc (Nat.le_refl _) _
  have kz : Blk (V.alloc (.cells #[.int .i64 f0, .int .i64 f1, .int .i64 f2] 59)) (w2.heap.size + 1) #[.int .i64 f0, .int .i64 f1, .int .i64 f2] 59 := Blk.newAt _ _ _ hVz.symm
  refine (hone.out (V.alloc (.cells #[.int .i64 f0, .int .i64 f1, .int .i64 f2] 59)) (.slice (some ⟨w2.heap.size + 1, 0, none⟩) 1 1) (HP.out.2.2.trans (hV3.mono HP.out.2.2.size)) ⟨_, 1, rfl, Nat.le_refl _, by decide, fun _ => ⟨w2.heap.size + 1, 0, rfl, fun j y hj => by
    match j, hj with
    | 0, hj =>
      cases hj
      refine ⟨_, rfl, fun i u hi => ?_, rfl⟩
      rw [Nat.zero_add]
      rw [kz.cell i, List.getElem?_toArray]
      exact hi
    | j + 1, hj => simp at hj⟩⟩).mono ?_
  rintro e w4 ⟨oB2, vk2, vg2, rfl, hO2, -, hB4⟩
  obtain ⟨cs2, o1, ds, rest, e, hd6, ⟨vc, e', hO3⟩, hre⟩ := hO2.own
  obtain rfl : rest = [] := hre
  subst e'
  rw [List.append_nil] at e
  subst e
  obtain ⟨tb, tc, rfl⟩ : ∃ tb tc, vk2 = .slice (some ⟨tb, 0, none⟩) 1 tc := by
    rcases o1.2 with ⟨-, h0⟩ | ⟨g2, cap2, cur2, hsl, -⟩
    · simp at h0
    · exact ⟨g2, cap2, hsl⟩
  have hce : ∀ j u, ([.int .i64 r.kind, .int .i64 r.a, .int .i64 r.b, .int .i64 r.at_, vc, .int .i64 r.most] : List Value)[j]? = some u → w4.cell? ⟨tb, j, none⟩ = some u := fun j u hj => by
    have := o1.cells rfl j u hj
    rwa [add_zero_off] at this
  have e0 := hce 0 _ rfl
  have e1 := hce 1 _ rfl
  have e2 := hce 2 _ rfl
  have e3 := hce 3 _ rfl
  have e4 := hce 4 _ rfl
  have e5 := hce 5 _ rfl
  have hco : IntsAt w4 vc r.coef := owned_slice hO3
  obtain ⟨ca, cc, rfl, hc1, hc2⟩ := (show SlicesLen vc r.coef.length from hco.len)
  have hmo := hT.mo
  have n1 : IntKind.i64.wrap (-r.most) = -r.most := wrapS _ (by omega) (by omega)
  have n2 : IntKind.i64.wrap (-r.most - 1) = -r.most - 1 := wrapS _ (by omega) (by omega)
  have hBV4 : Below V.heap.size V w4 := hV3.trans (hB4.mono hV3.size)
  have kp4 := kp.below hBV4 kp.lt
  have HP4 := Lib.hid (And.intro hBV4 (And.intro kp4 hco))
  have htl := World.block_lt_of_cell? _ _ e0
  simp only at htl
  have hpl4 : w2.heap.size < w4.heap.size := kp4.lt
  have hWl4 : w.heap.size < w4.heap.size := Nat.lt_of_lt_of_le hl1 hBV4.size
  have HO3 := Lib.hid hO3
  clear hO2 o1 hce hd6 hO3 hB4 hV3 kz hone kg2 kf2 i0 i1 i2 i3 i4 i5 i6 i7 d0 d1 d2 kp hBV4 kp4 hco
  go_wp2_with fail
  have hB6 : Below w4.heap.size w4 ((w4.alloc (.cells #[.int .i64 r.kind, .int .i64 r.a, .int .i64 r.b, .int .i64 r.at_, .slice ca r.coef.length cc, .int .i64 r.most] 26)).alloc (.cells #[.int .i64 0, .int .i64 0, .int .i64 0, .int .i64 0, .slice none 0 0, .int .i64 (-r.most - 1)] 26)) := (((Below.refl _ _).alloc (Nat.le_refl _) _).alloc (by simp) _)
  have kr : Blk ((w4.alloc (.cells #[.int .i64 r.kind, .int .i64 r.a, .int .i64 r.b, .int .i64 r.at_, .slice ca r.coef.length cc, .int .i64 r.most] 26)).alloc (.cells #[.int .i64 0, .int .i64 0, .int .i64 0, .int .i64 0, .slice none 0 0, .int .i64 (-r.most - 1)] 26)) w4.heap.size #[.int .i64 r.kind, .int .i64 r.a, .int .i64 r.b, .int .i64 r.at_, .slice ca r.coef.length cc, .int .i64 r.most] 26 := (Blk.new w4 #[.int .i64 r.kind, .int .i64 r.a, .int .i64 r.b, .int .i64 r.at_, .slice ca r.coef.length cc, .int .i64 r.most] 26).alloc _
  have ka : Blk ((w4.alloc (.cells #[.int .i64 r.kind, .int .i64 r.a, .int .i64 r.b, .int .i64 r.at_, .slice ca r.coef.length cc, .int .i64 r.most] 26)).alloc (.cells #[.int .i64 0, .int .i64 0, .int .i64 0, .int .i64 0, .slice none 0 0, .int .i64 (-r.most - 1)] 26)) (w4.heap.size + 1) #[.int .i64 0, .int .i64 0, .int .i64 0, .int .i64 0, .slice none 0 0, .int .i64 (-r.most - 1)] 26 := Blk.newAt (w4.alloc (.cells #[.int .i64 r.kind, .int .i64 r.a, .int .i64 r.b, .int .i64 r.at_, .slice ca r.coef.length cc, .int .i64 r.most] 26)) #[.int .i64 0, .int .i64 0, .int .i64 0, .int .i64 0, .slice none 0 0, .int .i64 (-r.most - 1)] 26 (by simp)
  have kp6 := HP4.out.2.1.below hB6 HP4.out.2.1.lt
  have hco6 := HP4.out.2.2.below hB6
  obtain ⟨W6, hW6⟩ : ∃ W6, (w4.alloc (.cells #[.int .i64 r.kind, .int .i64 r.a, .int .i64 r.b, .int .i64 r.at_, .slice ca r.coef.length cc, .int .i64 r.most] 26)).alloc (.cells #[.int .i64 0, .int .i64 0, .int .i64 0, .int .i64 0, .slice none 0 0, .int .i64 (-r.most - 1)] 26) = W6 := ⟨_, rfl⟩
  have h6z : W6.heap.size = w4.heap.size + 2 := by rw [← hW6]; simp
  rw [hW6] at hB6 kr ka kp6 hco6 ⊢
  clear hW6 e0 e1 e2 e3 e4 e5
  have HC6 := Lib.hid hco6
  clear hco6
  go_loopw [13] (fun u13 wr => ∃ (k : Nat) (va : Value), k ≤ m ∧ u13 = .int .i64 k ∧ Blk wr (w4.heap.size + 1) #[.int .i64 0, .int .i64 0, .int .i64 0, .int .i64 0, va, .int .i64 (-r.most - 1)] 26 ∧ wr.ownsRow (w4.heap.size + 2) 3 1 va k ((negC r.coef k).map (Value.int .i64)) ∧ Below (w4.heap.size + 1) W6 wr ∧ w4.heap.size + 2 ≤ wr.heap.size)
    (fun u13 _ => (m - intOf u13).toNat)
  case atStart => exact ⟨0, _, by omega, rfl, ka, World.ownsRow_nil _ _ _ _, Below.refl _ _, by omega⟩
  case round =>
    obtain ⟨k, va, hk, rfl, hak, hown, hBk, hzk⟩ := hrel
    rename World => Wk
    have kpk := kp6.below hBk (by show w2.heap.size < _; omega)
    have krk := kr.below hBk (by show w4.heap.size < _; omega)
    have p0 := kpk.cell 0
    simp only [List.getElem?_toArray, List.getElem?_cons_zero] at p0
    by_cases hkm : k < m
    · have hkc : k < r.coef.length := by rw [hT.len]; exact hkm
      obtain ⟨cb, co, rfl, hcell⟩ := SliceOf.get HP4.out.2.2 (getD_some (0 : Int) hkc)
      have hcl := World.block_lt_of_cell? _ _ hcell
      simp only at hcl
      have hB4k : Below w4.heap.size w4 Wk := hB6.trans (hBk.mono (Nat.le_succ _))
      replace hcell := (hB4k.cell hcl).trans hcell
      have hyb := hT.co k
      have HN := Lib.hid (negC_succ r.coef k)
      generalize r.coef.getD k 0 = y at hcell hyb HN
      have ny : IntKind.i64.wrap (-y) = -y := wrapS _ (by omega) (by omega)
      have hkk : (0 : Int) ≤ (k : Int) ∧ (k : Int) < (r.coef.length : Int) := by omega
      have d0 : decide ((k : Int) < (m : Int)) = true := decide_eq_true (by omega)
      have d0' : decide (k < m) = true := decide_eq_true hkm
      have hBd : Below Wk.heap.size Wk Wk.drew := (Below.refl _ _).drew
      have hBa : Below Wk.heap.size Wk (Wk.alloc (.cells #[.int .i64 (-y)] 3)).drew := ((Below.refl _ _).alloc (Nat.le_refl _) _).drew
      have c4 := (krk.below hBd krk.lt).cell 4
      have c4a := (krk.below hBa krk.lt).cell 4
      have s4 := (hak.below hBd hak.lt).cell 4
      have s4a := (hak.below hBa hak.lt).cell 4
      simp only [List.getElem?_toArray, List.getElem?_cons_succ, List.getElem?_cons_zero] at c4 c4a s4 s4a
      have y1 := (hBd.cell (p := ⟨cb, co + k, none⟩) (by show cb < _; omega)).trans hcell
      have y2 := (hBa.cell (p := ⟨cb, co + k, none⟩) (by show cb < _; omega)).trans hcell
      have hwa := owned_below hown hBa
      have hnb : Blk (Wk.alloc (.cells #[.int .i64 (-y)] 3)).drew Wk.heap.size #[.int .i64 (-y)] 3 := Blk.new Wk _ 3
      have hha := hak.below hBa hak.lt
      have HQ := Lib.hid (And.intro hwa (And.intro hnb (And.intro hha hBa)))
      have HBk := Lib.hid hBk
      clear hown hak kpk krk hBd hBa hwa hnb hha hBk hB4k
      go_wp2_with fail
      go_region_law (refine step_appE E24 rfl (.tmp 52) (.tmp 59) rfl (w4.heap.size + 2) (m := 1) (c := 1) (p := ⟨Wk.heap.size, 0, none⟩) (news := [.int .i64 (-y)]) HQ.out.1 rfl rfl rfl (fun j u hj => by rw [addr_add, Nat.zero_add]; exact (HQ.out.2.1.cell j).trans (by rw [List.getElem?_toArray]; exact hj)) (fun u hu => by simp at hu; subst hu; rfl) (by unfold maxLen; omega) (by omega) (by simp; omega) ?_; intro v57 w57 ho57 hg57; have hh57 : Blk w57 (w4.heap.size + 1) #[.int .i64 0, .int .i64 0, .int .i64 0, .int .i64 0, va, .int .i64 (-r.most - 1)] 26 := (hg57.block _ HQ.out.2.2.1.lt (fun e => by have := (HQ.out.1.lt _ e.symm).1; omega)).trans HQ.out.2.2.1; have z57 := hh57.cell 4; simp only [List.getElem?_toArray, List.getElem?_cons_succ, List.getElem?_cons_zero] at z57; have f57 := hh57.frozen 4; obtain ⟨na, nc, rfl, hn1, hn2⟩ := owned_len ho57)
      all_goals (
        go_wp2_with fail
        go_roundw
        case rel =>
          have hBa' := HBk.out.trans (HQ.out.2.2.2.mono (by omega))
          have hB57 : Below (w4.heap.size + 1) W6 w57 := hBa'.grown hg57 (by have := HQ.out.2.2.2.size; omega) (fun j hj => by have := (HQ.out.1.lt _ hj).1; omega)
          refine ⟨k + 1, .slice na (k + 1) nc, by omega, by go_num, hh57.set 4 _, ?_, hB57.setCell (p := ⟨w4.heap.size + 1, 4, none⟩) (Nat.le_refl _) _, ?_⟩
          · rw [HN.out, List.map_append]
            exact ownsRow_set_ne ho57 (fun q hq e => by have := (ho57.lt _ hq).1; omega) 4 _
          · have := hg57.size; have := HQ.out.2.2.2.size; simp; omega
        case measure => simp [intOf]; omega)
    · obtain rfl : m = k := by omega
      have d0 : decide ((m : Int) < (m : Int)) = false := decide_eq_false (by omega)
      have d0' : decide (m < m) = false := decide_eq_false (by omega)
      obtain ⟨na, nc, rfl, hn1, hn2⟩ := owned_len hown
      have hOA : O3 Wk (.slice na m nc) (oppR r m).coef := by
        show Wk.ownsRow 0 3 1 _ (negC r.coef m).length _
        rw [negC_len]
        exact ownsRow_base hown (Nat.zero_le _)
      have hB24 : Below w2.heap.size w2 w4 := HP.out.2.1.trans (HP4.out.1.mono HP.out.2.1.size)
      have hT6 : T3 W6 Wk := fun j cs fz h => by
        have hj := (Array.getElem?_eq_some_iff.1 h).1
        by_cases e : j = w4.heap.size + 1
        · subst e
          have := (show W6.heap[w4.heap.size + 1]? = _ from ka).symm.trans h
          simp at this
        · exact (hBk.block j (by omega)).trans h
      have hT4 : T3 w4 Wk := (T3.of_below hB6).trans hT6
      have hT2 : T3 w2 Wk := (T3.of_below hB24).trans hT4
      have hB2k : Below w2.heap.size w2 Wk := (hB24.trans (hB6.mono hB24.size)).trans (hBk.mono (by omega))
      obtain ⟨cs, hc1', hc2'⟩ := HP.out.1.own
      have HC := Lib.hid (And.intro (owned_below hc1' hB2k) (And.intro (hc2'.imp (fun _ _ h => h.t hT2)) (And.intro (HO3.out.t hT4) hOA)))
      have HB2k := Lib.hid hB2k
      have HK := Lib.hid (And.intro kpk (And.intro krk hak))
      have HF : Hid (∀ X, Below Wk.heap.size Wk X → X.cell? ⟨w2.heap.size, 1, none⟩ = some (.slice ra rows.length rc) ∧ (∀ j u, ([.int .i64 r.kind, .int .i64 r.a, .int .i64 r.b, .int .i64 r.at_, .slice ca r.coef.length cc, .int .i64 r.most] : List Value)[j]? = some u → X.cell? ⟨w4.heap.size, j, none⟩ = some u) ∧ (∀ j u, ([.int .i64 0, .int .i64 0, .int .i64 0, .int .i64 0, .slice na m nc, .int .i64 (-r.most - 1)] : List Value)[j]? = some u → X.cell? ⟨w4.heap.size + 1, j, none⟩ = some u)) := fun X hX => ⟨(kpk.below hX kpk.lt).cell 1, fun j u hj => by rw [(krk.below hX krk.lt).cell j, List.getElem?_toArray]; exact hj, fun j u hj => by rw [(hak.below hX hak.lt).cell j, List.getElem?_toArray]; exact hj⟩
      have hkl := kpk.lt
      clear hown hOA hB24 hT6 hT4 hT2 hB2k hc1' hc2' kpk krk hak hBk
      go_upto_region 11 with fail
      go_cut [] from 62 to 70 (fun wx => ∃ qa qc, Blk wx w2.heap.size #[.int .i64 m, .slice qa (rows.length + 2) qc, .slice ga gn.length gc] 29 ∧ RowsAt wx (.slice qa (rows.length + 2) qc) (rows ++ [r, oppR r m]) ∧ Below w2.heap.size w2 wx)
      case first =>
        have HS := Lib.hid (cat_news HC.out.1 HC.out.2.1)
        have l1 : Below Wk.heap.size Wk Wk.drew := (Below.refl _ _).drew
        have l2 : Below Wk.heap.size Wk (Wk.alloc (.cells #[] 26)).drew := ((Below.refl _ _).alloc (Nat.le_refl _) _).drew
        have l3 : Below Wk.heap.size Wk (Wk.alloc (.cells #[.int .i64 r.kind, .int .i64 r.a, .int .i64 r.b, .int .i64 r.at_, .slice ca r.coef.length cc, .int .i64 r.most, .int .i64 0, .int .i64 0, .int .i64 0, .int .i64 0, .slice na m nc, .int .i64 (-r.most - 1)] 26)).drew := ((Below.refl _ _).alloc (Nat.le_refl _) _).drew
        have l4 : Below Wk.heap.size Wk ((Wk.alloc (.cells #[] 26)).alloc (.cells #[.int .i64 r.kind, .int .i64 r.a, .int .i64 r.b, .int .i64 r.at_, .slice ca r.coef.length cc, .int .i64 r.most, .int .i64 0, .int .i64 0, .int .i64 0, .int .i64 0, .slice na m nc, .int .i64 (-r.most - 1)] 26)).drew := (((Below.refl _ _).alloc (Nat.le_refl _) _).alloc (by simp) _).drew
        have l5 : Below Wk.heap.size Wk ((Wk.alloc (.cells #[.int .i64 r.kind, .int .i64 r.a, .int .i64 r.b, .int .i64 r.at_, .slice ca r.coef.length cc, .int .i64 r.most, .int .i64 0, .int .i64 0, .int .i64 0, .int .i64 0, .slice na m nc, .int .i64 (-r.most - 1)] 26)).alloc (.cells #[] 26)).drew := (((Below.refl _ _).alloc (Nat.le_refl _) _).alloc (by simp) _).drew
        have p1 := (HF.out _ l1).1
        have p2 := (HF.out _ l2).1
        have p3 := (HF.out _ l3).1
        have p4 := (HF.out _ l4).1
        have p5 := (HF.out _ l5).1
        have r0 := (HF.out _ l1).2.1 0 _ rfl
        have a0 := (HF.out _ l1).2.2 0 _ rfl
        have r1 := (HF.out _ l1).2.1 1 _ rfl
        have a1 := (HF.out _ l1).2.2 1 _ rfl
        have r2 := (HF.out _ l1).2.1 2 _ rfl
        have a2 := (HF.out _ l1).2.2 2 _ rfl
        have r3 := (HF.out _ l1).2.1 3 _ rfl
        have a3 := (HF.out _ l1).2.2 3 _ rfl
        have r4 := (HF.out _ l1).2.1 4 _ rfl
        have a4 := (HF.out _ l1).2.2 4 _ rfl
        have r5 := (HF.out _ l1).2.1 5 _ rfl
        have a5 := (HF.out _ l1).2.2 5 _ rfl
        have r0b := (HF.out _ l2).2.1 0 _ rfl
        have a0b := (HF.out _ l2).2.2 0 _ rfl
        have r1b := (HF.out _ l2).2.1 1 _ rfl
        have a1b := (HF.out _ l2).2.2 1 _ rfl
        have r2b := (HF.out _ l2).2.1 2 _ rfl
        have a2b := (HF.out _ l2).2.2 2 _ rfl
        have r3b := (HF.out _ l2).2.1 3 _ rfl
        have a3b := (HF.out _ l2).2.2 3 _ rfl
        have r4b := (HF.out _ l2).2.1 4 _ rfl
        have a4b := (HF.out _ l2).2.2 4 _ rfl
        have r5b := (HF.out _ l2).2.1 5 _ rfl
        have a5b := (HF.out _ l2).2.2 5 _ rfl
        have HL := Lib.hid (And.intro l2 (And.intro l4 l5))
        have b2 : Blk (Wk.alloc (.cells #[] 26)).drew Wk.heap.size #[] 26 := Blk.new Wk #[] 26
        have b4 : Blk ((Wk.alloc (.cells #[] 26)).alloc (.cells #[.int .i64 r.kind, .int .i64 r.a, .int .i64 r.b, .int .i64 r.at_, .slice ca r.coef.length cc, .int .i64 r.most, .int .i64 0, .int .i64 0, .int .i64 0, .int .i64 0, .slice na m nc, .int .i64 (-r.most - 1)] 26)).drew Wk.heap.size #[] 26 := (Blk.new Wk #[] 26).alloc _
        have n4 : Blk ((Wk.alloc (.cells #[] 26)).alloc (.cells #[.int .i64 r.kind, .int .i64 r.a, .int .i64 r.b, .int .i64 r.at_, .slice ca r.coef.length cc, .int .i64 r.most, .int .i64 0, .int .i64 0, .int .i64 0, .int .i64 0, .slice na m nc, .int .i64 (-r.most - 1)] 26)).drew (Wk.heap.size + 1) #[.int .i64 r.kind, .int .i64 r.a, .int .i64 r.b, .int .i64 r.at_, .slice ca r.coef.length cc, .int .i64 r.most, .int .i64 0, .int .i64 0, .int .i64 0, .int .i64 0, .slice na m nc, .int .i64 (-r.most - 1)] 26 := Blk.newAt (Wk.alloc (.cells #[] 26)) #[.int .i64 r.kind, .int .i64 r.a, .int .i64 r.b, .int .i64 r.at_, .slice ca r.coef.length cc, .int .i64 r.most, .int .i64 0, .int .i64 0, .int .i64 0, .int .i64 0, .slice na m nc, .int .i64 (-r.most - 1)] 26 (by simp)
        have b5 : Blk ((Wk.alloc (.cells #[.int .i64 r.kind, .int .i64 r.a, .int .i64 r.b, .int .i64 r.at_, .slice ca r.coef.length cc, .int .i64 r.most, .int .i64 0, .int .i64 0, .int .i64 0, .int .i64 0, .slice na m nc, .int .i64 (-r.most - 1)] 26)).alloc (.cells #[] 26)).drew (Wk.heap.size + 1) #[] 26 := Blk.newAt (Wk.alloc (.cells #[.int .i64 r.kind, .int .i64 r.a, .int .i64 r.b, .int .i64 r.at_, .slice ca r.coef.length cc, .int .i64 r.most, .int .i64 0, .int .i64 0, .int .i64 0, .int .i64 0, .slice na m nc, .int .i64 (-r.most - 1)] 26)) #[] 26 (by simp)
        have n5 : Blk ((Wk.alloc (.cells #[.int .i64 r.kind, .int .i64 r.a, .int .i64 r.b, .int .i64 r.at_, .slice ca r.coef.length cc, .int .i64 r.most, .int .i64 0, .int .i64 0, .int .i64 0, .int .i64 0, .slice na m nc, .int .i64 (-r.most - 1)] 26)).alloc (.cells #[] 26)).drew Wk.heap.size #[.int .i64 r.kind, .int .i64 r.a, .int .i64 r.b, .int .i64 r.at_, .slice ca r.coef.length cc, .int .i64 r.most, .int .i64 0, .int .i64 0, .int .i64 0, .int .i64 0, .slice na m nc, .int .i64 (-r.most - 1)] 26 := (Blk.new Wk #[.int .i64 r.kind, .int .i64 r.a, .int .i64 r.b, .int .i64 r.at_, .slice ca r.coef.length cc, .int .i64 r.most, .int .i64 0, .int .i64 0, .int .i64 0, .int .i64 0, .slice na m nc, .int .i64 (-r.most - 1)] 26).alloc _
        have HB := Lib.hid (And.intro b2 (And.intro b4 (And.intro n4 (And.intro b5 n5))))
        have HPF : Hid (∀ X, Below Wk.heap.size Wk X → Blk X w2.heap.size #[.int .i64 m, .slice ra rows.length rc, .slice ga gn.length gc] 29) := fun X hX => HK.out.1.below hX HK.out.1.lt
        have H1 : Hid (∀ u ∈ ([.int .i64 r.kind, .int .i64 r.a, .int .i64 r.b, .int .i64 r.at_, .slice ca r.coef.length cc, .int .i64 r.most, .int .i64 0, .int .i64 0, .int .i64 0, .int .i64 0, .slice na m nc, .int .i64 (-r.most - 1)] : List Value), u.oneCell' = true) := fun u hu => by simp at hu; rcases hu with rfl | rfl | rfl | rfl | rfl | rfl | rfl | rfl | rfl | rfl | rfl | rfl <;> rfl
        clear l1 l2 l3 l4 l5 b2 b4 n4 b5 n5 hm8
        go_region_law (first
          | ((with_reducible show (if _ then Oper.wp _ _ _ ((Wk.alloc (.cells #[] 26)).drew) _ _ else _)); refine cat_step_appT (w := (Wk.alloc (.cells #[] 26)).drew) (v := .slice (some ⟨Wk.heap.size, 0, none⟩) 0 0) (n := 0) (m := rows.length) (c := rc) (xs := []) (xa := ra) (news := cs) rfl (.tmp 62) (.tmp 64) rfl Wk.heap.size (cat_own_empty HB.out.1 (Nat.le_refl _)) rfl rfl HS.out.1 (HS.out.2.1 _ HL.out.1) HS.out.2.2.1 HS.out.2.2.2 (by omega) (by simp) ?_; intro v65 w65 ho65 hT65 hk65 hb65; rw [List.nil_append, Nat.zero_add] at ho65; have hT5 := (T3.of_below HL.out.1).trans hT65; have hB5 : Below Wk.heap.size Wk w65 := HL.out.1.trans hb65; have rr := (HF.out _ hB5).2.1; have aa := (HF.out _ hB5).2.2; have r0' := rr 0 _ rfl; have r1' := rr 1 _ rfl; have r2' := rr 2 _ rfl; have r3' := rr 3 _ rfl; have r4' := rr 4 _ rfl; have r5' := rr 5 _ rfl; have a0' := aa 0 _ rfl; have a1' := aa 1 _ rfl; have a2' := aa 2 _ rfl; have a3' := aa 3 _ rfl; have a4' := aa 4 _ rfl; have a5' := aa 5 _ rfl; clear rr aa; obtain ⟨sa, sc, rfl, hs1, hs2⟩ := owned_len ho65)
          | ((with_reducible show (if _ then Oper.wp _ _ _ (((Wk.alloc (.cells #[] 26)).alloc (.cells #[.int .i64 r.kind, .int .i64 r.a, .int .i64 r.b, .int .i64 r.at_, .slice ca r.coef.length cc, .int .i64 r.most, .int .i64 0, .int .i64 0, .int .i64 0, .int .i64 0, .slice na m nc, .int .i64 (-r.most - 1)] 26)).drew) _ _ else _)); refine cat_step_appT (w := ((Wk.alloc (.cells #[] 26)).alloc (.cells #[.int .i64 r.kind, .int .i64 r.a, .int .i64 r.b, .int .i64 r.at_, .slice ca r.coef.length cc, .int .i64 r.most, .int .i64 0, .int .i64 0, .int .i64 0, .int .i64 0, .slice na m nc, .int .i64 (-r.most - 1)] 26)).drew) (v := .slice (some ⟨Wk.heap.size, 0, none⟩) 0 0) (n := 0) (m := rows.length) (c := rc) (xs := []) (xa := ra) (news := cs) rfl (.tmp 62) (.tmp 64) rfl Wk.heap.size (cat_own_empty HB.out.2.1 (Nat.le_refl _)) rfl rfl HS.out.1 (HS.out.2.1 _ HL.out.2.1) HS.out.2.2.1 HS.out.2.2.2 (by omega) (by simp <;> omega) ?_; intro v65 w65 ho65 hT65 hk65 hb65; rw [List.nil_append, Nat.zero_add] at ho65; have hT5 := (T3.of_below HL.out.2.1).trans hT65; have hB5 : Below Wk.heap.size Wk w65 := HL.out.2.1.trans hb65; have hnb : Blk w65 (Wk.heap.size + 1) #[.int .i64 r.kind, .int .i64 r.a, .int .i64 r.b, .int .i64 r.at_, .slice ca r.coef.length cc, .int .i64 r.most, .int .i64 0, .int .i64 0, .int .i64 0, .int .i64 0, .slice na m nc, .int .i64 (-r.most - 1)] 26 := (hk65 _ HB.out.2.2.1.lt (fun e => Nat.succ_ne_self _ (Option.some.inj e))).trans HB.out.2.2.1; obtain ⟨sa, sc, rfl, hs1, hs2⟩ := owned_len ho65)
          | ((with_reducible show (if _ then Oper.wp _ _ _ (((Wk.alloc (.cells #[.int .i64 r.kind, .int .i64 r.a, .int .i64 r.b, .int .i64 r.at_, .slice ca r.coef.length cc, .int .i64 r.most, .int .i64 0, .int .i64 0, .int .i64 0, .int .i64 0, .slice na m nc, .int .i64 (-r.most - 1)] 26)).alloc (.cells #[] 26)).drew) _ _ else _)); refine cat_step_appT (w := ((Wk.alloc (.cells #[.int .i64 r.kind, .int .i64 r.a, .int .i64 r.b, .int .i64 r.at_, .slice ca r.coef.length cc, .int .i64 r.most, .int .i64 0, .int .i64 0, .int .i64 0, .int .i64 0, .slice na m nc, .int .i64 (-r.most - 1)] 26)).alloc (.cells #[] 26)).drew) (v := .slice (some ⟨Wk.heap.size + 1, 0, none⟩) 0 0) (n := 0) (m := rows.length) (c := rc) (xs := []) (xa := ra) (news := cs) rfl (.tmp 62) (.tmp 64) rfl Wk.heap.size (cat_own_empty HB.out.2.2.2.1 (Nat.le_succ _)) rfl rfl HS.out.1 (HS.out.2.1 _ HL.out.2.2) HS.out.2.2.1 HS.out.2.2.2 (by omega) (by simp <;> omega) ?_; intro v65 w65 ho65 hT65 hk65 hb65; rw [List.nil_append, Nat.zero_add] at ho65; have hT5 := (T3.of_below HL.out.2.2).trans hT65; have hB5 : Below Wk.heap.size Wk w65 := HL.out.2.2.trans hb65; have hnb : Blk w65 Wk.heap.size #[.int .i64 r.kind, .int .i64 r.a, .int .i64 r.b, .int .i64 r.at_, .slice ca r.coef.length cc, .int .i64 r.most, .int .i64 0, .int .i64 0, .int .i64 0, .int .i64 0, .slice na m nc, .int .i64 (-r.most - 1)] 26 := (hk65 _ HB.out.2.2.2.2.lt (fun e => Nat.succ_ne_self _ (Option.some.inj e).symm)).trans HB.out.2.2.2.2; obtain ⟨sa, sc, rfl, hs1, hs2⟩ := owned_len ho65)
          | ((with_reducible show (if _ then Oper.wp _ _ _ (w65.alloc (.cells #[.int .i64 r.kind, .int .i64 r.a, .int .i64 r.b, .int .i64 r.at_, .slice ca r.coef.length cc, .int .i64 r.most, .int .i64 0, .int .i64 0, .int .i64 0, .int .i64 0, .slice na m nc, .int .i64 (-r.most - 1)] 26)) _ _ else _)); refine cat_step_appT (w := w65.alloc (.cells #[.int .i64 r.kind, .int .i64 r.a, .int .i64 r.b, .int .i64 r.at_, .slice ca r.coef.length cc, .int .i64 r.most, .int .i64 0, .int .i64 0, .int .i64 0, .int .i64 0, .slice na m nc, .int .i64 (-r.most - 1)] 26)) (v := .slice sa rows.length sc) (n := rows.length) (m := 2) (c := 2) (xs := cs) (xa := some ⟨w65.heap.size, 0, none⟩) (news := [.int .i64 r.kind, .int .i64 r.a, .int .i64 r.b, .int .i64 r.at_, .slice ca r.coef.length cc, .int .i64 r.most, .int .i64 0, .int .i64 0, .int .i64 0, .int .i64 0, .slice na m nc, .int .i64 (-r.most - 1)]) rfl (.tmp 65) (.tmp 68) rfl Wk.heap.size (owned_below ho65 ((Below.refl _ _).alloc (Nat.le_refl _) _)) rfl rfl rfl (fun p hp j u hj => by cases hp; rw [addr_add, Nat.zero_add]; exact ((Blk.new w65 #[.int .i64 r.kind, .int .i64 r.a, .int .i64 r.b, .int .i64 r.at_, .slice ca r.coef.length cc, .int .i64 r.most, .int .i64 0, .int .i64 0, .int .i64 0, .int .i64 0, .slice na m nc, .int .i64 (-r.most - 1)] 26).cell j).trans (by rw [List.getElem?_toArray]; exact hj)) (fun e => by cases e) H1.out (by omega) (by have := hB5.size; simp <;> omega) ?_; intro v69 w69 ho69 hT69 hk69 hb69; have hT6 := (hT5.trans (T3.of_below ((Below.refl _ _).alloc (Nat.le_refl _) _))).trans hT69; have hB6 : Below Wk.heap.size Wk w69 := (hB5.alloc hB5.size _).trans hb69; have hz := HPF.out _ hB6; have z1 := hz.cell 1; simp only [List.getElem?_toArray, List.getElem?_cons_succ, List.getElem?_cons_zero] at z1; have zf := hz.frozen 1; obtain ⟨ta, tc', rfl, ht1, ht2⟩ := owned_len ho69)
          | ((with_reducible show (if _ then Oper.wp _ _ _ (w65) _ _ else _)); refine cat_step_appT (w := w65) (v := .slice sa rows.length sc) (n := rows.length) (m := 2) (c := 2) (xs := cs) (xa := some ⟨Wk.heap.size + 1, 0, none⟩) (news := [.int .i64 r.kind, .int .i64 r.a, .int .i64 r.b, .int .i64 r.at_, .slice ca r.coef.length cc, .int .i64 r.most, .int .i64 0, .int .i64 0, .int .i64 0, .int .i64 0, .slice na m nc, .int .i64 (-r.most - 1)]) rfl (.tmp 65) (.tmp 68) rfl Wk.heap.size ho65 rfl rfl rfl (fun p hp j u hj => by cases hp; rw [addr_add, Nat.zero_add]; exact (hnb.cell j).trans (by rw [List.getElem?_toArray]; exact hj)) (fun e => by cases e) H1.out (by omega) hB5.size ?_; intro v69 w69 ho69 hT69 hk69 hb69; have hT6 := hT5.trans hT69; have hB6 : Below Wk.heap.size Wk w69 := hB5.trans hb69; have hz := HPF.out _ hB6; have z1 := hz.cell 1; simp only [List.getElem?_toArray, List.getElem?_cons_succ, List.getElem?_cons_zero] at z1; have zf := hz.frozen 1; obtain ⟨ta, tc', rfl, ht1, ht2⟩ := owned_len ho69)
          | ((with_reducible show (if _ then Oper.wp _ _ _ (w65) _ _ else _)); refine cat_step_appT (w := w65) (v := .slice sa rows.length sc) (n := rows.length) (m := 2) (c := 2) (xs := cs) (xa := some ⟨Wk.heap.size, 0, none⟩) (news := [.int .i64 r.kind, .int .i64 r.a, .int .i64 r.b, .int .i64 r.at_, .slice ca r.coef.length cc, .int .i64 r.most, .int .i64 0, .int .i64 0, .int .i64 0, .int .i64 0, .slice na m nc, .int .i64 (-r.most - 1)]) rfl (.tmp 65) (.tmp 68) rfl Wk.heap.size ho65 rfl rfl rfl (fun p hp j u hj => by cases hp; rw [addr_add, Nat.zero_add]; exact (hnb.cell j).trans (by rw [List.getElem?_toArray]; exact hj)) (fun e => by cases e) H1.out (by omega) hB5.size ?_; intro v69 w69 ho69 hT69 hk69 hb69; have hT6 := hT5.trans hT69; have hB6 : Below Wk.heap.size Wk w69 := hB5.trans hb69; have hz := HPF.out _ hB6; have z1 := hz.cell 1; simp only [List.getElem?_toArray, List.getElem?_cons_succ, List.getElem?_cons_zero] at z1; have zf := hz.frozen 1; obtain ⟨ta, tc', rfl, ht1, ht2⟩ := owned_len ho69))
        all_goals (
          go_wp2_with fail
          go_meet
          have t57 : T3 w69 (w69.setCell ⟨w2.heap.size, 1, none⟩ (.slice ta (rows.length + 2) tc')) := T3.set hz (by decide) 1 _
          have hT7 := hT6.trans t57
          have hown := ownsRow_setCell_below (a := ⟨w2.heap.size, 1, none⟩) ho69 hkl (.slice ta (rows.length + 2) tc')
          have hfl : FlatC 6 RowO (w69.setCell ⟨w2.heap.size, 1, none⟩ (.slice ta (rows.length + 2) tc')) ([.int .i64 r.kind, .int .i64 r.a, .int .i64 r.b, .int .i64 r.at_, .slice ca r.coef.length cc, .int .i64 r.most, .int .i64 0, .int .i64 0, .int .i64 0, .int .i64 0, .slice na m nc, .int .i64 (-r.most - 1)] : List Value) [r, oppR r m] := ⟨[.int .i64 r.kind, .int .i64 r.a, .int .i64 r.b, .int .i64 r.at_, .slice ca r.coef.length cc, .int .i64 r.most], [.int .i64 0, .int .i64 0, .int .i64 0, .int .i64 0, .slice na m nc, .int .i64 (-r.most - 1)], rfl, rfl, ⟨_, rfl, HC.out.2.2.1.t hT7⟩, ⟨[.int .i64 0, .int .i64 0, .int .i64 0, .int .i64 0, .slice na m nc, .int .i64 (-r.most - 1)], [], rfl, rfl, ⟨_, rfl, HC.out.2.2.2.t hT7⟩, rfl⟩⟩
          have hrv : RowsAt (w69.setCell ⟨w2.heap.size, 1, none⟩ (.slice ta (rows.length + 2) tc')) (.slice ta (rows ++ [r, oppR r m]).length tc') (rows ++ [r, oppR r m]) := flat_view (by rw [List.length_append]; exact hown) ((FlatC.app (HC.out.2.1.imp (fun _ _ h => h.t hT7)) hfl).to (fun _ _ h => h.row))
          rw [List.length_append] at hrv
          exact ⟨ta, tc', hz.set 1 _, hrv, (HB2k.out.trans (hB6.mono HB2k.out.size)).setCell (p := ⟨w2.heap.size, 1, none⟩) (Nat.le_refl _) _⟩)
      case rest =>
        rename World => wx
        obtain ⟨qa, qc, hkq, hrq, hBx⟩ := hcut
        obtain ⟨vr', vg', e, -, hvg⟩ := HP.out.1.prog
        cases e
        simp only at hvg
        have hgx := hvg.below hBx
        have hwx : Below w.heap.size w wx := HBW.out.trans (hBx.mono HBW.out.size)
        have q0 := hkq.cell 0
        have q1' := hkq.cell 1
        have q2 := hkq.cell 2
        simp only [List.getElem?_toArray, List.getElem?_cons_succ, List.getElem?_cons_zero] at q0 q1' q2
        have hP : ProgV wx (.agg #[.int .i64 m, .slice qa (rows.length + 2) qc, .slice ga gn.length gc]) (usedP m rows gn r) := ⟨_, _, rfl, hrq, hgx⟩
        have hx := solve_all _ (usedP m rows gn r) wx hP
        rw [HSV.out.1, HSV.out.2.1] at hx
        have HX := Lib.hid (And.intro hP (And.intro hwx hkq))
        clear hP hwx hrq hBx hvg hgx HC HK HF HB2k HP4 HC6 HO3
        go_wp2_with fail
        refine hx.mono ?_
        rintro e w7 ⟨v9, rfl, ⟨vp, rfl, hst⟩, hB7⟩
        obtain ⟨pa, pc, rfl, -, -⟩ := hst.len
        have hlq := hkq.lt
        have hB8 : Below wx.heap.size wx (w7.alloc (.cells #[.bool false, .int .i64 0, .int .i64 0, .slice pa pf.length pc] 37)) := hB7.trans ((Below.refl w7.heap.size w7).alloc (Nat.le_refl _) _ |>.mono hB7.size)
        have kq8 := hkq.below hB8 hlq
        have ks8 := Blk.new w7 #[.bool false, .int .i64 0, .int .i64 0, .slice pa pf.length pc] 37
        have hst8 := StepsAt.below hst ((Below.refl w7.heap.size w7).alloc (Nat.le_refl _) (.cells #[.bool false, .int .i64 0, .int .i64 0, .slice pa pf.length pc] 37))
        have hP8 : ProgV (w7.alloc (.cells #[.bool false, .int .i64 0, .int .i64 0, .slice pa pf.length pc] 37)) (.agg #[.int .i64 m, .slice qa (rows.length + 2) qc, .slice ga gn.length gc]) (usedP m rows gn r) := HX.out.1.below hB8
        obtain ⟨W8, hW8⟩ : ∃ W8, w7.alloc (.cells #[.bool false, .int .i64 0, .int .i64 0, .slice pa pf.length pc] 37) = W8 := ⟨_, rfl⟩
        have h8z : W8.heap.size = w7.heap.size + 1 := by rw [← hW8]; simp
        rw [hW8] at hB8 kq8 ks8 hst8 hP8
        have hw8 : Below w.heap.size w W8 := HX.out.2.1.trans (hB8.mono HX.out.2.1.size)
        have y0 := kq8.cell 0
        have y1 := kq8.cell 1
        have y2 := kq8.cell 2
        have s0 := ks8.cell 0
        have s3 := ks8.cell 3
        simp only [List.getElem?_toArray, List.getElem?_cons_succ, List.getElem?_cons_zero] at y0 y1 y2 s0 s3
        have hr8 := prefutes_any _ _ (usedP m rows gn r) pf W8 hP8 hst8
        rw [HSV.out.2.2.1] at hr8
        have HX8 := Lib.hid (And.intro hP8 (And.intro hst8 (And.intro kq8 (And.intro ks8 hw8))))
        clear hx hB7 hst hkq q0 q1' q2 hP8 hst8 kq8 ks8 hw8 hB8
        go_wp2_with fail
        clear hW8
        refine hr8.mono ?_
        rintro e w9 ⟨rfl, hB9⟩
        have kq9 := HX8.out.2.2.1.below hB9 HX8.out.2.2.1.lt
        have ks9 := HX8.out.2.2.2.1.below hB9 HX8.out.2.2.2.1.lt
        have y0 := kq9.cell 0
        have y1 := kq9.cell 1
        have y2 := kq9.cell 2
        have s3 := ks9.cell 3
        simp only [List.getElem?_toArray, List.getElem?_cons_succ, List.getElem?_cons_zero] at y0 y1 y2 s3
        have hr9 := rows_any _ _ (usedP m rows gn r) pf w9 (HX8.out.1.below hB9) (StepsAt.below HX8.out.2.1 hB9) (by show (rows ++ [r, oppR r m]).length ≤ 1000; simp; omega)
        rw [HSV.out.2.2.2.1] at hr9
        clear hr8 s0
        go_wp2_with fail
        refine hr9.mono ?_
        rintro e w10 ⟨vu, rfl, hiu, hB10⟩
        have hB810 : Below W8.heap.size W8 w10 := hB9.trans (hB10.mono hB9.size)
        have hul : SlicesLen vu (selN b (rows.length + 2)).length := by
          have := hiu.len
          rw [intL_len] at this
          exact this
        obtain ⟨ua, uc, rfl, hu1, hu2⟩ := hul
        unfold maxLen at hu2
        have HIU := Lib.hid hiu
        have HB10 := Lib.hid hB810
        have hlA : ∀ (c : Nat → Bool) n, (selN c n).length ≤ n := fun c n => by
          have : (selN c n).length ≤ (List.range n).length := List.length_filter_le _ _
          rwa [List.length_range] at this
        have HLA := Lib.hid hlA
        have hLN := hlA b (rows.length + 2)
        have HK10 := Lib.hid (And.intro (HX8.out.2.2.1.below hB810 HX8.out.2.2.1.lt) (HX8.out.2.2.2.1.below hB810 HX8.out.2.2.2.1.lt))
        clear hr9 y0 y1 y2 s3 kq9 ks9 hB9 hB10 hB810 hiu hlA
        go_wp2_with fail
        go_loopw [17, 18, 19] (fun u17 u18 u19 wr => ∃ i : Nat, i ≤ rows.length + 2 ∧ u18 = .int .i64 ((selN b i).length : Nat) ∧ u19 = .int .i64 i ∧ wr.ownsRow w10.heap.size 3 1 u17 (selN (fun j => !b j) i).length ((intL (selN (fun j => !b j) i)).map (Value.int .i64)) ∧ Below w10.heap.size w10 wr)
          (fun u17 u18 u19 _ => (rows.length + 2 - intOf u19).toNat)
        case atStart => exact ⟨0, by omega, rfl, rfl, World.ownsRow_nil _ _ _ _, Below.refl _ _⟩
        case round =>
          obtain ⟨i, hi, rfl, rfl, hown, hBk⟩ := hrel
          rename World => Wi
          have kqi := HK10.out.1.below hBk HK10.out.1.lt
          have y1 := kqi.cell 1
          simp only [List.getElem?_toArray, List.getElem?_cons_succ, List.getElem?_cons_zero] at y1
          by_cases hin : i < rows.length + 2
          · have d0 : decide ((i : Int) < ((rows.length + 2 : Nat) : Int)) = true := decide_eq_true (by omega)
            have d0' : decide (i < rows.length + 2) = true := decide_eq_true hin
            have d0'' : decide ((i : Int) < (rows.length : Int) + 2) = true := decide_eq_true (by omega)
            have hAi := HLA.out b i
            have hOi := HLA.out (fun j => !b j) i
            have HS1 := Lib.hid (selN_succ b i)
            have HS2 := Lib.hid (selN_succ (fun j => !b j) i)
            have wi : IntKind.i64.wrap ((i : Int) + 1) = (i : Int) + 1 := wrapS _ (by omega) (by omega)
            cases hbi : b i with
            | true =>
              have hat := selN_at hbi _ hin
              have hAL : (selN b i).length < (selN b (rows.length + 2)).length := by
                refine Classical.byContradiction fun hc => ?_
                rw [List.getElem?_eq_none (by omega)] at hat; cases hat
              obtain ⟨ub, uo, rfl, hc⟩ := SliceOf.get HIU.out (show (intL (selN b (rows.length + 2)))[(selN b i).length]? = some (i : Int) from by unfold intL; rw [List.getElem?_map, hat]; rfl)
              replace hc := (hBk.cell (World.block_lt_of_cell? _ _ hc)).trans hc
              rw [hbi] at HS1 HS2
              have HO := Lib.hid hown
              have HBk := Lib.hid hBk
              clear hat hown hBk
              generalize hA : (selN b i).length = A at *
              generalize hL : (selN b (rows.length + 2)).length = L at *
              have d1 : decide ((A : Int) < (L : Int)) = true := decide_eq_true (by omega)
              have d1' : decide (A < L) = true := decide_eq_true hAL
              have d2 : ((i : Int) == (i : Int)) = true := beq_self_eq_true _
              have hAb : (0 : Int) ≤ (A : Int) ∧ (A : Int) < (L : Int) := by omega
              have wA : IntKind.i64.wrap ((A : Int) + 1) = (A : Int) + 1 := wrapS _ (by omega) (by omega)
              go_wp2_with fail
              go_roundw
              case rel =>
                refine ⟨i + 1, by omega, ?_, by go_num, ?_, HBk.out⟩
                · rw [HS1.out, List.length_append, hA]; go_num
                · rw [HS2.out]; simpa using HO.out
              case measure => simp [intOf]; omega
            | false =>
              have hnot := selN_not hbi _ hin
              rw [hbi] at HS1 HS2
              have HBk := Lib.hid hBk
              by_cases hAL : (selN b i).length < (selN b (rows.length + 2)).length
              · have hat := List.getElem?_eq_getElem hAL
                have hji := hnot _ hat
                generalize (selN b (rows.length + 2))[(selN b i).length] = j at hat hji
                obtain ⟨ub, uo, rfl, hc⟩ := SliceOf.get HIU.out (show (intL (selN b (rows.length + 2)))[(selN b i).length]? = some (j : Int) from by unfold intL; rw [List.getElem?_map, hat]; rfl)
                replace hc := (hBk.cell (World.block_lt_of_cell? _ _ hc)).trans hc
                clear hat hnot
                generalize hA : (selN b i).length = A at *
                generalize hL : (selN b (rows.length + 2)).length = L at *
                generalize hO : (selN (fun j => !b j) i).length = O at *
                have d1 : decide ((A : Int) < (L : Int)) = true := decide_eq_true (by omega)
                have d1' : decide (A < L) = true := decide_eq_true hAL
                have d2 : ((j : Int) == (i : Int)) = false := beq_eq_false_iff_ne.2 (by omega)
                have hAb : (0 : Int) ≤ (A : Int) ∧ (A : Int) < (L : Int) := by omega
                go_wp2_with (at_builtin; refine wpList_push E24 rfl _ _ rfl w10.heap.size hown rfl rfl rfl (by unfold maxLen; omega) (by omega) hBk.size ?_; intro v' w3 hown' hgrow hb1)
                go_roundw
                case rel =>
                  refine ⟨i + 1, by omega, ?_, by go_num, ?_, HBk.out.trans hb1⟩
                  · rw [HS1.out, List.length_append, hA]; simp
                  · rw [HS2.out]; unfold intL at hown' ⊢; simpa [hO] using hown'
                case measure => simp [intOf]; omega
              · clear hnot
                generalize hA : (selN b i).length = A at *
                generalize hL : (selN b (rows.length + 2)).length = L at *
                generalize hO : (selN (fun j => !b j) i).length = O at *
                have d1 : decide ((A : Int) < (L : Int)) = false := decide_eq_false (by omega)
                have d1' : decide (A < L) = false := decide_eq_false (by omega)
                go_wp2_with (at_builtin; refine wpList_push E24 rfl _ _ rfl w10.heap.size hown rfl rfl rfl (by unfold maxLen; omega) (by omega) hBk.size ?_; intro v' w3 hown' hgrow hb1)
                go_roundw
                case rel =>
                  refine ⟨i + 1, by omega, ?_, by go_num, ?_, HBk.out.trans hb1⟩
                  · rw [HS1.out, List.length_append, hA]; simp
                  · rw [HS2.out]; unfold intL at hown' ⊢; simpa [hO] using hown'
                case measure => simp [intOf]; omega
          · obtain rfl : rows.length + 2 = i := by omega
            have d0 : decide (((rows.length + 2 : Nat) : Int) < ((rows.length + 2 : Nat) : Int)) = false := decide_eq_false (by omega)
            have d0' : decide (rows.length + 2 < rows.length + 2) = false := decide_eq_false (by omega)
            have d0'' : decide ((rows.length : Int) + 2 < (rows.length : Int) + 2) = false := decide_eq_false (by omega)
            obtain ⟨oa, oc, rfl, ho1, ho2⟩ := owned_len hown
            have hio : IntsAt Wi (.slice oa (selN (fun j => !b j) (rows.length + 2)).length oc) (intL (selN (fun j => !b j) (rows.length + 2))) := owned_slice (by rw [intL_len]; exact hown)
            have hOi := HLA.out (fun j => !b j) (rows.length + 2)
            have hB8i : Below W8.heap.size W8 Wi := HB10.out.trans (hBk.mono HB10.out.size)
            have hPi := HX8.out.1.below hB8i
            have ksi := HK10.out.2.below hBk HK10.out.2.lt
            have y0 := kqi.cell 0
            have y2 := kqi.cell 2
            simp only [List.getElem?_toArray, List.getElem?_cons_succ, List.getElem?_cons_zero] at y0 y2
            have hwo := without_all _ _ (usedP m rows gn r) (intL (selN (fun j => !b j) (rows.length + 2))) Wi hPi hio (by rw [intL_len]; omega) (by show (rows ++ [r, oppR r m]).length ≤ _; simp; omega)
            obtain ⟨q, hq, hql, hqe, hqa⟩ := HSV.out.2.2.2.2.2
            rw [hq, HSV.out.2.2.2.2.1] at hwo
            have d5 : ((q.rows.length : Int) == ((selN b (rows.length + 2)).length : Int)) = true := by rw [hql]; exact beq_self_eq_true _
            have HQL := Lib.hid hql
            clear hql
            have HI := Lib.hid (And.intro kqi (And.intro hPi (HX8.out.2.2.2.2.trans (hB8i.mono HX8.out.2.2.2.2.size))))
            clear hown hBk hio hB8i hPi ksi
            go_wp2_with fail
            refine hwo.mono ?_
            rintro e w12 ⟨v12, rfl, ⟨vqr, vqg, rfl, hqr, hqg⟩, hB12⟩
            obtain ⟨qra, qrc, rfl, hq1, hq2⟩ := (show SlicesLen vqr q.rows.length from hqr.len)
            obtain ⟨qga, qgc, rfl, hq3, hq4⟩ := hqg.len
            have hA12 : Below w12.heap.size w12 (w12.alloc (.cells #[.int .i64 q.vars, .slice qra q.rows.length qrc, .slice qga q.gain.length qgc] 29)) := (Below.refl _ _).alloc (Nat.le_refl _) _
            have kQ := Blk.new w12 #[.int .i64 q.vars, .slice qra q.rows.length qrc, .slice qga q.gain.length qgc] 29
            have hall := all_all _ q _ ⟨_, _, rfl, hqr.below hA12, hqg.below hA12⟩
            rw [hqe, hqa] at hall
            have hB13 := hB12.trans (hA12.mono hB12.size)
            have kq13 := HI.out.1.below hB13 HI.out.1.lt
            clear hwo y0 y1 y2 hqr hqg hA12
            go_wp2_with fail
            refine hall.mono ?_
            rintro e w14 ⟨v14, rfl, hi14, hB14⟩
            obtain ⟨ea, ec, rfl, -, -⟩ := (show SlicesLen v14 0 from hi14.len)
            have kQ14 := kQ.below hB14 kQ.lt
            have kq14 := kq13.below hB14 kq13.lt
            have hBi14 := hB13.trans (hB14.mono hB13.size)
            have y1 := kq14.cell 1
            simp only [List.getElem?_toArray, List.getElem?_cons_succ, List.getElem?_cons_zero] at y1
            have wa : IntKind.i64.wrap (((rows.length + 2 : Nat) : Int) - 2) = (rows.length : Int) := by rw [IntKind.wrap_i64]; omega
            have wb : IntKind.i64.wrap (((rows.length + 2 : Nat) : Int) - 1) = (rows.length : Int) + 1 := by rw [IntKind.wrap_i64]; omega
            have wa' : IntKind.i64.wrap ((rows.length : Int) + 2 - 2) = (rows.length : Int) := by rw [IntKind.wrap_i64]; omega
            have wb' : IntKind.i64.wrap ((rows.length : Int) + 2 - 1) = (rows.length : Int) + 1 := by rw [IntKind.wrap_i64]; omega
            clear hall hB14 hB13 hB12 kQ kq13
            go_wp2_with fail
            refine (leaf57 _ 2 2 _ _ rfl).mono ?_
            rintro e w15 ⟨rfl, hB15⟩
            have hA14 : Below w14.heap.size w14 (w14.alloc (.cells #[.int .i64 rows.length, .int .i64 1, .int .i64 ((rows.length : Int) + 1), .int .i64 1] 82)) := (Below.refl _ _).alloc (Nat.le_refl _) _
            have hBt := hA14.trans (hB15.mono hA14.size)
            have kW := (Blk.new w14 #[.int .i64 rows.length, .int .i64 1, .int .i64 ((rows.length : Int) + 1), .int .i64 1] 82).below hB15 (by simp)
            have hAf : Below w15.heap.size w15 (w15.alloc (.cells #[.int .i64 (-1), .int .i64 0, .int .i64 0, .slice (some ⟨w14.heap.size, 0, none⟩) 2 2] 80)) := (Below.refl _ _).alloc (Nat.le_refl _) _
            have kS := Blk.new w15 #[.int .i64 (-1), .int .i64 0, .int .i64 0, .slice (some ⟨w14.heap.size, 0, none⟩) 2 2] 80
            have hBf := hBt.trans (hAf.mono hBt.size)
            have kWf := kW.below hAf kW.lt
            have hwt : WtsAt (w15.alloc (.cells #[.int .i64 (-1), .int .i64 0, .int .i64 0, .slice (some ⟨w14.heap.size, 0, none⟩) 2 2] 80)) (.slice (some ⟨w14.heap.size, 0, none⟩) 2 2) [⟨(rows.length : Int), 1⟩, ⟨(rows.length : Int) + 1, 1⟩] := ⟨_, 2, rfl, Nat.le_refl _, by decide, fun _ => ⟨w14.heap.size, 0, rfl, fun j y hj => by
              match j, hj with
              | 0, hj =>
                cases hj
                refine ⟨_, rfl, fun i u hi => ?_, rfl⟩
                rw [Nat.zero_add, kWf.cell, List.getElem?_toArray]
                match i, hi with
                | 0, hi => exact hi
                | 1, hi => exact hi
                | i + 2, hi => simp at hi
              | 1, hj =>
                cases hj
                refine ⟨_, rfl, fun i u hi => ?_, rfl⟩
                rw [Nat.zero_add, kWf.cell, List.getElem?_toArray]
                match i, hi with
                | 0, hi => exact hi
                | 1, hi => exact hi
                | i + 2, hi => simp at hi
              | j + 2, hj => simp at hj⟩⟩
            have hsh : StepsAt (w15.alloc (.cells #[.int .i64 (-1), .int .i64 0, .int .i64 0, .slice (some ⟨w14.heap.size, 0, none⟩) 2 2] 80)) (.slice (some ⟨w15.heap.size, 0, none⟩) 1 1) (shortL rows.length) := ⟨_, 1, rfl, Nat.le_refl _, by decide, fun _ => ⟨w15.heap.size, 0, rfl, fun j y hj => by
              match j, hj with
              | 0, hj =>
                cases hj
                refine ⟨_, rfl, fun i u hi => ?_, ⟨_, rfl, hwt⟩⟩
                rw [Nat.zero_add, kS.cell, List.getElem?_toArray]
                match i, hi with
                | 0, hi => exact hi
                | 1, hi => exact hi
                | 2, hi => exact hi
                | 3, hi => exact hi
                | i + 4, hi => simp at hi
              | j + 1, hj => simp [shortL] at hj⟩⟩
            have kQf := kQ14.below hBf kQ14.lt
            have kqf := kq14.below hBf kq14.lt
            have u1 := kQf.cell 1
            have y0 := kqf.cell 0
            have y1 := kqf.cell 1
            have y2 := kqf.cell 2
            simp only [List.getElem?_toArray, List.getElem?_cons_succ, List.getElem?_cons_zero] at u1 y0 y1 y2
            have hBall := hBi14.trans (hBf.mono hBi14.size)
            have hrf := prefutes_any _ _ (usedP m rows gn r) (shortL rows.length) _ (HI.out.2.1.below hBall) hsh
            rw [short_refutes hv2] at hrf
            have HE := Lib.hid (HI.out.2.2.trans (hBall.mono HI.out.2.2.size))
            clear hBall hBf hBt hA14 hAf kW kS kWf hwt hsh kQf kqf kQ14 kq14 hBi14 hB15
            go_wp2_with fail
            refine hrf.mono ?_
            rintro e w16 ⟨rfl, hB16⟩
            go_wp2
            go_ret
            exact ⟨rfl, HE.out.trans (hB16.mono HE.out.size)⟩
theorem used_all (vars : Int) (vx : Value) (x : List X3) (gain : List Int) (first : List Int) (w : World) (hv : InR vars) (hx : XsAt w vx x) (hxr : ∀ y ∈ x, XR y) (hg : gain.length = 8) (hgr : ∀ y ∈ gain, InR y) (hf : first.length = 3) (hfr : ∀ y ∈ first, InR y) :
    Calls Try.prog 15 #[.int .i64 vars, vx, .agg (gain.map (Value.int .i64)).toArray, .agg (first.map (Value.int .i64)).toArray] w fun e w' => e = .returned (.bool true) ∧ Below w.heap.size w w' := by
  obtain ⟨m, hG⟩ := goodP vars x gain
  obtain ⟨f0, f1, f2, hfe⟩ : ∃ f0 f1 f2, first = [f0, f1, f2] := by
    match first, hf with
    | [f0, f1, f2], _ => exact ⟨_, _, _, rfl⟩
  have hXR : ∀ y ∈ [(⟨f0, f1, f2⟩ : X3)], XR y := fun y hy => by
    simp at hy
    subst hy
    rw [hfe] at hfr
    exact ⟨hfr _ (by simp), hfr _ (by simp), hfr _ (by simp)⟩
  have hmade := Lib.hid (fun W (hW : Below w.heap.size w W) => made_own vars vx x gain W hv (hx.below hW) hxr hg hgr)
  have hone : Hid (∀ W vz, Below w.heap.size w W → XsAt W vz [⟨f0, f1, f2⟩] → Calls Try.prog 17 #[.int .i64 vars, vz, .agg (gain.map (Value.int .i64)).toArray] W fun e w' => ∃ oB vk vg, e = .returned (.agg #[.int .i64 (madeP vars x gain).vars, vk, vg]) ∧ OutP oB w' (madeP vars x gain).vars vk vg [rowM 0 ⟨f0, f1, f2⟩ (pickI vars 9).toNat] (madeP vars x gain).gain ∧ W.heap.size ≤ oB ∧ Below W.heap.size W w') :=
    fun W vz _ hX => made_own vars vz [⟨f0, f1, f2⟩] gain W hv hX hXR hg hgr
  have hT : TinyR (rowM 0 ⟨f0, f1, f2⟩ (pickI vars 9).toNat) (madeP vars [⟨f0, f1, f2⟩] gain).vars.toNat := madeP_tinyR vars [⟨f0, f1, f2⟩] gain _ (by unfold madeP rowsM; simp [dX])
  have hT2 : TinyR (rowM 0 ⟨f0, f1, f2⟩ (pickI vars 9).toNat) (madeP vars x gain).vars.toNat := hT
  clear hT
  generalize rowM 0 ⟨f0, f1, f2⟩ (pickI vars 9).toNat = r at hone hT2
  generalize madeP vars x gain = p at hG hmade hone hT2
  obtain ⟨pv, rows, gn⟩ := p
  obtain rfl : pv = m := hG.vm
  obtain ⟨g0, g1, g2, g3, g4, g5, g6, g7, hge⟩ := list8 hg
  have harg : (gain.map (Value.int .i64)).toArray = #[.int .i64 g0, .int .i64 g1, .int .i64 g2, .int .i64 g3, .int .i64 g4, .int .i64 g5, .int .i64 g6, .int .i64 g7] := by rw [hge]; rfl
  have harf : (first.map (Value.int .i64)).toArray = #[.int .i64 f0, .int .i64 f1, .int .i64 f2] := by rw [hfe]; rfl
  rw [harg] at hmade hone ⊢
  rw [harf]
  exact used_true vars vx g0 g1 g2 g3 g4 g5 g6 g7 f0 f1 f2 m rows r gn w hG hT2 hmade hone
end Go.Proofs.Ytblmpmapcdpaiaa

/- Texts R10, R11 in one. -/
import Derived.Test.YtblmpmapcdpaiaaRef
import Derived.Test.YtblmpmapcdpaiaaR9
section
/- nadirref23.Refutes, about plain proofs. -/
namespace Go.Proofs.Ytblmpmapcdpaiaa
open Go.RowKit Lib

theorem StepsAt.get {w : World} {a : Option Addr} {len cap : Nat} {l : List StepD} (h : StepsAt w (.slice a len cap) l) {k : Nat} {s : StepD} (hk : l[k]? = some s) :
    ∃ b off vw, a = some ⟨b, off, none⟩ ∧ w.cell? ⟨b, off + k * 4, none⟩ = some (.int .i64 s.var) ∧ w.cell? ⟨b, off + k * 4 + 1, none⟩ = some (.int .i64 s.no) ∧ w.cell? ⟨b, off + k * 4 + 2, none⟩ = some (.int .i64 s.yes) ∧ w.cell? ⟨b, off + k * 4 + 3, none⟩ = some vw ∧ WtsAt w vw s.wts := by
  obtain ⟨a', cap', e, h2, h3, h4⟩ := h
  have hl : 0 < l.length := by
    refine Classical.byContradiction fun hc => ?_
    rw [List.getElem?_eq_none (by omega)] at hk; cases hk
  obtain ⟨b, off, rfl, h5⟩ := h4 hl
  obtain ⟨cs, c1, c2, vw, rfl, c3⟩ := h5 k s hk
  cases e
  exact ⟨b, off, vw, rfl, c2 0 _ rfl, c2 1 _ rfl, c2 2 _ rfl, c2 3 _ rfl, c3⟩
theorem WtsAt.get {w : World} {a : Option Addr} {len cap : Nat} {l : List WtD} (h : WtsAt w (.slice a len cap) l) {k : Nat} {s : WtD} (hk : l[k]? = some s) :
    ∃ b off, a = some ⟨b, off, none⟩ ∧ w.cell? ⟨b, off + k * 2, none⟩ = some (.int .i64 s.row) ∧ w.cell? ⟨b, off + k * 2 + 1, none⟩ = some (.int .i64 s.times) := by
  obtain ⟨a', cap', e, h2, h3, h4⟩ := h
  have hl : 0 < l.length := by
    refine Classical.byContradiction fun hc => ?_
    rw [List.getElem?_eq_none (by omega)] at hk; cases hk
  obtain ⟨b, off, rfl, h5⟩ := h4 hl
  obtain ⟨cs, c1, c2, rfl⟩ := h5 k s hk
  cases e
  exact ⟨b, off, rfl, c2 0 _ rfl, c2 1 _ rfl⟩
/-- Numbers appended to an own row that is empty. -/
theorem wpList_ints {ops : Array Oper} {rest : List Oper} {o : Oper} {a : Act} {Q : Exit → Act → World → Prop} {w : World} (hgd : o.guard = none) (s x : Operand)
    (ho : o.op = .call { callee := .builtin .append, args := #[s, x], argTypes := #[24, 24] })
    (base : Nat) {v : Value} (hown : w.ownsRow base 3 1 v 0 []) (hs : a.eval s = v) {p : Addr} {n c : Nat} {l : List Int} (hx : a.eval x = .slice (some p) n c) (hl : l.length = n)
    (hcell : ∀ j y, l[j]? = some y → w.cell? (p.add j) = some (.int .i64 y)) (hn : n ≤ 1000000) (hbase : base ≤ w.heap.size)
    (h : ∀ v' w', w'.ownsRow base 3 1 v' n (l.map (Value.int .i64)) → Below base w w' → wpList Try.prog ops Q rest (a.put o.dst v') w') :
    wpList Try.prog ops Q (o :: rest) a w := by
  obtain ⟨i, hi, hz0, hz1, hz2⟩ := info_parts E24.info
  refine wpList_append_own _ hgd s x 24 ho base 3 i _ 1 8 E24.und hi hz0 hz1 hz2 E24.zs E24.pos v 0 [] hs hown p n c (l.map (Value.int .i64)) hx (by simp [hl]) ?_ ?_ (by unfold maxLen; omega) (by omega) hbase ?_
  · intro j y hj
    rw [List.getElem?_map] at hj
    obtain ⟨z, hz, rfl⟩ := Option.map_eq_some_iff.1 hj
    exact hcell j z hz
  · intro u hu
    obtain ⟨z, -, rfl⟩ := List.mem_map.1 hu
    rfl
  · intro v' w' h1 h2 h3
    exact h v' w' (by simpa using h1) ((Below.refl _ _).grown h2 hbase (fun k hk => (hown.lt k hk).1))
theorem own3_empty {W : World} {B base : Nat} (hb : Blk W B #[] 3) (h : base ≤ B) : W.ownsRow base 3 1 (.slice (some ⟨B, 0, none⟩) 0 0) 0 [] :=
  ⟨rfl, .inr ⟨B, 0, #[], rfl, h, hb, Nat.le_refl _, by decide, rfl, rfl⟩⟩
theorem refB_miss {rows : List RowD} {l : List StepD} {f i : Nat} {dec : List Int} (h : l.length ≤ i) : refB rows l f i dec = false := by
  cases f with
  | zero => rfl
  | succ f => unfold refB; rw [List.getElem?_eq_none h]
theorem refB_leaf {rows : List RowD} {l : List StepD} {f i j : Nat} {dec : List Int} (h : l[i]? = some ⟨-1, 0, 0, [⟨j, 1⟩]⟩) : refB rows l (f + 1) i dec = decide ((rows.getD j row0).most < lsd (rows.getD j row0).coef dec dec.length) := by
  unfold refB; rw [h]; rfl
theorem refB_case {rows : List RowD} {l : List StepD} {f i d no yes : Nat} {dec : List Int} (h : l[i]? = some ⟨d, no, yes, []⟩) :
    refB rows l (f + 1) i dec = if 0 ≤ dec.getD d 0 then false else refB rows l f no (dec.set d 0) && refB rows l f yes (dec.set d 1) := by
  conv => lhs; unfold refB
  rw [h]; rfl
theorem lsd_bd {c dec : List Int} (h : ∀ k, -1000000000 ≤ c.getD k 0 ∧ c.getD k 0 ≤ 1000000000) : ∀ k : Nat, -(1000000000 * (k : Int)) ≤ lsd c dec k ∧ lsd c dec k ≤ 1000000000 * k := by
  intro k
  induction k with
  | zero => simp [lsd]
  | succ k ih =>
    have := h k
    simp only [lsd]
    split <;> omega
set_option maxRecDepth 100000 in
set_option maxHeartbeats 4000000 in
theorem refutes_leaf (rows : List RowD) (l : List StepD) (dec : List Int) (i j : Nat) (w : World) (vr vl vd : Value) (hli : l[i]? = some ⟨-1, 0, 0, [⟨j, 1⟩]⟩) (hj : j < rows.length) (hr : ∀ r ∈ rows, r.coef.length = dec.length ∧ coefOK r.coef = true ∧ -10000000000000 ≤ r.most ∧ r.most ≤ 10000000000000)
    (hn : dec.length ≤ 12) (hvr : RowsAt w vr rows) (hvl : StepsAt w vl l) (hvd : IntsAt w vd dec) :
    Calls Try.prog 40 #[vr, vl, .int .i64 i, vd] w fun e w' => e = .returned (.bool (decide ((rows.getD j row0).most < lsd (rows.getD j row0).coef dec dec.length))) ∧ Below w.heap.size w w' := by
  have hil : i < l.length := by
    refine Classical.byContradiction fun hc => ?_
    rw [List.getElem?_eq_none (by omega)] at hli; cases hli
  obtain ⟨la, lc, rfl, hl1, hl2⟩ := (show SlicesLen vl l.length from hvl.len)
  obtain ⟨sb, so, vw, rfl, s0, s1, s2, s3, hw⟩ := hvl.get hli
  obtain ⟨wa, wc, rfl, hw1, hw2⟩ := (show SlicesLen vw 1 from hw.len)
  obtain ⟨wb, wo, rfl, x0, x1⟩ := hw.get (k := 0) rfl
  simp only [Nat.zero_mul, Nat.add_zero] at x0 x1
  have hs := getD_some row0 hj
  obtain ⟨ra, rc, rfl, hr1, hr2⟩ := (show SlicesLen vr rows.length from hvr.len)
  obtain ⟨rb, ro, vc, rfl, r0, r1, r2, r3, r4, r5, hc⟩ := hvr.get hs
  have hrr := hr _ (List.mem_of_getElem? hs)
  clear r0 r1 r2 r3 hvr hvl hw hs hli hr
  generalize rows.getD j row0 = r at r4 r5 hc hrr ⊢
  obtain ⟨hcl, hco, hm1, hm2⟩ := hrr
  obtain ⟨da, dc, rfl, hd1, hd2⟩ := (show SlicesLen vd dec.length from hvd.len)
  obtain ⟨ca, cc, rfl, hc1, hc2⟩ := hc.len
  unfold maxLen at hl2 hw2 hr2 hd2 hc2
  have ls0 := World.block_lt_of_cell? _ _ s0
  have lx0 := World.block_lt_of_cell? _ _ x0
  have lr4 := World.block_lt_of_cell? _ _ r4
  simp only at ls0 lx0 lr4
  have HCL := Lib.hid hcl
  have HC := Lib.hid hc
  have HD := Lib.hid hvd
  have HCO := Lib.hid (coefOK_get hco)
  have hcn : r.coef.length ≤ 12 := by omega
  have HM := Lib.hid (mk24 dec.length (by omega))
  clear hc hvd hco hcl
  have hii : (0 : Int) ≤ (i : Int) ∧ (i : Int) < (l.length : Int) := by omega
  have hjj : (0 : Int) ≤ (j : Int) ∧ (j : Int) < (rows.length : Int) := by omega
  have hmk := HM.out
  have g0 : decide ((i : Int) < 0) = false := decide_eq_false (by omega)
  have g1 : decide (l.length ≤ i) = false := decide_eq_false (by omega)
  have g2 : decide ((j : Int) < 0) = false := decide_eq_false (by omega)
  have g3 : decide (rows.length ≤ j) = false := decide_eq_false (by omega)
  simp only at s0 s1 s2 s3 x0 x1
  go_enter Try.func40, Try.ntmps40
  go_wp2_with fail
  have kst : Blk ((w.alloc (.cells #[.int .i64 (-1), .int .i64 0, .int .i64 0, .slice (some ⟨wb, wo, none⟩) 1 wc] 80)).alloc (.cells (madeCells #[Value.int IntKind.i64 0] dec.length) 3)) w.heap.size #[.int .i64 (-1), .int .i64 0, .int .i64 0, .slice (some ⟨wb, wo, none⟩) 1 wc] 80 := (Blk.new w _ 80).alloc _
  have ksm : Blk ((w.alloc (.cells #[.int .i64 (-1), .int .i64 0, .int .i64 0, .slice (some ⟨wb, wo, none⟩) 1 wc] 80)).alloc (.cells (madeCells #[Value.int IntKind.i64 0] dec.length) 3)) (w.heap.size + 1) (madeCells #[Value.int IntKind.i64 0] dec.length) 3 := Blk.newAt _ _ _ (by simp)
  have hB0 : Below w.heap.size w ((w.alloc (.cells #[.int .i64 (-1), .int .i64 0, .int .i64 0, .slice (some ⟨wb, wo, none⟩) 1 wc] 80)).alloc (.cells (madeCells #[Value.int IntKind.i64 0] dec.length) 3)) := ((Below.refl _ _).alloc (Nat.le_refl _) _).alloc (by simp) _
  generalize (w.alloc (.cells #[.int .i64 (-1), .int .i64 0, .int .i64 0, .slice (some ⟨wb, wo, none⟩) 1 wc] 80)).alloc (.cells (madeCells #[Value.int IntKind.i64 0] dec.length) 3) = W2 at kst ksm hB0 ⊢
  rw [fillK_zero (fun k => r.coef.getD k 0)] at ksm
  clear hmk HM s0 s1 s2 s3
  go_loopw [10, 12] (fun u10 u12 wr => Blk wr w.heap.size #[.int .i64 (-1), .int .i64 0, .int .i64 0, .slice (some ⟨wb, wo, none⟩) 1 wc] 80 ∧ Below w.heap.size w wr ∧ ((u12 = .int .i64 0 ∧ u10 = .int .i64 0 ∧ Blk wr (w.heap.size + 1) ((fillK (fun k => r.coef.getD k 0) dec.length 0).map (Value.int .i64)).toArray 3) ∨ (u12 = .int .i64 1 ∧ u10 = .int .i64 r.most ∧ Blk wr (w.heap.size + 1) ((fillK (fun k => r.coef.getD k 0) dec.length dec.length).map (Value.int .i64)).toArray 3))) (fun _ u12 _ => (1 - intOf u12).toNat)
  case atStart => exact ⟨kst, hB0, .inl ⟨rfl, rfl, ksm⟩⟩
  case round =>
    obtain ⟨kst, hB, ⟨rfl, rfl, ksm⟩ | ⟨rfl, rfl, ksm⟩⟩ := hrel
    · rename World => Wk
      have t3 := kst.cell 3
      simp only [List.getElem?_toArray, List.getElem?_cons_succ, List.getElem?_cons_zero] at t3
      have y0 := (hB.cell (p := ⟨wb, wo, none⟩) lx0).trans x0
      have y1 := (hB.cell (p := ⟨wb, wo + 1, none⟩) lx0).trans x1
      have lst := kst.lt
      have lsm := ksm.lt
      have hwm : IntKind.i64.wrap r.most = r.most := wrapS _ (by omega) (by omega)
      have kwt : Blk (Wk.alloc (.cells #[.int .i64 j, .int .i64 1] 82)) Wk.heap.size #[.int .i64 j, .int .i64 1] 82 := Blk.new Wk _ 82
      have hB4 : Below w.heap.size w (Wk.alloc (.cells #[.int .i64 j, .int .i64 1] 82)) := hB.alloc (by omega) _
      have kst4 := kst.alloc (.cells #[.int .i64 j, .int .i64 1] 82)
      have ksm4 := ksm.alloc (.cells #[.int .i64 j, .int .i64 1] 82)
      clear t3 y0 y1
      have t3 := kst.cell 3
      simp only [List.getElem?_toArray, List.getElem?_cons_succ, List.getElem?_cons_zero] at t3
      have y0 := (hB.cell (p := ⟨wb, wo, none⟩) lx0).trans x0
      have y1 := (hB.cell (p := ⟨wb, wo + 1, none⟩) lx0).trans x1
      go_wp2_with fail
      generalize Wk.alloc (.cells #[.int .i64 j, .int .i64 1] 82) = W4 at kwt hB4 kst4 ksm4 ⊢
      clear t3 y0 y1 kst ksm lst
      have q0 := kwt.cell 0
      have q1 := kwt.cell 1
      simp only [List.getElem?_toArray, List.getElem?_cons_succ, List.getElem?_cons_zero] at q0 q1
      go_quiet (fail)
      generalize hq : World.drewN _ _ = W5
      have hB5 : Below w.heap.size w W5 := hq ▸ below_drewN hB4 _
      have hb5 : Below W4.heap.size W4 W5 := hq ▸ below_drewN (Below.refl _ _) _
      clear hq q0 q1
      replace kwt := kwt.below hb5 kwt.lt
      replace kst4 := kst4.below hb5 kst4.lt
      replace ksm4 := ksm4.below hb5 ksm4.lt
      have q0 := kwt.cell 0
      have q1 := kwt.cell 1
      simp only [List.getElem?_toArray, List.getElem?_cons_succ, List.getElem?_cons_zero] at q0 q1
      have r5k := (hB5.cell (p := ⟨rb, ro + j * 6 + 5, none⟩) lr4).trans r5
      go_wp2_with fail
      go_quiet (fail)
      generalize hq : World.drewN _ _ = W6
      have hB6 : Below w.heap.size w W6 := hq ▸ below_drewN hB5 _
      have hb6 : Below W5.heap.size W5 W6 := hq ▸ below_drewN (Below.refl _ _) _
      clear hq q0 q1 r5k
      replace kwt := kwt.below hb6 kwt.lt
      replace kst4 := kst4.below hb6 kst4.lt
      replace ksm4 := ksm4.below hb6 ksm4.lt
      go_wp2_with fail
      go_loopw [14] (fun u14 wr => ∃ k : Nat, k ≤ dec.length ∧ u14 = .int .i64 k ∧ Blk wr Wk.heap.size #[.int .i64 j, .int .i64 1] 82 ∧ Blk wr w.heap.size #[.int .i64 (-1), .int .i64 0, .int .i64 0, .slice (some ⟨wb, wo, none⟩) 1 wc] 80 ∧ Blk wr (w.heap.size + 1) ((fillK (fun k => r.coef.getD k 0) dec.length k).map (Value.int .i64)).toArray 3 ∧ Below w.heap.size w wr) (fun u14 _ => (dec.length - intOf u14).toNat)
      case atStart => exact ⟨0, by omega, rfl, kwt, kst4, ksm4, hB6⟩
      case round =>
        obtain ⟨k, hk, rfl, kw, ks, km, hBk⟩ := hrel
        rename World => Wl
        by_cases hkl : k < dec.length
        · have hkc : k < r.coef.length := by have := HCL.out; omega
          obtain ⟨cb, co, e, hcell⟩ := (HC.out.below hBk).get (getD_some (0 : Int) hkc)
          obtain ⟨b0, b1⟩ := HCO.out k
          have hset := Lib.hid (fillK_set (fun k => r.coef.getD k 0) hkl)
          have hcur : Wl.cell? ⟨w.heap.size + 1, k, none⟩ = some (.int .i64 0) := by rw [km.cell, fillK_get _ hkl]; simp
          have hfz := km.frozen k
          have q0 := kw.cell 0
          have q1 := kw.cell 1
          simp only [List.getElem?_toArray, List.getElem?_cons_succ, List.getElem?_cons_zero] at q0 q1
          have r4k := (hBk.cell (p := ⟨rb, ro + j * 6 + 4, none⟩) lr4).trans r4
          subst e
          have hset' : Hid ((((fillK (fun k => r.coef.getD k 0) dec.length k).map (Value.int .i64)).toArray).setIfInBounds k (.int .i64 (r.coef.getD k 0)) = ((fillK (fun k => r.coef.getD k 0) dec.length (k + 1)).map (Value.int .i64)).toArray) := hset.out
          generalize hy : r.coef.getD k 0 = y at hcell b0 b1 hset'
          have HY := Lib.hid hy
          have hwy : IntKind.i64.wrap y = y := wrapS _ (by omega) (by omega)
          have hkk : (0 : Int) ≤ (k : Int) ∧ (k : Int) < (dec.length : Int) ∧ (k : Int) < (r.coef.length : Int) := by omega
          have n1 : w.heap.size + 1 ≠ Wk.heap.size := by omega
          clear hset hy
          go_wp2_with fail
          go_still_tail 20, (by kernel_rfl)
          have hBd : Below w.heap.size w Wl.drew := hBk.drew
          change wpList _ _ _ _ _ Wl.drew
          replace kw : Blk Wl.drew _ _ _ := kw
          replace ks : Blk Wl.drew _ _ _ := ks
          replace km : Blk Wl.drew _ _ _ := km
          replace hcur : Wl.drew.cell? _ = _ := hcur
          replace hfz : Wl.drew.frozen? _ = _ := hfz
          clear q0 q1 r4k hcell hBk
          generalize Wl.drew = Wd at *
          go_wp2
          go_roundw
          case rel => exact ⟨k + 1, by omega, by go_num, kw.other _ (by simp; omega), ks.other _ (by simp), by rw [← hset'.out]; exact km.set k _, hBd.setCell (p := ⟨w.heap.size + 1, k, none⟩) (Nat.le_succ w.heap.size) _⟩
          case measure => simp [intOf]; omega
        · obtain rfl : k = dec.length := by omega
          go_wp2
          go_roundw
          case rel => exact ⟨ks, hBk, .inr ⟨rfl, rfl, km⟩⟩
          case measure => simp [intOf]
    · rename World => Wk
      have t3 := kst.cell 3
      simp only [List.getElem?_toArray, List.getElem?_cons_succ, List.getElem?_cons_zero] at t3
      go_wp2_with fail
      clear t3
      have HLB := Lib.hid (lsd_bd (c := r.coef) (dec := dec) HCO.out)
      go_loopw [15, 16] (fun u15 u16 wr => ∃ k : Nat, k ≤ dec.length ∧ u16 = .int .i64 k ∧ u15 = .int .i64 (lsd r.coef dec k) ∧ Blk wr (w.heap.size + 1) ((fillK (fun k => r.coef.getD k 0) dec.length dec.length).map (Value.int .i64)).toArray 3 ∧ Below w.heap.size w wr) (fun _ u16 _ => (dec.length - intOf u16).toNat)
      case atStart => exact ⟨0, by omega, rfl, rfl, ksm, hB⟩
      case round =>
        obtain ⟨k, hk, rfl, rfl, ksm, hBk⟩ := hrel
        rename World => Wl
        have hlb := HLB.out k
        by_cases hkl : k < dec.length
        · obtain ⟨db, dO, rfl, hdc⟩ := (HD.out.below hBk).get (getD_some (0 : Int) hkl)
          have hsc : Wl.cell? ⟨w.heap.size + 1, k, none⟩ = some (.int .i64 (r.coef.getD k 0)) := by rw [ksm.cell, fillK_get _ hkl, if_pos hkl]
          obtain ⟨b0, b1⟩ := HCO.out k
          have HS : Hid (lsd r.coef dec (k + 1) = lsd r.coef dec k + if dec.getD k 0 = 1 ∨ (dec.getD k 0 < 0 ∧ r.coef.getD k 0 < 0) then r.coef.getD k 0 else 0) := rfl
          have hkk : (0 : Int) ≤ (k : Int) ∧ (k : Int) < (dec.length : Int) := by omega
          generalize dec.getD k 0 = d at hdc HS
          generalize r.coef.getD k 0 = c at hsc b0 b1 HS
          generalize lsd r.coef dec k = sm at hlb HS ⊢
          have hws : IntKind.i64.wrap (sm + c) = sm + c := wrapS _ (by omega) (by omega)
          by_cases h1 : d = 1
          · subst h1
            replace HS : Hid (lsd r.coef dec (k + 1) = sm + c) := by have := HS.out; rw [if_pos (.inl rfl)] at this; exact this
            go_wp2
            go_roundw
            case rel => exact ⟨k + 1, by omega, by go_num, by rw [HS.out], ksm, hBk⟩
            case measure => simp [intOf]; omega
          · have h1' : (d == 1) = false := beq_eq_false_iff_ne.2 h1
            by_cases h0 : d < 0
            · have h0' : decide (d < 0) = true := decide_eq_true h0
              by_cases hc : c < 0
              · have hc' : decide (c < 0) = true := decide_eq_true hc
                replace HS : Hid (lsd r.coef dec (k + 1) = sm + c) := by have := HS.out; rw [if_pos (.inr ⟨h0, hc⟩)] at this; exact this
                clear h1
                go_wp2
                go_roundw
                case rel => exact ⟨k + 1, by omega, by go_num, by rw [HS.out], ksm, hBk⟩
                case measure => simp [intOf]; omega
              · have hc' : decide (c < 0) = false := decide_eq_false hc
                replace HS : Hid (lsd r.coef dec (k + 1) = sm) := Lib.hid (by have := HS.out; rw [if_neg (by rintro (h | h) <;> omega)] at this; rw [this, Int.add_zero])
                clear h1 hws
                go_wp2
                go_roundw
                case rel => exact ⟨k + 1, by omega, by go_num, by rw [HS.out], ksm, hBk⟩
                case measure => simp [intOf]; omega
            · have h0' : decide (d < 0) = false := decide_eq_false h0
              replace HS : Hid (lsd r.coef dec (k + 1) = sm) := Lib.hid (by have := HS.out; rw [if_neg (by rintro (h | h) <;> omega)] at this; rw [this, Int.add_zero])
              clear h1 hws
              go_wp2
              go_roundw
              case rel => exact ⟨k + 1, by omega, by go_num, by rw [HS.out], ksm, hBk⟩
              case measure => simp [intOf]; omega
        · obtain rfl : k = dec.length := by omega
          by_cases hgt : r.most < lsd r.coef dec dec.length
          · have hg : decide (r.most < lsd r.coef dec dec.length) = true := decide_eq_true hgt
            go_wp2
            go_ret
            exact ⟨by first | rfl | (rw [hg]; rfl) | (rw [decide_eq_false hgt]; rfl), hBk⟩
          · have hg : decide (r.most < lsd r.coef dec dec.length) = false := decide_eq_false hgt
            go_wp2
            go_ret
            exact ⟨by first | rfl | (rw [hg]; rfl) | (rw [decide_eq_false hgt]; rfl), hBk⟩
end Go.Proofs.Ytblmpmapcdpaiaa
end
section
/- nadirref23.Refutes, about plain proofs: a case; all. -/
namespace Go.Proofs.Ytblmpmapcdpaiaa
open Go.RowKit Lib

theorem own_open {W : World} {base n : Nat} {v : Value} {xs : List Value} (h : W.ownsRow base 3 1 v n xs) (hn : 0 < n) : ∃ g cap cur, v = .slice (some ⟨g, 0, none⟩) n cap ∧ base ≤ g ∧ Blk W g cur 3 := by
  rcases h.2 with ⟨-, h0⟩ | ⟨g, cap, cur, e, h1, h2, -⟩
  · omega
  · exact ⟨g, cap, cur, e, h1, h2⟩
theorem map_set_ints (l : List Int) (d : Nat) (y : Int) : (l.map (Value.int .i64)).set d (.int .i64 y) = (l.set d y).map (Value.int .i64) := by rw [List.map_set]
set_option maxRecDepth 100000 in
set_option maxHeartbeats 4000000 in
theorem refutes_case (rows : List RowD) (l : List StepD) (dec : List Int) (f i d no yes : Nat) (w : World) (vr vl vd : Value) (hli : l[i]? = some ⟨d, no, yes, []⟩) (hd : d < dec.length) (h1 : i < no) (h2 : i < yes)
    (hn : dec.length ≤ 12) (hvr : RowsAt w vr rows) (hvl : StepsAt w vl l) (hvd : IntsAt w vd dec)
    (ih : ∀ (k : Nat) (dc : List Int) (W : World) (v : Value), i < k → dc.length = dec.length → Below w.heap.size w W → IntsAt W v dc → Calls Try.prog 40 #[vr, vl, .int .i64 k, v] W fun e w' => e = .returned (.bool (refB rows l f k dc)) ∧ Below W.heap.size W w') :
    Calls Try.prog 40 #[vr, vl, .int .i64 i, vd] w fun e w' => e = .returned (.bool (refB rows l (f + 1) i dec)) ∧ Below w.heap.size w w' := by
  have hil : i < l.length := by
    refine Classical.byContradiction fun hc => ?_
    rw [List.getElem?_eq_none (by omega)] at hli; cases hli
  obtain ⟨la, lc, rfl, hl1, hl2⟩ := (show SlicesLen vl l.length from hvl.len)
  obtain ⟨sb, so, vw, rfl, s0, s1, s2, s3, hw⟩ := hvl.get hli
  obtain ⟨wa, wc, rfl, hw1, hw2⟩ := (show SlicesLen vw 0 from hw.len)
  have hres := refB_case (rows := rows) (f := f) (dec := dec) hli
  have hsd := getD_some (0 : Int) hd
  obtain ⟨da, dc, rfl, hd1, hd2⟩ := (show SlicesLen vd dec.length from hvd.len)
  obtain ⟨db, dO, rfl, hdc⟩ := hvd.get hsd
  obtain ⟨ra, rc, rfl, -, -⟩ := (show SlicesLen vr rows.length from hvr.len)
  unfold maxLen at hl2 hw2 hd2
  have ls0 := World.block_lt_of_cell? _ _ s0
  have ld0 := World.block_lt_of_cell? _ _ hdc
  simp only at ls0 ld0 s0 s1 s2 s3
  have HD := Lib.hid hvd
  have HI := Lib.hid ih
  have hii : (0 : Int) ≤ (i : Int) ∧ (i : Int) < (l.length : Int) := by omega
  have hdd : (0 : Int) ≤ (d : Int) ∧ (d : Int) < (dec.length : Int) := by omega
  have q0 : decide ((i : Int) < 0) = false := decide_eq_false (by omega)
  have q1 : decide (l.length ≤ i) = false := decide_eq_false (by omega)
  have q2 : decide ((d : Int) < 0) = false := decide_eq_false (by omega)
  have q3 : decide (dec.length ≤ d) = false := decide_eq_false (by omega)
  have q4 : decide (no ≤ i) = false := decide_eq_false (by omega)
  have q5 : decide (yes ≤ i) = false := decide_eq_false (by omega)
  have q6 : ((d : Int) == -1) = false := beq_eq_false_iff_ne.2 (by omega)
  have q7 : ¬ ((d : Int) = -1) := by omega
  rw [hres]
  clear hvr hvl hvd hw hli hres ih
  generalize hy : dec.getD d 0 = y at hdc ⊢
  have HY := Lib.hid (hy ▸ hsd)
  clear hy hsd
  by_cases hy0 : 0 ≤ y
  · rw [if_pos hy0]
    have q8 : decide (0 ≤ y) = true := decide_eq_true hy0
    go_enter Try.func40, Try.ntmps40
    go_wp2
    go_ret
    exact ⟨rfl, (Below.refl _ _).alloc (Nat.le_refl _) _⟩
  · rw [if_neg hy0]
    have q8 : decide (0 ≤ y) = false := decide_eq_false hy0
    go_enter Try.func40, Try.ntmps40
    have hdl : 0 < dec.length := by omega
    have hcs : ∀ W, Below w.heap.size w W → ∀ j y, dec[j]? = some y → W.cell? ((⟨db, dO, none⟩ : Addr).add j) = some (.int .i64 y) := fun W hW j y hj => by
      obtain ⟨b, o, e, hc⟩ := (HD.out.below hW).get hj
      cases e
      rw [addr_add]; exact hc
    have HCS := Lib.hid hcs
    clear hcs
    have HM : Hid ((dec.map (Value.int .i64))[d]? = some (.int .i64 y)) := by rw [List.getElem?_map, HY.out]; exact rfl
    have HO0 : Hid (World.ownsRow ((w.alloc (.cells #[.int .i64 d, .int .i64 no, .int .i64 yes, .slice wa 0 wc] 80)).alloc (.cells #[] 3)) (w.heap.size + 1) 3 1 (.slice (some ⟨w.heap.size + 1, 0, none⟩) 0 0) 0 []) := own3_empty (Blk.newAt _ _ _ (by simp)) (Nat.le_refl _)
    have HC0 : Hid (∀ j y, dec[j]? = some y → ((w.alloc (.cells #[.int .i64 d, .int .i64 no, .int .i64 yes, .slice wa 0 wc] 80)).alloc (.cells #[] 3)).cell? ((⟨db, dO, none⟩ : Addr).add j) = some (.int .i64 y)) := HCS.out _ (((Below.refl _ _).alloc (Nat.le_refl _) _).alloc (by simp) _)
    go_wp2_with (first | (at_builtin; refine wpList_ints (l := dec) (p := ⟨db, dO, none⟩) rfl (.tmp 210) (.tmp 211) rfl (w.heap.size + 1) HO0.out rfl rfl rfl HC0.out (by omega) (by simp) ?_; intro v1 w1 hown1 hb1; obtain ⟨g1, c1, cur1, rfl, hg1, kg1⟩ := own_open hown1 hdl; have hB1 : Below w.heap.size w w1 := (((Below.refl _ _).alloc (Nat.le_refl _) _).alloc (by simp) _).trans (hb1.mono (by omega)); have kst1 : Blk w1 w.heap.size #[.int .i64 d, .int .i64 no, .int .i64 yes, .slice wa 0 wc] 80 := (hb1.block _ (by omega)).trans ((Blk.new w _ 80).alloc _); have t0 := kst1.cell 0; simp only [List.getElem?_toArray, List.getElem?_cons_zero] at t0; have z1 := kg1.frozen d; have y1 := hown1.cells rfl d _ HM.out; rw [add_zero_off] at y1; have n1 : ¬ (w.heap.size = g1) := (by omega); have l1 : g1 < w1.heap.size := kg1.lt; have HO1 : Hid (World.ownsRow ((w1.setCell ⟨g1, d, none⟩ (.int .i64 0)).alloc (.cells #[] 3)) w1.heap.size 3 1 (.slice (some ⟨w1.heap.size, 0, none⟩) 0 0) 0 []) := own3_empty (Blk.newAt _ _ _ (by simp)) (Nat.le_refl _); have hBs : Below w.heap.size w (w1.setCell ⟨g1, d, none⟩ (.int .i64 0)) := hB1.setCell (p := ⟨g1, d, none⟩) (by show w.heap.size ≤ g1; omega) _; have HC1 : Hid (∀ j y, dec[j]? = some y → ((w1.setCell ⟨g1, d, none⟩ (.int .i64 0)).alloc (.cells #[] 3)).cell? ((⟨db, dO, none⟩ : Addr).add j) = some (.int .i64 y)) := HCS.out _ (hBs.alloc (by have := hB1.size; simp <;> omega) _)) | (at_builtin; refine wpList_ints (l := dec) (p := ⟨db, dO, none⟩) rfl (.tmp 217) (.tmp 218) rfl w1.heap.size HO1.out rfl rfl rfl HC1.out (by omega) (by simp) ?_; intro v2 w2 hown2 hb2; obtain ⟨g2, c2, cur2, rfl, hg2, kg2⟩ := own_open hown2 hdl; have hb12 : Below w1.heap.size (w1.setCell ⟨g1, d, none⟩ (.int .i64 0)) w2 := ((Below.refl _ _).alloc (by simp) _).trans hb2; have kst2 : Blk w2 w.heap.size #[.int .i64 d, .int .i64 no, .int .i64 yes, .slice wa 0 wc] 80 := (hb12.block _ (by have := hB1.size; have := kst1.lt; omega)).trans (kst1.other _ n1); have t0' := kst2.cell 0; have t1' := kst2.cell 1; have t2' := kst2.cell 2; simp only [List.getElem?_toArray, List.getElem?_cons_succ, List.getElem?_cons_zero] at t0' t1' t2'; have z2 := kg2.frozen d; have y2 := hown2.cells rfl d _ HM.out; rw [add_zero_off] at y2; have n2 : ¬ (w.heap.size = g2) := (by have := kst1.lt; omega)))
    have n3 : ¬ (g1 = g2) := by omega
    have hB2 : Below w.heap.size w w2 := hBs.trans (hb12.mono hB1.size)
    have hB3 : Below w.heap.size w (w2.setCell ⟨g2, d, none⟩ (.int .i64 1)) := hB2.setCell (p := ⟨g2, d, none⟩) (by have := hB1.size; show w.heap.size ≤ g2; omega) _
    have ho1 : World.ownsRow (w2.setCell ⟨g2, d, none⟩ (.int .i64 1)) (w.heap.size + 1) 3 1 (.slice (some ⟨g1, 0, none⟩) dec.length c1) (dec.set d 0).length ((dec.set d 0).map (Value.int .i64)) := by
      rw [← map_set_ints, List.length_set]
      have h1 := (hown1.stored d (.int .i64 0)).1
      have h2 : World.ownsRow w2 (w.heap.size + 1) 3 1 (.slice (some ⟨g1, 0, none⟩) dec.length c1) dec.length ((dec.map (Value.int .i64)).set d (.int .i64 0)) := owned_below h1 (hb12.mono (by simp))
      exact ownsRow_set_ne h2 (fun g hg => by have e : g1 = g := Option.some.inj hg; omega) d _
    have ho2 : World.ownsRow (w2.setCell ⟨g2, d, none⟩ (.int .i64 1)) w1.heap.size 3 1 (.slice (some ⟨g2, 0, none⟩) dec.length c2) (dec.set d 1).length ((dec.set d 1).map (Value.int .i64)) := by
      rw [← map_set_ints, List.length_set]
      exact (hown2.stored d (.int .i64 1)).1
    have hx := HI.out no (dec.set d 0) (w2.setCell ⟨g2, d, none⟩ (.int .i64 1)) (.slice (some ⟨g1, 0, none⟩) dec.length c1) h1 (List.length_set) hB3 (by have := owned_slice ho1; exact this)
    have hy2 := Lib.hid (fun W (hW : Below (w2.setCell ⟨g2, d, none⟩ (.int .i64 1)).heap.size (w2.setCell ⟨g2, d, none⟩ (.int .i64 1)) W) => HI.out yes (dec.set d 1) W (.slice (some ⟨g2, 0, none⟩) dec.length c2) h2 (List.length_set) (hB3.trans (hW.mono hB3.size)) ((show IntsAt _ _ _ from owned_slice ho2).below hW))
    have kst3 : Blk (w2.setCell ⟨g2, d, none⟩ (.int .i64 1)) w.heap.size #[.int .i64 d, .int .i64 no, .int .i64 yes, .slice wa 0 wc] 80 := kst2.other _ n2
    cases hr : refB rows l f no (dec.set d 0) with
    | false =>
      rw [hr] at hx
      clear hy2 HI HD HCS HC0 HO0 HC1 HO1
      refine hx.mono ?_
      rintro e w4 ⟨rfl, hB4⟩
      go_wp2
      go_ret
      exact ⟨by first | rfl | (rw [hr]; rfl), hB3.trans (hB4.mono hB3.size)⟩
    | true =>
      rw [hr] at hx
      refine hx.mono ?_
      rintro e w4 ⟨rfl, hB4⟩
      have kst4 := kst3.below hB4 kst3.lt
      have u2 := kst4.cell 2
      simp only [List.getElem?_toArray, List.getElem?_cons_succ, List.getElem?_cons_zero] at u2
      have hx2 := hy2.out w4 hB4
      clear hx hy2 HI HD HCS HC0 HO0 HC1 HO1
      cases hr2 : refB rows l f yes (dec.set d 1) with
      | false =>
        rw [hr2] at hx2
        go_wp2_with fail
        refine hx2.mono ?_
        rintro e w5 ⟨rfl, hB5⟩
        go_wp2
        go_ret
        exact ⟨by first | rfl | (rw [hr, hr2]; rfl) | (rw [hr2]; rfl) | (rw [hr]; rfl), (hB3.trans (hB4.mono hB3.size)).trans (hB5.mono (hB3.trans (hB4.mono hB3.size)).size)⟩
      | true =>
        rw [hr2] at hx2
        go_wp2_with fail
        refine hx2.mono ?_
        rintro e w5 ⟨rfl, hB5⟩
        go_wp2
        go_ret
        exact ⟨by first | rfl | (rw [hr, hr2]; rfl) | (rw [hr2]; rfl) | (rw [hr]; rfl), (hB3.trans (hB4.mono hB3.size)).trans (hB5.mono (hB3.trans (hB4.mono hB3.size)).size)⟩
set_option maxRecDepth 100000 in
theorem refutes_miss (rows : List RowD) (l : List StepD) (dec : List Int) (f i : Nat) (w : World) (vr vl vd : Value) (h : l.length ≤ i) (hvl : StepsAt w vl l) :
    Calls Try.prog 40 #[vr, vl, .int .i64 i, vd] w fun e w' => e = .returned (.bool (refB rows l f i dec)) ∧ Below w.heap.size w w' := by
  rw [refB_miss h]
  obtain ⟨la, lc, rfl, hl1, hl2⟩ := (show SlicesLen vl l.length from hvl.len)
  have q0 : decide ((i : Int) < 0) = false := decide_eq_false (by omega)
  have q1 : decide (l.length ≤ i) = true := decide_eq_true h
  go_enter Try.func40, Try.ntmps40
  go_wp2
  go_ret
  exact ⟨rfl, Below.refl _ _⟩
/-- Refutes about plain proofs. -/
theorem refutes_any (rows : List RowD) (l : List StepD) (n : Nat) (vr vl : Value) (hr : ∀ r ∈ rows, r.coef.length = n ∧ coefOK r.coef = true ∧ -10000000000000 ≤ r.most ∧ r.most ≤ 10000000000000) (hn : n ≤ 12) (hl : ∀ i s, l[i]? = some s → PlainS n rows.length i s) :
    ∀ (f i : Nat) (dec : List Int) (w : World) (vd : Value), dec.length = n → l.length ≤ i + f → RowsAt w vr rows → StepsAt w vl l → IntsAt w vd dec →
    Calls Try.prog 40 #[vr, vl, .int .i64 i, vd] w fun e w' => e = .returned (.bool (refB rows l f i dec)) ∧ Below w.heap.size w w' := by
  intro f
  induction f with
  | zero =>
    intro i dec w vd hd hf hvr hvl hvd
    exact refutes_miss rows l dec 0 i w vr vl vd (by omega) hvl
  | succ f ih =>
    intro i dec w vd hd hf hvr hvl hvd
    by_cases hi : i < l.length
    · have hli := List.getElem?_eq_getElem hi
      generalize l[i] = s at hli
      cases hl i s hli with
      | leaf j hj =>
        rw [refB_leaf hli]
        exact refutes_leaf rows l dec i j w vr vl vd hli hj (by rw [hd]; exact hr) (by omega) hvr hvl hvd
      | case d no yes h1 h2 h3 =>
        exact refutes_case rows l dec f i d no yes w vr vl vd hli (by omega) h2 h3 (by omega) hvr hvl hvd (fun k dc W v hk hdc hW hv => ih k dc W v (by omega) (by omega) (hvr.below hW) (hvl.below hW) hv)
    · exact refutes_miss rows l dec (f + 1) i w vr vl vd (by omega) hvl
end Go.Proofs.Ytblmpmapcdpaiaa
end

/- nadirref23.Refutes, about plain proofs. -/
import Derived.Test.YtblmpmapcdpaiaaRef
import Derived.Test.YtblmpmapcdpaiaaR9
namespace Go.Proofs.Ytblmpmapcdpaiaa
open Go.RowKit Lib

theorem StepsAt.get {w : World} {a : Option Addr} {len cap : Nat} {l : List StepD} (h : StepsAt w (.slice a len cap) l) {k : Nat} {s : StepD} (hk : l[k]? = some s) :
    ∃ b off vw, a = some ⟨b, off, none⟩ ∧ w.cell? ⟨b, off + k * 4, none⟩ = some (.int .i64 s.var) ∧ w.cell? ⟨b, off + k * 4 + 1, none⟩ = some (.int .i64 s.no) ∧ w.cell? ⟨b, off + k * 4 + 2, none⟩ = some (.int .i64 s.yes) ∧ w.cell? ⟨b, off + k * 4 + 3, none⟩ = some vw ∧ WtsAt w vw s.wts := by
  obtain ⟨a', cap', e, h2, h3, h4⟩ := h
  have hl : 0 < l.length := by
    refine Classical.byContradiction fun hc => ?_
    rw [List.getElem?_eq_none (by omega)] at hk; cases hk
  obtain ⟨b, off, rfl, h5⟩ := h4 hl
  obtain ⟨cs, c1, c2, vw, rfl, c3⟩ := h5 k s hk
  cases e
  exact ⟨b, off, vw, rfl, c2 0 _ rfl, c2 1 _ rfl, c2 2 _ rfl, c2 3 _ rfl, c3⟩
theorem WtsAt.get {w : World} {a : Option Addr} {len cap : Nat} {l : List WtD} (h : WtsAt w (.slice a len cap) l) {k : Nat} {s : WtD} (hk : l[k]? = some s) :
    ∃ b off, a = some ⟨b, off, none⟩ ∧ w.cell? ⟨b, off + k * 2, none⟩ = some (.int .i64 s.row) ∧ w.cell? ⟨b, off + k * 2 + 1, none⟩ = some (.int .i64 s.times) := by
  obtain ⟨a', cap', e, h2, h3, h4⟩ := h
  have hl : 0 < l.length := by
    refine Classical.byContradiction fun hc => ?_
    rw [List.getElem?_eq_none (by omega)] at hk; cases hk
  obtain ⟨b, off, rfl, h5⟩ := h4 hl
  obtain ⟨cs, c1, c2, rfl⟩ := h5 k s hk
  cases e
  exact ⟨b, off, rfl, c2 0 _ rfl, c2 1 _ rfl⟩
/-- Numbers appended to an own row that is empty. -/
theorem wpList_ints {ops : Array Oper} {rest : List Oper} {o : Oper} {a : Act} {Q : Exit → Act → World → Prop} {w : World} (hgd : o.guard = none) (s x : Operand)
    (ho : o.op = .call { callee := .builtin .append, args := #[s, x], argTypes := #[24, 24] })
    (base : Nat) {v : Value} (hown : w.ownsRow base 3 1 v 0 []) (hs : a.eval s = v) {p : Addr} {n c : Nat} {l : List Int} (hx : a.eval x = .slice (some p) n c) (hl : l.length = n)
    (hcell : ∀ j y, l[j]? = some y → w.cell? (p.add j) = some (.int .i64 y)) (hn : n ≤ 1000000) (hbase : base ≤ w.heap.size)
    (h : ∀ v' w', w'.ownsRow base 3 1 v' n (l.map (Value.int .i64)) → Below base w w' → wpList Try.prog ops Q rest (a.put o.dst v') w') :
    wpList Try.prog ops Q (o :: rest) a w := by
  obtain ⟨i, hi, hz0, hz1, hz2⟩ := info_parts E24.info
  refine wpList_append_own _ hgd s x 24 ho base 3 i _ 1 8 E24.und hi hz0 hz1 hz2 E24.zs E24.pos v 0 [] hs hown p n c (l.map (Value.int .i64)) hx (by simp [hl]) ?_ ?_ (by unfold maxLen; omega) (by omega) hbase ?_
  · intro j y hj
    rw [List.getElem?_map] at hj
    obtain ⟨z, hz, rfl⟩ := Option.map_eq_some_iff.1 hj
    exact hcell j z hz
  · intro u hu
    obtain ⟨z, -, rfl⟩ := List.mem_map.1 hu
    rfl
  · intro v' w' h1 h2 h3
    exact h v' w' (by simpa using h1) ((Below.refl _ _).grown h2 hbase (fun k hk => (hown.lt k hk).1))
theorem own3_empty {W : World} {B base : Nat} (hb : Blk W B #[] 3) (h : base ≤ B) : W.ownsRow base 3 1 (.slice (some ⟨B, 0, none⟩) 0 0) 0 [] :=
  ⟨rfl, .inr ⟨B, 0, #[], rfl, h, hb, Nat.le_refl _, by decide, rfl, rfl⟩⟩
theorem refB_miss {rows : List RowD} {l : List StepD} {f i : Nat} {dec : List Int} (h : l.length ≤ i) : refB rows l f i dec = false := by
  cases f with
  | zero => rfl
  | succ f => unfold refB; rw [List.getElem?_eq_none h]
theorem refB_leaf {rows : List RowD} {l : List StepD} {f i j : Nat} {dec : List Int} (h : l[i]? = some ⟨-1, 0, 0, [⟨j, 1⟩]⟩) : refB rows l (f + 1) i dec = decide ((rows.getD j row0).most < lsd (rows.getD j row0).coef dec dec.length) := by
  unfold refB; rw [h]; rfl
theorem refB_case {rows : List RowD} {l : List StepD} {f i d no yes : Nat} {dec : List Int} (h : l[i]? = some ⟨d, no, yes, []⟩) :
    refB rows l (f + 1) i dec = if 0 ≤ dec.getD d 0 then false else refB rows l f no (dec.set d 0) && refB rows l f yes (dec.set d 1) := by
  conv => lhs; unfold refB
  rw [h]; rfl
theorem lsd_bd {c dec : List Int} (h : ∀ k, -1000000000 ≤ c.getD k 0 ∧ c.getD k 0 ≤ 1000000000) : ∀ k : Nat, -(1000000000 * (k : Int)) ≤ lsd c dec k ∧ lsd c dec k ≤ 1000000000 * k := by
  intro k
  induction k with
  | zero => simp [lsd]
  | succ k ih =>
    have := h k
    simp only [lsd]
    split <;> omega
set_option maxRecDepth 100000 in
set_option maxHeartbeats 4000000 in
theorem refutes_leaf (rows : List RowD) (l : List StepD) (dec : List Int) (i j : Nat) (w : World) (vr vl vd : Value) (hli : l[i]? = some ⟨-1, 0, 0, [⟨j, 1⟩]⟩) (hj : j < rows.length) (hr : ∀ r ∈ rows, r.coef.length = dec.length ∧ coefOK r.coef = true ∧ -10000000000000 ≤ r.most ∧ r.most ≤ 10000000000000)
    (hn : dec.length ≤ 12) (hvr : RowsAt w vr rows) (hvl : StepsAt w vl l) (hvd : IntsAt w vd dec) :
    Calls Try.prog 40 #[vr, vl, .int .i64 i, vd] w fun e w' => e = .returned (.bool (decide ((rows.getD j row0).most < lsd (rows.getD j row0).coef dec dec.length))) ∧ Below w.heap.size w w' := by
  have hil : i < l.length := by
    refine Classical.byContradiction fun hc => ?_
    rw [List.getElem?_eq_none (by omega)] at hli; cases hli
  obtain ⟨la, lc, rfl, hl1, hl2⟩ := (show SlicesLen vl l.length from hvl.len)
  obtain ⟨sb, so, vw, rfl, s0, s1, s2, s3, hw⟩ := hvl.get hli
  obtain ⟨wa, wc, rfl, hw1, hw2⟩ := (show SlicesLen vw 1 from hw.len)
  obtain ⟨wb, wo, rfl, x0, x1⟩ := hw.get (k := 0) rfl
  simp only [Nat.zero_mul, Nat.add_zero] at x0 x1
  have hs := getD_some row0 hj
  obtain ⟨ra, rc, rfl, hr1, hr2⟩ := (show SlicesLen vr rows.length from hvr.len)
  obtain ⟨rb, ro, vc, rfl, r0, r1, r2, r3, r4, r5, hc⟩ := hvr.get hs
  have hrr := hr _ (List.mem_of_getElem? hs)
  clear r0 r1 r2 r3 hvr hvl hw hs hli hr
  generalize rows.getD j row0 = r at r4 r5 hc hrr ⊢
  obtain ⟨hcl, hco, hm1, hm2⟩ := hrr
  obtain ⟨da, dc, rfl, hd1, hd2⟩ := (show SlicesLen vd dec.length from hvd.len)
  obtain ⟨ca, cc, rfl, hc1, hc2⟩ := hc.len
  unfold maxLen at hl2 hw2 hr2 hd2 hc2
  have ls0 := World.block_lt_of_cell? _ _ s0
  have lx0 := World.block_lt_of_cell? _ _ x0
  have lr4 := World.block_lt_of_cell? _ _ r4
  simp only at ls0 lx0 lr4
  have HCL := Lib.hid hcl
  have HC := Lib.hid hc
  have HD := Lib.hid hvd
  have HCO := Lib.hid (coefOK_get hco)
  have hcn : r.coef.length ≤ 12 := by omega
  have HM := Lib.hid (mk24 dec.length (by omega))
  clear hc hvd hco hcl
  have hii : (0 : Int) ≤ (i : Int) ∧ (i : Int) < (l.length : Int) := by omega
  have hjj : (0 : Int) ≤ (j : Int) ∧ (j : Int) < (rows.length : Int) := by omega
  have hmk := HM.out
  have g0 : decide ((i : Int) < 0) = false := decide_eq_false (by omega)
  have g1 : decide (l.length ≤ i) = false := decide_eq_false (by omega)
  have g2 : decide ((j : Int) < 0) = false := decide_eq_false (by omega)
  have g3 : decide (rows.length ≤ j) = false := decide_eq_false (by omega)
  simp only at s0 s1 s2 s3 x0 x1
  go_enter Try.func40, Try.ntmps40
  go_wp2_with fail
  have kst : Blk ((w.alloc (.cells #[.int .i64 (-1), .int .i64 0, .int .i64 0, .slice (some ⟨wb, wo, none⟩) 1 wc] 80)).alloc (.cells (madeCells #[Value.int IntKind.i64 0] dec.length) 3)) w.heap.size #[.int .i64 (-1), .int .i64 0, .int .i64 0, .slice (some ⟨wb, wo, none⟩) 1 wc] 80 := (Blk.new w _ 80).alloc _
  have ksm : Blk ((w.alloc (.cells #[.int .i64 (-1), .int .i64 0, .int .i64 0, .slice (some ⟨wb, wo, none⟩) 1 wc] 80)).alloc (.cells (madeCells #[Value.int IntKind.i64 0] dec.length) 3)) (w.heap.size + 1) (madeCells #[Value.int IntKind.i64 0] dec.length) 3 := Blk.newAt _ _ _ (by simp)
  have hB0 : Below w.heap.size w ((w.alloc (.cells #[.int .i64 (-1), .int .i64 0, .int .i64 0, .slice (some ⟨wb, wo, none⟩) 1 wc] 80)).alloc (.cells (madeCells #[Value.int IntKind.i64 0] dec.length) 3)) := ((Below.refl _ _).alloc (Nat.le_refl _) _).alloc (by simp) _
  generalize (w.alloc (.cells #[.int .i64 (-1), .int .i64 0, .int .i64 0, .slice (some ⟨wb, wo, none⟩) 1 wc] 80)).alloc (.cells (madeCells #[Value.int IntKind.i64 0] dec.length) 3) = W2 at kst ksm hB0 ⊢
  rw [fillK_zero (fun k => r.coef.getD k 0)] at ksm
  clear hmk HM s0 s1 s2 s3
  go_loopw [10, 12] (fun u10 u12 wr => Blk wr w.heap.size #[.int .i64 (-1), .int .i64 0, .int .i64 0, .slice (some ⟨wb, wo, none⟩) 1 wc] 80 ∧ Below w.heap.size w wr ∧ ((u12 = .int .i64 0 ∧ u10 = .int .i64 0 ∧ Blk wr (w.heap.size + 1) ((fillK (fun k => r.coef.getD k 0) dec.length 0).map (Value.int .i64)).toArray 3) ∨ (u12 = .int .i64 1 ∧ u10 = .int .i64 r.most ∧ Blk wr (w.heap.size + 1) ((fillK (fun k => r.coef.getD k 0) dec.length dec.length).map (Value.int .i64)).toArray 3))) (fun _ u12 _ => (1 - intOf u12).toNat)
  case atStart => exact ⟨kst, hB0, .inl ⟨rfl, rfl, ksm⟩⟩
  case round =>
    obtain ⟨kst, hB, ⟨rfl, rfl, ksm⟩ | ⟨rfl, rfl, ksm⟩⟩ := hrel
    · rename World => Wk
      have t3 := kst.cell 3
      simp only [List.getElem?_toArray, List.getElem?_cons_succ, List.getElem?_cons_zero] at t3
      have y0 := (hB.cell (p := ⟨wb, wo, none⟩) lx0).trans x0
      have y1 := (hB.cell (p := ⟨wb, wo + 1, none⟩) lx0).trans x1
      have lst := kst.lt
      have lsm := ksm.lt
      have hwm : IntKind.i64.wrap r.most = r.most := wrapS _ (by omega) (by omega)
      have kwt : Blk (Wk.alloc (.cells #[.int .i64 j, .int .i64 1] 82)) Wk.heap.size #[.int .i64 j, .int .i64 1] 82 := Blk.new Wk _ 82
      have hB4 : Below w.heap.size w (Wk.alloc (.cells #[.int .i64 j, .int .i64 1] 82)) := hB.alloc (by omega) _
      have kst4 := kst.alloc (.cells #[.int .i64 j, .int .i64 1] 82)
      have ksm4 := ksm.alloc (.cells #[.int .i64 j, .int .i64 1] 82)
      clear t3 y0 y1
      have t3 := kst.cell 3
      simp only [List.getElem?_toArray, List.getElem?_cons_succ, List.getElem?_cons_zero] at t3
      have y0 := (hB.cell (p := ⟨wb, wo, none⟩) lx0).trans x0
      have y1 := (hB.cell (p := ⟨wb, wo + 1, none⟩) lx0).trans x1
      go_wp2_with fail
      generalize Wk.alloc (.cells #[.int .i64 j, .int .i64 1] 82) = W4 at kwt hB4 kst4 ksm4 ⊢
      clear t3 y0 y1 kst ksm lst
      have q0 := kwt.cell 0
      have q1 := kwt.cell 1
      simp only [List.getElem?_toArray, List.getElem?_cons_succ, List.getElem?_cons_zero] at q0 q1
      go_quiet (fail)
      generalize hq : World.drewN _ _ = W5
      have hB5 : Below w.heap.size w W5 := hq ▸ below_drewN hB4 _
      have hb5 : Below W4.heap.size W4 W5 := hq ▸ below_drewN (Below.refl _ _) _
      clear hq q0 q1
      replace kwt := kwt.below hb5 kwt.lt
      replace kst4 := kst4.below hb5 kst4.lt
      replace ksm4 := ksm4.below hb5 ksm4.lt
      have q0 := kwt.cell 0
      have q1 := kwt.cell 1
      simp only [List.getElem?_toArray, List.getElem?_cons_succ, List.getElem?_cons_zero] at q0 q1
      have r5k := (hB5.cell (p := ⟨rb, ro + j * 6 + 5, none⟩) lr4).trans r5
      go_wp2_with fail
      go_quiet (fail)
      generalize hq : World.drewN _ _ = W6
      have hB6 : Below w.heap.size w W6 := hq ▸ below_drewN hB5 _
      have hb6 : Below W5.heap.size W5 W6 := hq ▸ below_drewN (Below.refl _ _) _
      clear hq q0 q1 r5k
      replace kwt := kwt.below hb6 kwt.lt
      replace kst4 := kst4.below hb6 kst4.lt
      replace ksm4 := ksm4.below hb6 ksm4.lt
      go_wp2_with fail
      go_loopw [14] (fun u14 wr => ∃ k : Nat, k ≤ dec.length ∧ u14 = .int .i64 k ∧ Blk wr Wk.heap.size #[.int .i64 j, .int .i64 1] 82 ∧ Blk wr w.heap.size #[.int .i64 (-1), .int .i64 0, .int .i64 0, .slice (some ⟨wb, wo, none⟩) 1 wc] 80 ∧ Blk wr (w.heap.size + 1) ((fillK (fun k => r.coef.getD k 0) dec.length k).map (Value.int .i64)).toArray 3 ∧ Below w.heap.size w wr) (fun u14 _ => (dec.length - intOf u14).toNat)
      case atStart => exact ⟨0, by omega, rfl, kwt, kst4, ksm4, hB6⟩
      case round =>
        obtain ⟨k, hk, rfl, kw, ks, km, hBk⟩ := hrel
        rename World => Wl
        by_cases hkl : k < dec.length
        · have hkc : k < r.coef.length := by have := HCL.out; omega
          obtain ⟨cb, co, e, hcell⟩ := (HC.out.below hBk).get (getD_some (0 : Int) hkc)
          obtain ⟨b0, b1⟩ := HCO.out k
          have hset := Lib.hid (fillK_set (fun k => r.coef.getD k 0) hkl)
          have hcur : Wl.cell? ⟨w.heap.size + 1, k, none⟩ = some (.int .i64 0) := by rw [km.cell, fillK_get _ hkl]; simp
          have hfz := km.frozen k
          have q0 := kw.cell 0
          have q1 := kw.cell 1
          simp only [List.getElem?_toArray, List.getElem?_cons_succ, List.getElem?_cons_zero] at q0 q1
          have r4k := (hBk.cell (p := ⟨rb, ro + j * 6 + 4, none⟩) lr4).trans r4
          subst e
          have hset' : Hid ((((fillK (fun k => r.coef.getD k 0) dec.length k).map (Value.int .i64)).toArray).setIfInBounds k (.int .i64 (r.coef.getD k 0)) = ((fillK (fun k => r.coef.getD k 0) dec.length (k + 1)).map (Value.int .i64)).toArray) := hset.out
          generalize hy : r.coef.getD k 0 = y at hcell b0 b1 hset'
          have HY := Lib.hid hy
          have hwy : IntKind.i64.wrap y = y := wrapS _ (by omega) (by omega)
          have hkk : (0 : Int) ≤ (k : Int) ∧ (k : Int) < (dec.length : Int) ∧ (k : Int) < (r.coef.length : Int) := by omega
          have n1 : w.heap.size + 1 ≠ Wk.heap.size := by omega
          clear hset hy
          go_wp2_with fail
          go_still_tail 20, (by kernel_rfl)
          have hBd : Below w.heap.size w Wl.drew := hBk.drew
          change wpList _ _ _ _ _ Wl.drew
          replace kw : Blk Wl.drew _ _ _ := kw
          replace ks : Blk Wl.drew _ _ _ := ks
          replace km : Blk Wl.drew _ _ _ := km
          replace hcur : Wl.drew.cell? _ = _ := hcur
          replace hfz : Wl.drew.frozen? _ = _ := hfz
          clear q0 q1 r4k hcell hBk
          generalize Wl.drew = Wd at *
          go_wp2
          go_roundw
          case rel => exact ⟨k + 1, by omega, by go_num, kw.other _ (by simp; omega), ks.other _ (by simp), by rw [← hset'.out]; exact km.set k _, hBd.setCell (p := ⟨w.heap.size + 1, k, none⟩) (Nat.le_succ w.heap.size) _⟩
          case measure => simp [intOf]; omega
        · obtain rfl : k = dec.length := by omega
          go_wp2
          go_roundw
          case rel => exact ⟨ks, hBk, .inr ⟨rfl, rfl, km⟩⟩
          case measure => simp [intOf]
    · rename World => Wk
      have t3 := kst.cell 3
      simp only [List.getElem?_toArray, List.getElem?_cons_succ, List.getElem?_cons_zero] at t3
      go_wp2_with fail
      clear t3
      have HLB := Lib.hid (lsd_bd (c := r.coef) (dec := dec) HCO.out)
      go_loopw [15, 16] (fun u15 u16 wr => ∃ k : Nat, k ≤ dec.length ∧ u16 = .int .i64 k ∧ u15 = .int .i64 (lsd r.coef dec k) ∧ Blk wr (w.heap.size + 1) ((fillK (fun k => r.coef.getD k 0) dec.length dec.length).map (Value.int .i64)).toArray 3 ∧ Below w.heap.size w wr) (fun _ u16 _ => (dec.length - intOf u16).toNat)
      case atStart => exact ⟨0, by omega, rfl, rfl, ksm, hB⟩
      case round =>
        obtain ⟨k, hk, rfl, rfl, ksm, hBk⟩ := hrel
        rename World => Wl
        have hlb := HLB.out k
        by_cases hkl : k < dec.length
        · obtain ⟨db, dO, rfl, hdc⟩ := (HD.out.below hBk).get (getD_some (0 : Int) hkl)
          have hsc : Wl.cell? ⟨w.heap.size + 1, k, none⟩ = some (.int .i64 (r.coef.getD k 0)) := by rw [ksm.cell, fillK_get _ hkl, if_pos hkl]
          obtain ⟨b0, b1⟩ := HCO.out k
          have HS : Hid (lsd r.coef dec (k + 1) = lsd r.coef dec k + if dec.getD k 0 = 1 ∨ (dec.getD k 0 < 0 ∧ r.coef.getD k 0 < 0) then r.coef.getD k 0 else 0) := rfl
          have hkk : (0 : Int) ≤ (k : Int) ∧ (k : Int) < (dec.length : Int) := by omega
          generalize dec.getD k 0 = d at hdc HS
          generalize r.coef.getD k 0 = c at hsc b0 b1 HS
          generalize lsd r.coef dec k = sm at hlb HS ⊢
          have hws : IntKind.i64.wrap (sm + c) = sm + c := wrapS _ (by omega) (by omega)
          by_cases h1 : d = 1
          · subst h1
            replace HS : Hid (lsd r.coef dec (k + 1) = sm + c) := by have := HS.out; rw [if_pos (.inl rfl)] at this; exact this
            go_wp2
            go_roundw
            case rel => exact ⟨k + 1, by omega, by go_num, by rw [HS.out], ksm, hBk⟩
            case measure => simp [intOf]; omega
          · have h1' : (d == 1) = false := beq_eq_false_iff_ne.2 h1
            by_cases h0 : d < 0
            · have h0' : decide (d < 0) = true := decide_eq_true h0
              by_cases hc : c < 0
              · have hc' : decide (c < 0) = true := decide_eq_true hc
                replace HS : Hid (lsd r.coef dec (k + 1) = sm + c) := by have := HS.out; rw [if_pos (.inr ⟨h0, hc⟩)] at this; exact this
                clear h1
                go_wp2
                go_roundw
                case rel => exact ⟨k + 1, by omega, by go_num, by rw [HS.out], ksm, hBk⟩
                case measure => simp [intOf]; omega
              · have hc' : decide (c < 0) = false := decide_eq_false hc
                replace HS : Hid (lsd r.coef dec (k + 1) = sm) := Lib.hid (by have := HS.out; rw [if_neg (by rintro (h | h) <;> omega)] at this; rw [this, Int.add_zero])
                clear h1 hws
                go_wp2
                go_roundw
                case rel => exact ⟨k + 1, by omega, by go_num, by rw [HS.out], ksm, hBk⟩
                case measure => simp [intOf]; omega
            · have h0' : decide (d < 0) = false := decide_eq_false h0
              replace HS : Hid (lsd r.coef dec (k + 1) = sm) := Lib.hid (by have := HS.out; rw [if_neg (by rintro (h | h) <;> omega)] at this; rw [this, Int.add_zero])
              clear h1 hws
              go_wp2
              go_roundw
              case rel => exact ⟨k + 1, by omega, by go_num, by rw [HS.out], ksm, hBk⟩
              case measure => simp [intOf]; omega
        · obtain rfl : k = dec.length := by omega
          by_cases hgt : r.most < lsd r.coef dec dec.length
          · have hg : decide (r.most < lsd r.coef dec dec.length) = true := decide_eq_true hgt
            go_wp2
            go_ret
            exact ⟨by first | rfl | (rw [hg]; rfl) | (rw [decide_eq_false hgt]; rfl), hBk⟩
          · have hg : decide (r.most < lsd r.coef dec dec.length) = false := decide_eq_false hgt
            go_wp2
            go_ret
            exact ⟨by first | rfl | (rw [hg]; rfl) | (rw [decide_eq_false hgt]; rfl), hBk⟩
end Go.Proofs.Ytblmpmapcdpaiaa

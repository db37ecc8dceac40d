/- nadirlaw26.ProofMore: the walk. -/
import Derived.Test.YtblmpmapcdpaiaaS1
import Derived.Test.YtblmpmapcdpaiaaCmp
import Derived.Test.YtblmpmapcdpaiaaL8
import Derived.Test.YtblmpmapcdpaiaaCat
namespace Go.Proofs.Ytblmpmapcdpaiaa
open Go.RowKit Go.Shelf Lib
attribute [local go_sem] Oper.semAt_some

theorem addr_ne {b b' o o' : Nat} (h : b ≠ b') : (⟨b, o, none⟩ : Addr) ≠ ⟨b', o', none⟩ := fun e => h (congrArg Addr.block e)
theorem own_news {U : World} {base rc : Nat} {ra : Option Addr} {cs : List Value} {rows : List RowD} (h1 : U.ownsRow base 26 6 (.slice ra rows.length rc) rows.length cs) (h2 : FlatC 6 RowO U cs rows) :
    cs.length = rows.length * 6 ∧ (∀ W, Below U.heap.size U W → ∀ q, ra = some q → ∀ j u, cs[j]? = some u → W.cell? (q.add j) = some u) ∧ (ra = none → rows.length = 0 ∧ rc = 0) ∧ (∀ u ∈ cs, u.oneCell' = true) := by
  refine ⟨h2.len, fun W hW q hq j u hj => ?_, fun e => ?_, cat_flat_one h2⟩
  · subst hq
    rcases h1.2 with ⟨e, -⟩ | ⟨g, cap, cur, e, -⟩
    · cases e
    · cases e
      have := h1.cells rfl j u hj
      exact (hW.cell (World.block_lt_of_cell? _ _ this)).trans this
  · subst e
    rcases h1.2 with ⟨e, h0⟩ | ⟨g, cap, cur, e, -⟩
    · injection e with _ e2 e3; exact ⟨h0, e3⟩
    · cases e
theorem gain_small {p : ProgD} (hv : validB p = true) (hm : p.vars ≤ 8) {x : Nat × Int} (h : bestS p = some x) : x.2 ≤ 8000000000 := by
  obtain ⟨v1, v2, -, -, v5, v6⟩ := validB_true hv
  have := chK_bd (l := p.gain) (M := 1000000000) (by omega) (fun k => coefOK_get v6 k) x.1 p.gain.length
  rw [(best_keeps h).2]
  unfold ch
  omega
set_option maxRecDepth 100000 in
set_option maxHeartbeats 8000000 in
theorem more_true (vars : Int) (vx vm : Value) (g0 g1 g2 g3 g4 g5 g6 g7 : Int) (by_ : Int) (m : Nat) (rows more : List RowD) (gn : List Int) (w : World) (hG : GoodP ⟨(m : Int), rows, gn⟩ m) (hby : InR by_) (xs : Nat) (xg : Int) (ho : bestS ⟨(m : Int), rows, gn⟩ = some (xs, xg))
    (hmade : Hid (∀ W, Below w.heap.size w W → Calls Try.prog 17 #[.int .i64 vars, vx, .agg #[.int .i64 g0, .int .i64 g1, .int .i64 g2, .int .i64 g3, .int .i64 g4, .int .i64 g5, .int .i64 g6, .int .i64 g7]] W fun e w' => ∃ oB vk vg, e = .returned (.agg #[.int .i64 m, vk, vg]) ∧ OutP oB w' m vk vg rows gn ∧ W.heap.size ≤ oB ∧ Below W.heap.size W w'))
    (hmore : Hid (∀ W, Below w.heap.size w W → Calls Try.prog 17 #[.int .i64 vars, vm, .agg #[.int .i64 g0, .int .i64 g1, .int .i64 g2, .int .i64 g3, .int .i64 g4, .int .i64 g5, .int .i64 g6, .int .i64 g7]] W fun e w' => ∃ oB vk vg, e = .returned (.agg #[.int .i64 m, vk, vg]) ∧ OutP oB w' m vk vg more gn ∧ W.heap.size ≤ oB ∧ Below W.heap.size W w')) :
    Calls Try.prog 14 #[.int .i64 vars, vx, .agg #[.int .i64 g0, .int .i64 g1, .int .i64 g2, .int .i64 g3, .int .i64 g4, .int .i64 g5, .int .i64 g6, .int .i64 g7], vm, .int .i64 by_] w fun e w' => e = .returned (.bool true) ∧ Below w.heap.size w w' := by
  have hm8 := hG.m8
  have hn8 := hG.n8
  simp only at hn8
  have hval := hG.val
  have herr : errV ⟨(m : Int), rows, gn⟩ = 0 := by unfold errV; rw [hval]; rfl
  obtain ⟨pf, hpf⟩ : ∃ pf, proofS ⟨(m : Int), rows, gn⟩ = pf := ⟨_, rfl⟩
  have hsv : solveV ⟨(m : Int), rows, gn⟩ = ⟨true, xs, xg, pf⟩ := by unfold solveV; rw [hval, if_pos rfl, ho]; simp only [hpf]
  obtain ⟨c1, -, -, c4, c5⟩ := complete_some hval (by show (m : Int) ≤ 8; omega) ho
  have hgr := best_bd hval ho
  rw [hpf] at c1
  have hgl : gn.length ≤ 60 := by have := (validB_true hval).2.2.2.2.1; simp only at this; omega
  have hp := pickI_bd by_ (n := 1000) (by decide)
  simp only at c4 c5
  have hgain := gain_small hval (by show (m : Int) ≤ 8; omega) ho
  have H1 := Lib.hid (show boundsV ⟨m, rows, gn⟩ pf (xg + pickI by_ 1000) = true from bounds_more c1 (by show xg ≤ _; omega) (by simp only at hgain; omega))
  clear hG hval ho hpf c1 hgr hmore
  go_enter Try.func14, Try.ntmps14
  go_wp2_with fail
  refine (sane26_true _).mono ?_
  rintro e w1 ⟨rfl, hBa⟩
  have hBw1 : Below w.heap.size w w1 := ((Below.refl _ _).alloc (Nat.le_refl _) _).trans (hBa.mono (by simp))
  have kg : Blk w1 w.heap.size #[.int .i64 g0, .int .i64 g1, .int .i64 g2, .int .i64 g3, .int .i64 g4, .int .i64 g5, .int .i64 g6, .int .i64 g7] 23 := (Blk.new w _ 23).below hBa (by simp)
  have i0 := kg.cell 0
  have i1 := kg.cell 1
  have i2 := kg.cell 2
  have i3 := kg.cell 3
  have i4 := kg.cell 4
  have i5 := kg.cell 5
  have i6 := kg.cell 6
  have i7 := kg.cell 7
  simp only [List.getElem?_toArray, List.getElem?_cons_succ, List.getElem?_cons_zero] at i0 i1 i2 i3 i4 i5 i6 i7
  go_wp2_with fail
  refine (hmade.out w1 hBw1).mono ?_
  rintro e w2 ⟨oB, vk, vg, rfl, hO, -, hB2⟩
  obtain ⟨vr', vg', e, hvr, hvg⟩ := hO.prog
  cases e
  simp only at hvr hvg
  obtain ⟨ra, rc, rfl, hr1, hr2⟩ := (show SlicesLen vk rows.length from hvr.len)
  obtain ⟨ga, gc, rfl, hg1, hg2⟩ := hvg.len
  unfold maxLen at hr2 hg2
  have hBw2 := hBw1.trans (hB2.mono hBw1.size)
  have kg2 := kg.below hB2 kg.lt
  have HOW := Lib.hid hO
  clear hO hB2 hBa hBw1 kg i0 i1 i2 i3 i4 i5 i6 i7 hmade
  have hA2 : Below w2.heap.size w2 (w2.alloc (.cells #[.int .i64 m, .slice ra rows.length rc, .slice ga gn.length gc] 29)) := (Below.refl _ _).alloc (Nat.le_refl _) _
  have kp := Blk.new w2 #[.int .i64 m, .slice ra rows.length rc, .slice ga gn.length gc] 29
  have hx := solve_all (.agg #[.int .i64 m, .slice ra rows.length rc, .slice ga gn.length gc]) ⟨m, rows, gn⟩ _ ⟨_, _, rfl, hvr.below hA2, hvg.below hA2⟩
  rw [hsv, herr] at hx
  go_wp2_with fail
  refine hx.mono ?_
  rintro e w3 ⟨v9, rfl, ⟨vp, rfl, hst⟩, hB3⟩
  obtain ⟨pa, pc, rfl, -, -⟩ := hst.len
  have hA3 := hA2.trans (hB3.mono hA2.size)
  have hA4 : Below w3.heap.size w3 (w3.alloc (.cells #[.bool true, .int .i64 xs, .int .i64 xg, .slice pa pf.length pc] 37)) := (Below.refl _ _).alloc (Nat.le_refl _) _
  have hA5 := hA3.trans (hA4.mono hA3.size)
  have hBw3 := hBw2.trans (hA5.mono hBw2.size)
  have kp3 : Blk (w3.alloc (.cells #[.bool true, .int .i64 xs, .int .i64 xg, .slice pa pf.length pc] 37)) w2.heap.size #[.int .i64 m, .slice ra rows.length rc, .slice ga gn.length gc] 29 := (kp.below hB3 kp.lt).alloc _
  have ks3 := Blk.new w3 #[.bool true, .int .i64 xs, .int .i64 xg, .slice pa pf.length pc] 37
  have HV := Lib.hid (And.intro (hvr.below hA5) (And.intro (hvg.below hA5) (StepsAt.below hst hA4)))
  have HK := Lib.hid (And.intro kp3 (And.intro ks3 (And.intro hBw3 ((kg2.below hA3 kg2.lt).below hA4 (Nat.lt_of_lt_of_le kg2.lt hA3.size)))))
  have hlp : w2.heap.size < w3.heap.size := Nat.lt_of_lt_of_le kp.lt hB3.size
  have hlg : w.heap.size < w2.heap.size := kg2.lt
  have HO5 := Lib.hid (HOW.out.below hA5)
  have HV1 := Lib.hid (fun W (hW : Below (w3.alloc (.cells #[.bool true, .int .i64 xs, .int .i64 xg, .slice pa pf.length pc] 37)).heap.size (w3.alloc (.cells #[.bool true, .int .i64 xs, .int .i64 xg, .slice pa pf.length pc] 37)) W) => And.intro (HV.out.1.below hW) (And.intro (HV.out.2.1.below hW) (StepsAt.below HV.out.2.2 hW)))
  obtain ⟨V, hV⟩ : ∃ V, w3.alloc (.cells #[.bool true, .int .i64 xs, .int .i64 xg, .slice pa pf.length pc] 37) = V := ⟨_, rfl⟩
  rw [hV] at HV1 HK
  have kp3 := HK.out.1
  have ks3 := HK.out.2.1
  have j0 := kp3.cell 0
  have j1 := kp3.cell 1
  have j2 := kp3.cell 2
  have s0 := ks3.cell 0
  have s2 := ks3.cell 2
  have s3 := ks3.cell 3
  simp only [List.getElem?_toArray, List.getElem?_cons_succ, List.getElem?_cons_zero] at j0 j1 j2 s0 s2 s3
  have hb1 := Lib.hid (fun W (hW : Below V.heap.size V W) => bounds_any _ _ ⟨m, rows, gn⟩ pf (xg + pickI by_ 1000) W ⟨_, _, rfl, (HV1.out W hW).1, (HV1.out W hW).2.1⟩ (HV1.out W hW).2.2 hgl (by show rows.length ≤ 1000; omega))
  rw [H1.out] at hb1
  have hpk := Lib.hid (fun W => pick54 by_ 1000 W hby (by decide) (by decide))
  have hw1' : IntKind.i64.wrap (xg + pickI by_ 1000) = xg + pickI by_ 1000 := by rw [IntKind.wrap_i64]; omega
  have HSX : Hid (∀ X, Below V.heap.size V X → Below V.heap.size V X ∧ X.cell? ⟨w2.heap.size, 0, none⟩ = some (.int .i64 m) ∧ X.cell? ⟨w2.heap.size, 1, none⟩ = some (.slice ra rows.length rc) ∧ X.cell? ⟨w2.heap.size, 2, none⟩ = some (.slice ga gn.length gc) ∧ X.cell? ⟨w3.heap.size, 2, none⟩ = some (.int .i64 xg) ∧ X.cell? ⟨w3.heap.size, 3, none⟩ = some (.slice pa pf.length pc)) := fun X hX => ⟨hX, (hX.cell (p := ⟨w2.heap.size, 0, none⟩) kp3.lt).trans j0, (hX.cell (p := ⟨w2.heap.size, 1, none⟩) kp3.lt).trans j1, (hX.cell (p := ⟨w2.heap.size, 2, none⟩) kp3.lt).trans j2, (hX.cell (p := ⟨w3.heap.size, 2, none⟩) ks3.lt).trans s2, (hX.cell (p := ⟨w3.heap.size, 3, none⟩) ks3.lt).trans s3⟩
  clear hx kp ks3 kp3 hA2 hA3 hA4 hA5 hBw3 hvr hvg hst hB3 hBw2 HV HV1 kg2 HO5 HOW
  generalize pickI by_ 1000 = pk at *
  clear hp
  go_wp2_with fail
  clear hV
  go_region_held3 (fun w' => Below V.heap.size V w' ∧ w'.cell? ⟨w2.heap.size, 0, none⟩ = some (.int .i64 m) ∧ w'.cell? ⟨w2.heap.size, 1, none⟩ = some (.slice ra rows.length rc) ∧ w'.cell? ⟨w2.heap.size, 2, none⟩ = some (.slice ga gn.length gc) ∧ w'.cell? ⟨w3.heap.size, 2, none⟩ = some (.int .i64 xg) ∧ w'.cell? ⟨w3.heap.size, 3, none⟩ = some (.slice pa pf.length pc))
    (first | exact ⟨(Below.refl _ _).drew, j0, j1, j2, s2, s3⟩ | exact HSX.out _ hq1 | go_keep)
    (first | (go_at_call 54; refine (hpk.out _).mono ?_; rintro e w4 ⟨rfl, rfl⟩) | (go_at_call 55; refine (hb1.out _ (‹Below V.heap.size V _ ∧ _›).1).mono ?_; rintro e w4 ⟨rfl, hB4⟩; have hq1 := (‹Below V.heap.size V _ ∧ _›).1.trans (hB4.mono (‹Below V.heap.size V _ ∧ _›).1.size)))
  go_wp2
  go_ret
  exact ⟨rfl, HK.out.2.2.1.trans (hq1.mono HK.out.2.2.1.size)⟩
set_option maxRecDepth 100000 in
set_option maxHeartbeats 8000000 in
theorem more_false (vars : Int) (vx vm : Value) (g0 g1 g2 g3 g4 g5 g6 g7 : Int) (by_ : Int) (m : Nat) (rows more : List RowD) (gn : List Int) (w : World) (hG : GoodP ⟨(m : Int), rows, gn⟩ m) (hval2 : validB ⟨(m : Int), rows ++ more, gn⟩ = true) (hm8' : more.length ≤ 8) (ho : bestS ⟨(m : Int), rows, gn⟩ = none)
    (hmade : Hid (∀ W, Below w.heap.size w W → Calls Try.prog 17 #[.int .i64 vars, vx, .agg #[.int .i64 g0, .int .i64 g1, .int .i64 g2, .int .i64 g3, .int .i64 g4, .int .i64 g5, .int .i64 g6, .int .i64 g7]] W fun e w' => ∃ oB vk vg, e = .returned (.agg #[.int .i64 m, vk, vg]) ∧ OutP oB w' m vk vg rows gn ∧ W.heap.size ≤ oB ∧ Below W.heap.size W w'))
    (hmore : Hid (∀ W, Below w.heap.size w W → Calls Try.prog 17 #[.int .i64 vars, vm, .agg #[.int .i64 g0, .int .i64 g1, .int .i64 g2, .int .i64 g3, .int .i64 g4, .int .i64 g5, .int .i64 g6, .int .i64 g7]] W fun e w' => ∃ oB vk vg, e = .returned (.agg #[.int .i64 m, vk, vg]) ∧ OutP oB w' m vk vg more gn ∧ W.heap.size ≤ oB ∧ Below W.heap.size W w')) :
    Calls Try.prog 14 #[.int .i64 vars, vx, .agg #[.int .i64 g0, .int .i64 g1, .int .i64 g2, .int .i64 g3, .int .i64 g4, .int .i64 g5, .int .i64 g6, .int .i64 g7], vm, .int .i64 by_] w fun e w' => e = .returned (.bool true) ∧ Below w.heap.size w w' := by
  have hm8 := hG.m8
  have hn8 := hG.n8
  simp only at hn8
  have hval := hG.val
  have herr : errV ⟨(m : Int), rows, gn⟩ = 0 := by unfold errV; rw [hval]; rfl
  obtain ⟨pf, hpf⟩ : ∃ pf, proofS ⟨(m : Int), rows, gn⟩ = pf := ⟨_, rfl⟩
  have hsv : solveV ⟨(m : Int), rows, gn⟩ = ⟨false, 0, 0, pf⟩ := by unfold solveV; rw [hval, if_pos rfl, ho]; simp only [hpf]
  have hw := complete_none hval (by show (m : Int) ≤ 8; omega) ho
  rw [hpf] at hw
  obtain ⟨hw2, hru⟩ := refutes_more hw hval2
  have HW := Lib.hid hw2
  obtain ⟨LU, hLU⟩ : ∃ L, rowsU ⟨(m : Int), rows, gn⟩ pf = L := ⟨_, rfl⟩
  have hru2 := hru.trans hLU
  have HU := Lib.hid (And.intro hLU hru2)
  clear hG hval ho hpf hw hw2 hru hLU hru2 hval2
  go_enter Try.func14, Try.ntmps14
  go_wp2_with fail
  refine (sane26_true _).mono ?_
  rintro e w1 ⟨rfl, hBa⟩
  have hBw1 : Below w.heap.size w w1 := ((Below.refl _ _).alloc (Nat.le_refl _) _).trans (hBa.mono (by simp))
  have kg : Blk w1 w.heap.size #[.int .i64 g0, .int .i64 g1, .int .i64 g2, .int .i64 g3, .int .i64 g4, .int .i64 g5, .int .i64 g6, .int .i64 g7] 23 := (Blk.new w _ 23).below hBa (by simp)
  have i0 := kg.cell 0
  have i1 := kg.cell 1
  have i2 := kg.cell 2
  have i3 := kg.cell 3
  have i4 := kg.cell 4
  have i5 := kg.cell 5
  have i6 := kg.cell 6
  have i7 := kg.cell 7
  simp only [List.getElem?_toArray, List.getElem?_cons_succ, List.getElem?_cons_zero] at i0 i1 i2 i3 i4 i5 i6 i7
  go_wp2_with fail
  refine (hmade.out w1 hBw1).mono ?_
  rintro e w2 ⟨oB, vk, vg, rfl, hO, -, hB2⟩
  obtain ⟨vr', vg', e, hvr, hvg⟩ := hO.prog
  cases e
  simp only at hvr hvg
  obtain ⟨ra, rc, rfl, hr1, hr2⟩ := (show SlicesLen vk rows.length from hvr.len)
  obtain ⟨ga, gc, rfl, hg1, hg2⟩ := hvg.len
  unfold maxLen at hr2 hg2
  have hBw2 := hBw1.trans (hB2.mono hBw1.size)
  have kg2 := kg.below hB2 kg.lt
  have HOW := Lib.hid hO
  clear hO hB2 hBa hBw1 kg i0 i1 i2 i3 i4 i5 i6 i7 hmade
  have hA2 : Below w2.heap.size w2 (w2.alloc (.cells #[.int .i64 m, .slice ra rows.length rc, .slice ga gn.length gc] 29)) := (Below.refl _ _).alloc (Nat.le_refl _) _
  have kp := Blk.new w2 #[.int .i64 m, .slice ra rows.length rc, .slice ga gn.length gc] 29
  have hx := solve_all (.agg #[.int .i64 m, .slice ra rows.length rc, .slice ga gn.length gc]) ⟨m, rows, gn⟩ _ ⟨_, _, rfl, hvr.below hA2, hvg.below hA2⟩
  rw [hsv, herr] at hx
  go_wp2_with fail
  refine hx.mono ?_
  rintro e w3 ⟨v9, rfl, ⟨vp, rfl, hst⟩, hB3⟩
  obtain ⟨pa, pc, rfl, -, -⟩ := hst.len
  have hA3 := hA2.trans (hB3.mono hA2.size)
  have hA4 : Below w3.heap.size w3 (w3.alloc (.cells #[.bool false, .int .i64 0, .int .i64 0, .slice pa pf.length pc] 37)) := (Below.refl _ _).alloc (Nat.le_refl _) _
  have hA5 := hA3.trans (hA4.mono hA3.size)
  have hBw3 := hBw2.trans (hA5.mono hBw2.size)
  have kp3 : Blk (w3.alloc (.cells #[.bool false, .int .i64 0, .int .i64 0, .slice pa pf.length pc] 37)) w2.heap.size #[.int .i64 m, .slice ra rows.length rc, .slice ga gn.length gc] 29 := (kp.below hB3 kp.lt).alloc _
  have ks3 := Blk.new w3 #[.bool false, .int .i64 0, .int .i64 0, .slice pa pf.length pc] 37
  have HV := Lib.hid (And.intro (hvr.below hA5) (And.intro (hvg.below hA5) (StepsAt.below hst hA4)))
  have HK := Lib.hid (And.intro kp3 (And.intro ks3 (And.intro hBw3 ((kg2.below hA3 kg2.lt).below hA4 (Nat.lt_of_lt_of_le kg2.lt hA3.size)))))
  have hlp : w2.heap.size < w3.heap.size := Nat.lt_of_lt_of_le kp.lt hB3.size
  have hlg : w.heap.size < w2.heap.size := kg2.lt
  have HO5 := Lib.hid (HOW.out.below hA5)
  have hfd : ∀ (x y z : Value) W, (Instr.field 29 (.agg #[x, y, z]) 1).run Try.prog W = .ok y W := fun _ _ _ _ => by kernel_rfl
  obtain ⟨U, hU⟩ : ∃ U, w3.alloc (.cells #[.bool false, .int .i64 0, .int .i64 0, .slice pa pf.length pc] 37) = U := ⟨_, rfl⟩
  rw [hU] at HV HK HO5
  have hUz : U.heap.size = w3.heap.size + 1 := by rw [← hU]; simp
  have hk0 : Blk (U.alloc (.cells #[.int .i64 m, .slice ra rows.length rc, .slice ga gn.length gc] 29)) (w3.heap.size + 1) #[.int .i64 m, .slice ra rows.length rc, .slice ga gn.length gc] 29 := Blk.newAt _ _ _ hUz.symm
  have hUV : Below U.heap.size U (U.alloc (.cells #[.int .i64 m, .slice ra rows.length rc, .slice ga gn.length gc] 29)) := (Below.refl _ _).alloc (Nat.le_refl _) _
  have c0 := HK.out.1.cell 0
  have c1 := HK.out.1.cell 1
  have c2 := HK.out.1.cell 2
  have s0 := HK.out.2.1.cell 0
  simp only [List.getElem?_toArray, List.getElem?_cons_succ, List.getElem?_cons_zero] at c0 c1 c2 s0
  have kp4 := HK.out.1.below hUV HK.out.1.lt
  have ks4 := HK.out.2.1.below hUV HK.out.2.1.lt
  have kg4 := HK.out.2.2.2.below hUV HK.out.2.2.2.lt
  have HQK := Lib.hid (And.intro kp4 (And.intro ks4 (And.intro hk0 (And.intro hUV hUz))))
  obtain ⟨cs, hc1, hc2⟩ := HO5.out.own
  obtain ⟨V, hV⟩ : ∃ V, U.alloc (.cells #[.int .i64 m, .slice ra rows.length rc, .slice ga gn.length gc] 29) = V := ⟨_, rfl⟩
  rw [hV] at HQK kp4 kg4 hk0
  have j1 := kp4.cell 1
  have q1 := hk0.cell 1
  have qf := hk0.frozen 1
  have i0 := kg4.cell 0
  have i1 := kg4.cell 1
  have i2 := kg4.cell 2
  have i3 := kg4.cell 3
  have i4 := kg4.cell 4
  have i5 := kg4.cell 5
  have i6 := kg4.cell 6
  have i7 := kg4.cell 7
  simp only [List.getElem?_toArray, List.getElem?_cons_succ, List.getElem?_cons_zero] at j1 q1 i0 i1 i2 i3 i4 i5 i6 i7
  clear hx kp ks3 kp3 hA2 hA3 hA4 hA5 hvr hvg hst hB3 hBw2 kg2 kp4 ks4 kg4 hk0 HO5
  have HKW := Lib.hid hBw3
  have HGL := Lib.hid (show w.heap.size < V.heap.size from by have := HQK.out.2.2.1.lt; omega)
  have HNE := Lib.hid (And.intro (addr_ne (o := 1) (o' := 1) (show w3.heap.size + 1 ≠ w2.heap.size from by omega)) (fun o : Nat => addr_ne (o := 1) (o' := o) (show w3.heap.size + 1 ≠ w.heap.size from by omega)))
  clear hBw3
  have HC := Lib.hid (And.intro hc1 hc2)
  clear hc1 hc2
  rw [hU] at HKW
  have hne1 : w2.heap.size < w3.heap.size := hlp
  have HKV := Lib.hid (HKW.out.trans (HQK.out.2.2.2.1.mono HKW.out.size))
  have HQK2 := HQK
  go_wp2_with fail
  clear hV hU c0 c1 c2 s0
  go_cut [] from 45 to 54 (fun wx => ∃ qa qc, Blk wx (w3.heap.size + 1) #[.int .i64 m, .slice qa (rows.length + more.length) qc, .slice ga gn.length gc] 29 ∧ RowsAt wx (.slice qa (rows.length + more.length) qc) (rows ++ more) ∧ Below (w3.heap.size + 1) V wx)
  case first =>
    have HSX : Hid (∀ X, Below V.heap.size V X → X.cell? ⟨w2.heap.size, 1, none⟩ = some (.slice ra rows.length rc) ∧ X.cell? ⟨w.heap.size, 0, none⟩ = some (.int .i64 g0) ∧ X.cell? ⟨w.heap.size, 1, none⟩ = some (.int .i64 g1) ∧ X.cell? ⟨w.heap.size, 2, none⟩ = some (.int .i64 g2) ∧ X.cell? ⟨w.heap.size, 3, none⟩ = some (.int .i64 g3) ∧ X.cell? ⟨w.heap.size, 4, none⟩ = some (.int .i64 g4) ∧ X.cell? ⟨w.heap.size, 5, none⟩ = some (.int .i64 g5) ∧ X.cell? ⟨w.heap.size, 6, none⟩ = some (.int .i64 g6) ∧ X.cell? ⟨w.heap.size, 7, none⟩ = some (.int .i64 g7)) := fun X hX => ⟨(hX.cell (p := ⟨w2.heap.size, 1, none⟩) HQK.out.1.lt).trans j1, (hX.cell (p := ⟨w.heap.size, 0, none⟩) HGL.out).trans i0, (hX.cell (p := ⟨w.heap.size, 1, none⟩) HGL.out).trans i1, (hX.cell (p := ⟨w.heap.size, 2, none⟩) HGL.out).trans i2, (hX.cell (p := ⟨w.heap.size, 3, none⟩) HGL.out).trans i3, (hX.cell (p := ⟨w.heap.size, 4, none⟩) HGL.out).trans i4, (hX.cell (p := ⟨w.heap.size, 5, none⟩) HGL.out).trans i5, (hX.cell (p := ⟨w.heap.size, 6, none⟩) HGL.out).trans i6, (hX.cell (p := ⟨w.heap.size, 7, none⟩) HGL.out).trans i7⟩
    have HS := Lib.hid (own_news HC.out.1 HC.out.2)
    have HMR := Lib.hid (fun W (hW : Below V.heap.size V W) => hmore.out W (HKV.out.trans (hW.mono HKV.out.size)))
    have HUB := Lib.hid (fun W (hW : Below V.heap.size V W) => show Below U.heap.size U W from HQK.out.2.2.2.1.trans (hW.mono HQK.out.2.2.2.1.size))
    have HSQ : Hid (∀ X, Below V.heap.size V X → X.cell? ⟨w3.heap.size + 1, 1, none⟩ = some (.slice ra rows.length rc) ∧ X.frozen? ⟨w3.heap.size + 1, 1, none⟩ = false) := fun X hX => ⟨(hX.cell (p := ⟨w3.heap.size + 1, 1, none⟩) HQK.out.2.2.1.lt).trans q1, (hX.frozen (p := ⟨w3.heap.size + 1, 1, none⟩) HQK.out.2.2.1.lt).trans qf⟩
    clear HQK2 q1 qf
    go_region_held3 (fun w' => w'.cell? ⟨w2.heap.size, 1, none⟩ = some (.slice ra rows.length rc) ∧ w'.cell? ⟨w.heap.size, 0, none⟩ = some (.int .i64 g0) ∧ w'.cell? ⟨w.heap.size, 1, none⟩ = some (.int .i64 g1) ∧ w'.cell? ⟨w.heap.size, 2, none⟩ = some (.int .i64 g2) ∧ w'.cell? ⟨w.heap.size, 3, none⟩ = some (.int .i64 g3) ∧ w'.cell? ⟨w.heap.size, 4, none⟩ = some (.int .i64 g4) ∧ w'.cell? ⟨w.heap.size, 5, none⟩ = some (.int .i64 g5) ∧ w'.cell? ⟨w.heap.size, 6, none⟩ = some (.int .i64 g6) ∧ w'.cell? ⟨w.heap.size, 7, none⟩ = some (.int .i64 g7))
      (first | exact ⟨j1, i0, i1, i2, i3, i4, i5, i6, i7⟩ | exact HSX.out _ hq57 | exact HSX.out _ (by first | exact hq51 | exact hq6 | exact hq6.alloc hq6.size _ | exact (hq6.alloc hq6.size _).drew | exact ((Below.refl _ _).alloc (Nat.le_refl _) _).drew | exact (Below.refl _ _).drew | exact (Below.refl _ _).alloc (Nat.le_refl _) _) | exact ⟨(World.cell?_setCell_other _ _ _ _ HNE.out.1).trans (HSX.out _ hq57).1, (World.cell?_setCell_other _ _ _ _ (HNE.out.2 _)).trans (HSX.out _ hq57).2.1, (World.cell?_setCell_other _ _ _ _ (HNE.out.2 _)).trans (HSX.out _ hq57).2.2.1, (World.cell?_setCell_other _ _ _ _ (HNE.out.2 _)).trans (HSX.out _ hq57).2.2.2.1, (World.cell?_setCell_other _ _ _ _ (HNE.out.2 _)).trans (HSX.out _ hq57).2.2.2.2.1, (World.cell?_setCell_other _ _ _ _ (HNE.out.2 _)).trans (HSX.out _ hq57).2.2.2.2.2.1, (World.cell?_setCell_other _ _ _ _ (HNE.out.2 _)).trans (HSX.out _ hq57).2.2.2.2.2.2.1, (World.cell?_setCell_other _ _ _ _ (HNE.out.2 _)).trans (HSX.out _ hq57).2.2.2.2.2.2.2.1, (World.cell?_setCell_other _ _ _ _ (HNE.out.2 _)).trans (HSX.out _ hq57).2.2.2.2.2.2.2.2⟩ | go_keep)
      (first | (go_at_call 17; refine (HMR.out _ (by first | exact hq51 | exact hq6 | exact hq6.alloc hq6.size _ | exact (hq6.alloc hq6.size _).drew | exact ((Below.refl _ _).alloc (Nat.le_refl _) _).drew | exact (Below.refl _ _).drew | exact (Below.refl _ _).alloc (Nat.le_refl _) _)).mono ?_; rintro e w6 ⟨oB2, vk2, vg2, rfl, hO2, hoB, hB6⟩; obtain ⟨ds, hd1, hd2⟩ := hO2.own; obtain ⟨da, dc, rfl, -, -⟩ := owned_len hd1; have hq6 : Below V.heap.size V w6 := Below.trans (by first | exact hq51 | exact hq6 | exact hq6.alloc hq6.size _ | exact (hq6.alloc hq6.size _).drew | exact ((Below.refl _ _).alloc (Nat.le_refl _) _).drew | exact (Below.refl _ _).drew | exact (Below.refl _ _).alloc (Nat.le_refl _) _) (hB6.mono (Below.size (by first | exact hq51 | exact hq6 | exact hq6.alloc hq6.size _ | exact (hq6.alloc hq6.size _).drew | exact ((Below.refl _ _).alloc (Nat.le_refl _) _).drew | exact (Below.refl _ _).drew | exact (Below.refl _ _).alloc (Nat.le_refl _) _))); have hV6 : Hid (V.heap.size ≤ w6.heap.size) := hq6.size; first | (have ho6 := owned_below ho51 hB6) | skip) | (refine cat_step_appT (v := v51) (n := rows.length) (m := more.length) (c := dc) (xs := cs) (xa := da) (news := ds) rfl (.tmp 48) (.tmp 53) rfl V.heap.size ho6 rfl rfl (own_news hd1 hd2).1 ((own_news hd1 hd2).2.1 _ (Below.refl _ _)) (own_news hd1 hd2).2.2.1 (own_news hd1 hd2).2.2.2 (by omega) hq6.size ?_; intro v57 w57 ho57 hT57 hk57 hb57; have hq57 := hq6.trans hb57; obtain ⟨q57, f57⟩ := HSQ.out _ hq57; have HF57 : Hid (FlatC 6 RowO w57 ds more) := hd2.imp (fun _ _ h => h.t hT57); obtain ⟨na, nc, rfl, hn1, hn2⟩ := owned_len ho57) | (refine cat_step_appT (v := v51) (n := rows.length) (m := more.length) (c := dc) (xs := cs) (xa := da) (news := ds) rfl (.tmp 48) (.tmp 53) rfl V.heap.size ho51 rfl rfl (own_news hd1' hd2').1 ((own_news hd1' hd2').2.1 _ (Below.refl _ _)) (own_news hd1' hd2').2.2.1 (own_news hd1' hd2').2.2.2 (by omega) hq51.size ?_; intro v57 w57 ho57 hT57 hk57 hb57; have hq57 := hq51.trans hb57; obtain ⟨q57, f57⟩ := HSQ.out _ hq57; have HF57 : Hid (FlatC 6 RowO w57 ds more) := hd2'.imp (fun _ _ h => h.t hT57); obtain ⟨na, nc, rfl, hn1, hn2⟩ := owned_len ho57) | (refine cat_step_appT (w := (V.alloc (.cells #[] 26)).drew) (v := .slice (some ⟨V.heap.size, 0, none⟩) 0 0) (n := 0) (m := rows.length) (c := rc) (xs := []) (xa := ra) (news := cs) rfl (.tmp 45) (.tmp 47) rfl V.heap.size (cat_own_empty (B := V.heap.size) (Blk.new V #[] 26) (Nat.le_refl _)) rfl rfl HS.out.1 (HS.out.2.1 _ (HUB.out _ (by first | exact hq51 | exact hq6 | exact hq6.alloc hq6.size _ | exact (hq6.alloc hq6.size _).drew | exact ((Below.refl _ _).alloc (Nat.le_refl _) _).drew | exact (Below.refl _ _).drew | exact (Below.refl _ _).alloc (Nat.le_refl _) _))) HS.out.2.2.1 HS.out.2.2.2 (by omega) (Below.size (by first | exact hq51 | exact hq6 | exact hq6.alloc hq6.size _ | exact (hq6.alloc hq6.size _).drew | exact ((Below.refl _ _).alloc (Nat.le_refl _) _).drew | exact (Below.refl _ _).drew | exact (Below.refl _ _).alloc (Nat.le_refl _) _)) ?_; intro v51 w51 ho51 hT51 hk51 hb51; rw [show 0 + rows.length = rows.length from Nat.zero_add _, List.nil_append] at ho51; have hq51 : Below V.heap.size V w51 := Below.trans (by first | exact hq51 | exact hq6 | exact hq6.alloc hq6.size _ | exact (hq6.alloc hq6.size _).drew | exact ((Below.refl _ _).alloc (Nat.le_refl _) _).drew | exact (Below.refl _ _).drew | exact (Below.refl _ _).alloc (Nat.le_refl _) _) hb51) | (refine cat_step_appT (w := _) (v := .slice (some ⟨V.heap.size, 0, none⟩) 0 0) (n := 0) (m := rows.length) (c := rc) (xs := []) (xa := ra) (news := cs) rfl (.tmp 45) (.tmp 47) rfl V.heap.size (cat_own_empty (B := V.heap.size) ((Blk.new V #[] 26).below hB6 (by simp)) (Nat.le_refl _)) rfl rfl HS.out.1 (HS.out.2.1 _ (HUB.out _ (by first | exact hq51 | exact hq6 | exact hq6.alloc hq6.size _ | exact (hq6.alloc hq6.size _).drew | exact ((Below.refl _ _).alloc (Nat.le_refl _) _).drew | exact (Below.refl _ _).drew | exact (Below.refl _ _).alloc (Nat.le_refl _) _))) HS.out.2.2.1 HS.out.2.2.2 (by omega) (Below.size (by first | exact hq51 | exact hq6 | exact hq6.alloc hq6.size _ | exact (hq6.alloc hq6.size _).drew | exact ((Below.refl _ _).alloc (Nat.le_refl _) _).drew | exact (Below.refl _ _).drew | exact (Below.refl _ _).alloc (Nat.le_refl _) _)) ?_; intro v51 w51 ho51 hT51 hk51 hb51; rw [show 0 + rows.length = rows.length from Nat.zero_add _, List.nil_append] at ho51; have hq51 : Below V.heap.size V w51 := Below.trans (by first | exact hq51 | exact hq6 | exact hq6.alloc hq6.size _ | exact (hq6.alloc hq6.size _).drew | exact ((Below.refl _ _).alloc (Nat.le_refl _) _).drew | exact (Below.refl _ _).drew | exact (Below.refl _ _).alloc (Nat.le_refl _) _) hb51; have hd1' := owned_kept hd1 (fun g hg => hk51 g (hd1.lt g hg).2 (fun e => by have h1 := (hd1.lt g hg).1; have h2 := hoB; simp [Value.ownBlock] at e h2; omega)); have hd2' : FlatC 6 RowO w51 ds more := hd2.imp (fun _ _ h => h.t hT51)) | (refine cat_step_appT (w := (w6.alloc (.cells #[] 26)).drew) (v := .slice (some ⟨w6.heap.size, 0, none⟩) 0 0) (n := 0) (m := rows.length) (c := rc) (xs := []) (xa := ra) (news := cs) rfl (.tmp 45) (.tmp 47) rfl V.heap.size (cat_own_empty (B := w6.heap.size) (Blk.new w6 #[] 26) hV6.out) rfl rfl HS.out.1 (HS.out.2.1 _ (HUB.out _ (by first | exact hq51 | exact hq6 | exact hq6.alloc hq6.size _ | exact (hq6.alloc hq6.size _).drew | exact ((Below.refl _ _).alloc (Nat.le_refl _) _).drew | exact (Below.refl _ _).drew | exact (Below.refl _ _).alloc (Nat.le_refl _) _))) HS.out.2.2.1 HS.out.2.2.2 (by omega) (Below.size (by first | exact hq51 | exact hq6 | exact hq6.alloc hq6.size _ | exact (hq6.alloc hq6.size _).drew | exact ((Below.refl _ _).alloc (Nat.le_refl _) _).drew | exact (Below.refl _ _).drew | exact (Below.refl _ _).alloc (Nat.le_refl _) _)) ?_; intro v51 w51 ho51 hT51 hk51 hb51; rw [show 0 + rows.length = rows.length from Nat.zero_add _, List.nil_append] at ho51; have hq51 : Below V.heap.size V w51 := Below.trans (by first | exact hq51 | exact hq6 | exact hq6.alloc hq6.size _ | exact (hq6.alloc hq6.size _).drew | exact ((Below.refl _ _).alloc (Nat.le_refl _) _).drew | exact (Below.refl _ _).drew | exact (Below.refl _ _).alloc (Nat.le_refl _) _) hb51; have hd1' := owned_kept hd1 (fun g hg => (hk51 g (by have := (hd1.lt g hg).2; show _ < (World.alloc _ _).heap.size; simp; omega) (fun e => by have h1 := (hd1.lt g hg).2; simp [Value.ownBlock] at e; omega)).trans (Below.heap_alloc w6 _ g (hd1.lt g hg).2)); have hd2' : FlatC 6 RowO w51 ds more := hd2.imp (fun _ _ h => h.t ((T3.of_below ((Below.refl _ _).alloc (Nat.le_refl _) _)).trans hT51))))
    all_goals (
      go_wp2_with fail
      go_meet
      have hkq := HQK.out.2.2.1.below hq57 HQK.out.2.2.1.lt
      have t57 : T3 w57 (w57.setCell ⟨w3.heap.size + 1, 1, none⟩ (.slice na (rows.length + more.length) nc)) := T3.set hkq (by decide) 1 _
      have hown := ownsRow_setCell_below (a := ⟨w3.heap.size + 1, 1, none⟩) ho57 HQK.out.2.2.1.lt (.slice na (rows.length + more.length) nc)
      have hrv : RowsAt (w57.setCell ⟨w3.heap.size + 1, 1, none⟩ (.slice na (rows.length + more.length) nc)) (.slice na (rows ++ more).length nc) (rows ++ more) := flat_view (by rw [List.length_append]; exact hown) ((FlatC.app (HC.out.2.imp (fun _ _ h => h.t ((T3.of_below (HUB.out _ hq57)).trans t57))) (HF57.out.imp (fun _ _ h => h.t t57))).to (fun _ _ h => h.row))
      rw [List.length_append] at hrv
      exact ⟨na, nc, hkq.set 1 _, hrv, (hq57.mono (Nat.le_of_lt HQK.out.2.2.1.lt)).setCell (p := ⟨w3.heap.size + 1, 1, none⟩) (Nat.le_refl _) _⟩)
  case rest =>
    rename World => wx
    obtain ⟨qa, qc, hkq, hrq, hBx⟩ := hcut
    have hUx : Below U.heap.size U wx := HQK.out.2.2.2.1.trans (by rw [HQK.out.2.2.2.2]; exact hBx)
    have kpx := HQK.out.1.below hBx (by show w2.heap.size < _; omega)
    have ksx := HQK.out.2.1.below hBx (by show w3.heap.size < _; omega)
    have hgx := HV.out.2.1.below hUx
    have HPX := Lib.hid (And.intro (show ProgV wx (.agg #[.int .i64 m, .slice qa (rows.length + more.length) qc, .slice ga gn.length gc]) ⟨m, rows ++ more, gn⟩ from ⟨_, _, rfl, hrq, hgx⟩) (And.intro (show ProgV wx (.agg #[.int .i64 m, .slice ra rows.length rc, .slice ga gn.length gc]) ⟨m, rows, gn⟩ from ⟨_, _, rfl, HV.out.1.below hUx, hgx⟩) (StepsAt.below HV.out.2.2 hUx)))
    have HBX := Lib.hid (HKW.out.trans (hUx.mono HKW.out.size))
    have q0 := hkq.cell 0
    have q1' := hkq.cell 1
    have q2 := hkq.cell 2
    have s3 := ksx.cell 3
    have p0 := kpx.cell 0
    have p1 := kpx.cell 1
    have p2 := kpx.cell 2
    simp only [List.getElem?_toArray, List.getElem?_cons_succ, List.getElem?_cons_zero] at q0 q1' q2 s3 p0 p1 p2
    have HSX : Hid (∀ X, Below wx.heap.size wx X → Below wx.heap.size wx X ∧ X.cell? ⟨w3.heap.size + 1, 0, none⟩ = some (.int .i64 m) ∧ X.cell? ⟨w3.heap.size + 1, 1, none⟩ = some (.slice qa (rows.length + more.length) qc) ∧ X.cell? ⟨w3.heap.size + 1, 2, none⟩ = some (.slice ga gn.length gc) ∧ X.cell? ⟨w3.heap.size, 3, none⟩ = some (.slice pa pf.length pc) ∧ X.cell? ⟨w2.heap.size, 0, none⟩ = some (.int .i64 m) ∧ X.cell? ⟨w2.heap.size, 1, none⟩ = some (.slice ra rows.length rc) ∧ X.cell? ⟨w2.heap.size, 2, none⟩ = some (.slice ga gn.length gc)) := fun X hX => ⟨hX, (hX.cell (p := ⟨w3.heap.size + 1, 0, none⟩) hkq.lt).trans q0, (hX.cell (p := ⟨w3.heap.size + 1, 1, none⟩) hkq.lt).trans q1', (hX.cell (p := ⟨w3.heap.size + 1, 2, none⟩) hkq.lt).trans q2, (hX.cell (p := ⟨w3.heap.size, 3, none⟩) ksx.lt).trans s3, (hX.cell (p := ⟨w2.heap.size, 0, none⟩) kpx.lt).trans p0, (hX.cell (p := ⟨w2.heap.size, 1, none⟩) kpx.lt).trans p1, (hX.cell (p := ⟨w2.heap.size, 2, none⟩) kpx.lt).trans p2⟩
    have hb1 := Lib.hid (fun W (hW : Below wx.heap.size wx W) => prefutes_any _ _ ⟨m, rows ++ more, gn⟩ pf W (HPX.out.1.below hW) (StepsAt.below HPX.out.2.2 hW))
    rw [HW.out] at hb1
    have hb2 := Lib.hid (fun W (hW : Below wx.heap.size wx W) => rows_any _ _ ⟨m, rows ++ more, gn⟩ pf W (HPX.out.1.below hW) (StepsAt.below HPX.out.2.2 hW) (by show (rows ++ more).length ≤ 1000; rw [List.length_append]; omega))
    rw [HU.out.2] at hb2
    have hb3 := Lib.hid (fun W (hW : Below wx.heap.size wx W) => rows_any _ _ ⟨m, rows, gn⟩ pf W (HPX.out.2.1.below hW) (StepsAt.below HPX.out.2.2 hW) (by show rows.length ≤ 1000; omega))
    rw [HU.out.1] at hb3
    clear hkq hrq hBx hUx kpx ksx hgx j1 q1 qf i0 i1 i2 i3 i4 i5 i6 i7
    go_wp2_with fail
    go_region_held3 (fun w' => Below wx.heap.size wx w' ∧ w'.cell? ⟨w3.heap.size + 1, 0, none⟩ = some (.int .i64 m) ∧ w'.cell? ⟨w3.heap.size + 1, 1, none⟩ = some (.slice qa (rows.length + more.length) qc) ∧ w'.cell? ⟨w3.heap.size + 1, 2, none⟩ = some (.slice ga gn.length gc) ∧ w'.cell? ⟨w3.heap.size, 3, none⟩ = some (.slice pa pf.length pc) ∧ w'.cell? ⟨w2.heap.size, 0, none⟩ = some (.int .i64 m) ∧ w'.cell? ⟨w2.heap.size, 1, none⟩ = some (.slice ra rows.length rc) ∧ w'.cell? ⟨w2.heap.size, 2, none⟩ = some (.slice ga gn.length gc))
      (first | exact ⟨(Below.refl _ _).drew, q0, q1', q2, s3, p0, p1, p2⟩ | exact HSX.out _ hq9 | exact HSX.out _ hq7 | exact HSX.out _ hq8 | exact HSX.out _ hq6 | go_keep)
      (first | (go_at_call 48; refine (hb1.out _ (‹Below wx.heap.size wx _ ∧ _›).1).mono ?_; rintro e w6 ⟨rfl, hB6⟩; have hq6 := (‹Below wx.heap.size wx _ ∧ _›).1.trans (hB6.mono (‹Below wx.heap.size wx _ ∧ _›).1.size)) | (go_at_call 25; refine (ints_same _ _ LU _ hiq' hip).mono ?_; rintro e w9 ⟨rfl, hB9⟩; have hq9 := (‹Below wx.heap.size wx _ ∧ _›).1.trans (hB9.mono (‹Below wx.heap.size wx _ ∧ _›).1.size)) | (go_at_call 25; refine (ints_same _ _ LU _ hiq hip').mono ?_; rintro e w9 ⟨rfl, hB9⟩; have hq9 := (‹Below wx.heap.size wx _ ∧ _›).1.trans (hB9.mono (‹Below wx.heap.size wx _ ∧ _›).1.size)) | (go_at_call 52; (with_reducible refine (hb2.out _ (‹Below wx.heap.size wx _ ∧ _›).1).mono ?_); rintro e w7 ⟨v7, rfl, hiq, hB7⟩; have hq7 := (‹Below wx.heap.size wx _ ∧ _›).1.trans (hB7.mono (‹Below wx.heap.size wx _ ∧ _›).1.size); first | (have hip' := SliceOf.below hip hB7) | skip) | (go_at_call 52; (with_reducible refine (hb3.out _ (‹Below wx.heap.size wx _ ∧ _›).1).mono ?_); rintro e w8 ⟨v8, rfl, hip, hB8⟩; have hq8 := (‹Below wx.heap.size wx _ ∧ _›).1.trans (hB8.mono (‹Below wx.heap.size wx _ ∧ _›).1.size); first | (have hiq' := SliceOf.below hiq hB8) | skip))
    all_goals (
      go_wp2
      go_ret
      exact ⟨rfl, HBX.out.trans (hq9.mono HBX.out.size)⟩)
theorem validB_app {v : Int} {rows more : List RowD} {gn : List Int} (h1 : validB ⟨v, rows, gn⟩ = true) (h2 : validB ⟨v, more, gn⟩ = true) (hl : rows.length + more.length ≤ 300) : validB ⟨v, rows ++ more, gn⟩ = true := by
  unfold validB at h1 h2 ⊢
  simp only [Bool.and_eq_true, decide_eq_true_eq, List.all_eq_true, List.length_append] at h1 h2 ⊢
  refine ⟨⟨⟨⟨⟨h1.1.1.1.1.1, h1.1.1.1.1.2⟩, by omega⟩, fun r hr => ?_⟩, h1.1.2⟩, h1.2⟩
  rcases List.mem_append.1 hr with hr | hr
  · exact h1.1.1.2 r hr
  · exact h2.1.1.2 r hr
theorem more_all (vars : Int) (vx : Value) (x : List X3) (gain : List Int) (vm : Value) (xm : List X3) (by_ : Int) (w : World) (hv : InR vars) (hx : XsAt w vx x) (hxr : ∀ y ∈ x, XR y) (hg : gain.length = 8) (hgr : ∀ y ∈ gain, InR y) (hm : XsAt w vm xm) (hmr : ∀ y ∈ xm, XR y) (hb : InR by_) :
    Calls Try.prog 14 #[.int .i64 vars, vx, .agg (gain.map (Value.int .i64)).toArray, vm, .int .i64 by_] w fun e w' => e = .returned (.bool true) ∧ Below w.heap.size w w' := by
  obtain ⟨m, hG⟩ := goodP vars x gain
  obtain ⟨m2, hG2⟩ := goodP vars xm gain
  have hmade := Lib.hid (fun W (hW : Below w.heap.size w W) => made_own vars vx x gain W hv (hx.below hW) hxr hg hgr)
  have hmore : Hid (∀ W, Below w.heap.size w W → Calls Try.prog 17 #[.int .i64 vars, vm, .agg (gain.map (Value.int .i64)).toArray] W fun e w' => ∃ oB vk vg, e = .returned (.agg #[.int .i64 (madeP vars x gain).vars, vk, vg]) ∧ OutP oB w' (madeP vars x gain).vars vk vg (madeP vars xm gain).rows (madeP vars x gain).gain ∧ W.heap.size ≤ oB ∧ Below W.heap.size W w') :=
    fun W (hW : Below w.heap.size w W) => made_own vars vm xm gain W hv (hm.below hW) hmr hg hgr
  have hl2 := hG2.n8
  have hv2 : validB ⟨(madeP vars x gain).vars, (madeP vars xm gain).rows, (madeP vars x gain).gain⟩ = true := hG2.val
  generalize (madeP vars xm gain).rows = more at hmore hl2 hv2
  clear hG2
  generalize madeP vars x gain = p at hG hmade hmore hv2
  obtain ⟨pv, rows, gn⟩ := p
  obtain rfl : pv = m := hG.vm
  obtain ⟨g0, g1, g2, g3, g4, g5, g6, g7, hge⟩ := list8 hg
  have harg : (gain.map (Value.int .i64)).toArray = #[.int .i64 g0, .int .i64 g1, .int .i64 g2, .int .i64 g3, .int .i64 g4, .int .i64 g5, .int .i64 g6, .int .i64 g7] := by rw [hge]; rfl
  rw [harg] at hmade hmore ⊢
  have hn8 := hG.n8
  simp only at hn8
  cases ho : bestS ⟨(m : Int), rows, gn⟩ with
  | none => exact more_false vars vx vm g0 g1 g2 g3 g4 g5 g6 g7 by_ m rows more gn w hG (validB_app hG.val hv2 (by omega)) hl2 ho hmade hmore
  | some y => exact more_true vars vx vm g0 g1 g2 g3 g4 g5 g6 g7 by_ m rows more gn w hG hb y.1 y.2 ho hmade hmore
end Go.Proofs.Ytblmpmapcdpaiaa

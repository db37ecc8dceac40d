/- nadirlaw26.ProofComplete: the walk. -/
import Derived.Test.YtblmpmapcdpaiaaS1
import Derived.Test.YtblmpmapcdpaiaaCmp
import Derived.Test.YtblmpmapcdpaiaaL8
namespace Go.Proofs.Ytblmpmapcdpaiaa
open Go.RowKit Lib

set_option maxRecDepth 100000 in
set_option maxHeartbeats 8000000 in
theorem complete_false (vars : Int) (vx : Value) (g0 g1 g2 g3 g4 g5 g6 g7 : Int) (less : Int) (m : Nat) (rows : List RowD) (gn : List Int) (w : World) (hG : GoodP ⟨(m : Int), rows, gn⟩ m) (ho : bestS ⟨(m : Int), rows, gn⟩ = none)
    (hmade : Hid (∀ W, Below w.heap.size w W → Calls Try.prog 17 #[.int .i64 vars, vx, .agg #[.int .i64 g0, .int .i64 g1, .int .i64 g2, .int .i64 g3, .int .i64 g4, .int .i64 g5, .int .i64 g6, .int .i64 g7]] W fun e w' => ∃ oB vk vg, e = .returned (.agg #[.int .i64 m, vk, vg]) ∧ OutP oB w' m vk vg rows gn ∧ W.heap.size ≤ oB ∧ Below W.heap.size W w')) :
    Calls Try.prog 13 #[.int .i64 vars, vx, .agg #[.int .i64 g0, .int .i64 g1, .int .i64 g2, .int .i64 g3, .int .i64 g4, .int .i64 g5, .int .i64 g6, .int .i64 g7], .int .i64 less] w fun e w' => e = .returned (.bool true) ∧ Below w.heap.size w w' := by
  have hm8 := hG.m8
  have hval := hG.val
  have herr : errV ⟨(m : Int), rows, gn⟩ = 0 := by unfold errV; rw [hval]; rfl
  obtain ⟨pf, hpf⟩ : ∃ pf, proofS ⟨(m : Int), rows, gn⟩ = pf := ⟨_, rfl⟩
  have hsv : solveV ⟨(m : Int), rows, gn⟩ = ⟨false, 0, 0, pf⟩ := by unfold solveV; rw [hval, if_pos rfl, ho]; simp only [hpf]
  have hw := complete_none hval (by show (m : Int) ≤ 8; omega) ho
  rw [hpf] at hw
  have HW := Lib.hid hw
  clear hG hval ho hpf hw
  go_enter Try.func13, Try.ntmps13
  go_wp2_with fail
  refine (sane26_true _).mono ?_
  rintro e w1 ⟨rfl, hBa⟩
  have hBw1 : Below w.heap.size w w1 := ((Below.refl _ _).alloc (Nat.le_refl _) _).trans (hBa.mono (by simp))
  have kg : Blk w1 w.heap.size #[.int .i64 g0, .int .i64 g1, .int .i64 g2, .int .i64 g3, .int .i64 g4, .int .i64 g5, .int .i64 g6, .int .i64 g7] 23 := (Blk.new w _ 23).below hBa (by simp)
  have i0 := kg.cell 0
  have i1 := kg.cell 1
  have i2 := kg.cell 2
  have i3 := kg.cell 3
  have i4 := kg.cell 4
  have i5 := kg.cell 5
  have i6 := kg.cell 6
  have i7 := kg.cell 7
  simp only [List.getElem?_toArray, List.getElem?_cons_succ, List.getElem?_cons_zero] at i0 i1 i2 i3 i4 i5 i6 i7
  go_wp2_with fail
  refine (hmade.out w1 hBw1).mono ?_
  rintro e w2 ⟨oB, vk, vg, rfl, hO, -, hB2⟩
  obtain ⟨vr', vg', e, hvr, hvg⟩ := hO.prog
  cases e
  simp only at hvr hvg
  obtain ⟨ra, rc, rfl, hr1, hr2⟩ := (show SlicesLen vk rows.length from hvr.len)
  obtain ⟨ga, gc, rfl, hg1, hg2⟩ := hvg.len
  unfold maxLen at hr2 hg2
  have hBw2 := hBw1.trans (hB2.mono hBw1.size)
  clear hO hB2 hBa hBw1 kg i0 i1 i2 i3 i4 i5 i6 i7 hmade
  have hA2 : Below w2.heap.size w2 (w2.alloc (.cells #[.int .i64 m, .slice ra rows.length rc, .slice ga gn.length gc] 29)) := (Below.refl _ _).alloc (Nat.le_refl _) _
  have kp := Blk.new w2 #[.int .i64 m, .slice ra rows.length rc, .slice ga gn.length gc] 29
  have hx := solve_all (.agg #[.int .i64 m, .slice ra rows.length rc, .slice ga gn.length gc]) ⟨m, rows, gn⟩ _ ⟨_, _, rfl, hvr.below hA2, hvg.below hA2⟩
  rw [hsv, herr] at hx
  go_wp2_with fail
  refine hx.mono ?_
  rintro e w3 ⟨v9, rfl, ⟨vp, rfl, hst⟩, hB3⟩
  obtain ⟨pa, pc, rfl, -, -⟩ := hst.len
  have hA3 := hA2.trans (hB3.mono hA2.size)
  have hA4 : Below w3.heap.size w3 (w3.alloc (.cells #[.bool false, .int .i64 0, .int .i64 0, .slice pa pf.length pc] 37)) := (Below.refl _ _).alloc (Nat.le_refl _) _
  have hA5 := hA3.trans (hA4.mono hA3.size)
  have hBw3 := hBw2.trans (hA5.mono hBw2.size)
  have kp3 : Blk (w3.alloc (.cells #[.bool false, .int .i64 0, .int .i64 0, .slice pa pf.length pc] 37)) w2.heap.size #[.int .i64 m, .slice ra rows.length rc, .slice ga gn.length gc] 29 := (kp.below hB3 kp.lt).alloc _
  have ks3 := Blk.new w3 #[.bool false, .int .i64 0, .int .i64 0, .slice pa pf.length pc] 37
  have HV := Lib.hid (And.intro (hvr.below hA5) (And.intro (hvg.below hA5) (StepsAt.below hst hA4)))
  have HK := Lib.hid (And.intro kp3 (And.intro ks3 hBw3))
  have lp := kp3.lt
  have ls := ks3.lt
  have hlp : w2.heap.size < w3.heap.size := Nat.lt_of_lt_of_le kp.lt hB3.size
  have hx1 := prefutes_any _ _ ⟨m, rows, gn⟩ pf _ ⟨_, _, rfl, HV.out.1, HV.out.2.1⟩ HV.out.2.2
  rw [HW.out] at hx1
  have j0 := kp3.cell 0
  have j1 := kp3.cell 1
  have j2 := kp3.cell 2
  have s0 := ks3.cell 0
  have s3 := ks3.cell 3
  simp only [List.getElem?_toArray, List.getElem?_cons_succ, List.getElem?_cons_zero] at j0 j1 j2 s0 s3
  clear hx kp ks3 kp3 hA2 hA3 hA4 hA5 hBw3 hvr hvg hst hB3 hBw2
  go_wp2_with fail
  refine hx1.mono ?_
  rintro e w4 ⟨rfl, hB4⟩
  have hx2 := wrong_any _ _ ⟨m, rows, gn⟩ pf w4 ⟨_, _, rfl, HV.out.1.below hB4, HV.out.2.1.below hB4⟩ (StepsAt.below HV.out.2.2 hB4)
  rw [HW.out] at hx2
  have kp4 := HK.out.1.below hB4 HK.out.1.lt
  have ks4 := HK.out.2.1.below hB4 HK.out.2.1.lt
  have hBw4 := HK.out.2.2.trans (hB4.mono HK.out.2.2.size)
  clear j0 j1 j2 s0 s3 hx1 hB4
  have j0 := kp4.cell 0
  have j1 := kp4.cell 1
  have j2 := kp4.cell 2
  have s0 := ks4.cell 0
  have s3 := ks4.cell 3
  simp only [List.getElem?_toArray, List.getElem?_cons_succ, List.getElem?_cons_zero] at j0 j1 j2 s0 s3
  go_wp2_with fail
  refine hx2.mono ?_
  rintro e w5 ⟨rfl, hB5⟩
  go_wp2
  go_ret
  exact ⟨rfl, hBw4.trans (hB5.mono hBw4.size)⟩
set_option maxRecDepth 100000 in
set_option maxHeartbeats 8000000 in
theorem complete_true (vars : Int) (vx : Value) (g0 g1 g2 g3 g4 g5 g6 g7 : Int) (less : Int) (hless : InR less) (m : Nat) (rows : List RowD) (gn : List Int) (w : World) (hG : GoodP ⟨(m : Int), rows, gn⟩ m) (xs : Nat) (xg : Int) (ho : bestS ⟨(m : Int), rows, gn⟩ = some (xs, xg))
    (hmade : Hid (∀ W, Below w.heap.size w W → Calls Try.prog 17 #[.int .i64 vars, vx, .agg #[.int .i64 g0, .int .i64 g1, .int .i64 g2, .int .i64 g3, .int .i64 g4, .int .i64 g5, .int .i64 g6, .int .i64 g7]] W fun e w' => ∃ oB vk vg, e = .returned (.agg #[.int .i64 m, vk, vg]) ∧ OutP oB w' m vk vg rows gn ∧ W.heap.size ≤ oB ∧ Below W.heap.size W w')) :
    Calls Try.prog 13 #[.int .i64 vars, vx, .agg #[.int .i64 g0, .int .i64 g1, .int .i64 g2, .int .i64 g3, .int .i64 g4, .int .i64 g5, .int .i64 g6, .int .i64 g7], .int .i64 less] w fun e w' => e = .returned (.bool true) ∧ Below w.heap.size w w' := by
  have hm8 := hG.m8
  have hn8 := hG.n8
  simp only at hn8
  have hval := hG.val
  have herr : errV ⟨(m : Int), rows, gn⟩ = 0 := by unfold errV; rw [hval]; rfl
  obtain ⟨pf, hpf⟩ : ∃ pf, proofS ⟨(m : Int), rows, gn⟩ = pf := ⟨_, rfl⟩
  have hsv : solveV ⟨(m : Int), rows, gn⟩ = ⟨true, xs, xg, pf⟩ := by unfold solveV; rw [hval, if_pos rfl, ho]; simp only [hpf]
  obtain ⟨c1, c2, c3, c4, c5⟩ := complete_some hval (by show (m : Int) ≤ 8; omega) ho
  rw [hpf] at c1 c2 c3
  have hgl : gn.length ≤ 60 := by have := (validB_true hval).2.2.2.2.1; simp only at this; omega
  have hp := pickI_bd less (n := 50) (by decide)
  have HP := Lib.hid (show boundsV ⟨m, rows, gn⟩ pf (xg - 1 - pickI less 50) = false from c2 _ (by omega))
  have H1 := Lib.hid (show boundsV ⟨m, rows, gn⟩ pf xg = true from c1)
  have H3 := Lib.hid (show (wrongD ⟨m, rows, gn⟩ pf == -1) = false from beq_eq_false_iff_ne.2 c3)
  simp only at c4 c5
  clear hG hval ho hpf c1 c2 c3
  go_enter Try.func13, Try.ntmps13
  go_wp2_with fail
  refine (sane26_true _).mono ?_
  rintro e w1 ⟨rfl, hBa⟩
  have hBw1 : Below w.heap.size w w1 := ((Below.refl _ _).alloc (Nat.le_refl _) _).trans (hBa.mono (by simp))
  have kg : Blk w1 w.heap.size #[.int .i64 g0, .int .i64 g1, .int .i64 g2, .int .i64 g3, .int .i64 g4, .int .i64 g5, .int .i64 g6, .int .i64 g7] 23 := (Blk.new w _ 23).below hBa (by simp)
  have i0 := kg.cell 0
  have i1 := kg.cell 1
  have i2 := kg.cell 2
  have i3 := kg.cell 3
  have i4 := kg.cell 4
  have i5 := kg.cell 5
  have i6 := kg.cell 6
  have i7 := kg.cell 7
  simp only [List.getElem?_toArray, List.getElem?_cons_succ, List.getElem?_cons_zero] at i0 i1 i2 i3 i4 i5 i6 i7
  go_wp2_with fail
  refine (hmade.out w1 hBw1).mono ?_
  rintro e w2 ⟨oB, vk, vg, rfl, hO, -, hB2⟩
  obtain ⟨vr', vg', e, hvr, hvg⟩ := hO.prog
  cases e
  simp only at hvr hvg
  obtain ⟨ra, rc, rfl, hr1, hr2⟩ := (show SlicesLen vk rows.length from hvr.len)
  obtain ⟨ga, gc, rfl, hg1, hg2⟩ := hvg.len
  unfold maxLen at hr2 hg2
  have hBw2 := hBw1.trans (hB2.mono hBw1.size)
  clear hO hB2 hBa hBw1 kg i0 i1 i2 i3 i4 i5 i6 i7 hmade
  have hA2 : Below w2.heap.size w2 (w2.alloc (.cells #[.int .i64 m, .slice ra rows.length rc, .slice ga gn.length gc] 29)) := (Below.refl _ _).alloc (Nat.le_refl _) _
  have kp := Blk.new w2 #[.int .i64 m, .slice ra rows.length rc, .slice ga gn.length gc] 29
  have hx := solve_all (.agg #[.int .i64 m, .slice ra rows.length rc, .slice ga gn.length gc]) ⟨m, rows, gn⟩ _ ⟨_, _, rfl, hvr.below hA2, hvg.below hA2⟩
  rw [hsv, herr] at hx
  go_wp2_with fail
  refine hx.mono ?_
  rintro e w3 ⟨v9, rfl, ⟨vp, rfl, hst⟩, hB3⟩
  obtain ⟨pa, pc, rfl, -, -⟩ := hst.len
  have hA3 := hA2.trans (hB3.mono hA2.size)
  have hA4 : Below w3.heap.size w3 (w3.alloc (.cells #[.bool true, .int .i64 xs, .int .i64 xg, .slice pa pf.length pc] 37)) := (Below.refl _ _).alloc (Nat.le_refl _) _
  have hA5 := hA3.trans (hA4.mono hA3.size)
  have hBw3 := hBw2.trans (hA5.mono hBw2.size)
  have kp3 : Blk (w3.alloc (.cells #[.bool true, .int .i64 xs, .int .i64 xg, .slice pa pf.length pc] 37)) w2.heap.size #[.int .i64 m, .slice ra rows.length rc, .slice ga gn.length gc] 29 := (kp.below hB3 kp.lt).alloc _
  have ks3 := Blk.new w3 #[.bool true, .int .i64 xs, .int .i64 xg, .slice pa pf.length pc] 37
  have HV := Lib.hid (And.intro (hvr.below hA5) (And.intro (hvg.below hA5) (StepsAt.below hst hA4)))
  have HK := Lib.hid (And.intro kp3 (And.intro ks3 hBw3))
  have lp := kp3.lt
  have ls := ks3.lt
  have hlp : w2.heap.size < w3.heap.size := Nat.lt_of_lt_of_le kp.lt hB3.size
  have HV1 := Lib.hid (fun W (hW : Below (w3.alloc (.cells #[.bool true, .int .i64 xs, .int .i64 xg, .slice pa pf.length pc] 37)).heap.size (w3.alloc (.cells #[.bool true, .int .i64 xs, .int .i64 xg, .slice pa pf.length pc] 37)) W) => And.intro (HV.out.1.below hW) (And.intro (HV.out.2.1.below hW) (StepsAt.below HV.out.2.2 hW)))
  obtain ⟨V, hV⟩ : ∃ V, w3.alloc (.cells #[.bool true, .int .i64 xs, .int .i64 xg, .slice pa pf.length pc] 37) = V := ⟨_, rfl⟩
  rw [hV] at HV1 HK
  have kp3 := HK.out.1
  have ks3 := HK.out.2.1
  have j0 := kp3.cell 0
  have j1 := kp3.cell 1
  have j2 := kp3.cell 2
  have s0 := ks3.cell 0
  have s2 := ks3.cell 2
  have s3 := ks3.cell 3
  simp only [List.getElem?_toArray, List.getElem?_cons_succ, List.getElem?_cons_zero] at j0 j1 j2 s0 s2 s3
  have hb1 := Lib.hid (fun W (hW : Below V.heap.size V W) => bounds_any _ _ ⟨m, rows, gn⟩ pf xg W ⟨_, _, rfl, (HV1.out W hW).1, (HV1.out W hW).2.1⟩ (HV1.out W hW).2.2 hgl (by show rows.length ≤ 1000; omega))
  rw [H1.out] at hb1
  have hb2 := Lib.hid (fun W (hW : Below V.heap.size V W) => bounds_any _ _ ⟨m, rows, gn⟩ pf (xg - 1 - pickI less 50) W ⟨_, _, rfl, (HV1.out W hW).1, (HV1.out W hW).2.1⟩ (HV1.out W hW).2.2 hgl (by show rows.length ≤ 1000; omega))
  rw [HP.out] at hb2
  have hb3 := Lib.hid (fun W (hW : Below V.heap.size V W) => prefutes_any _ _ ⟨m, rows, gn⟩ pf W ⟨_, _, rfl, (HV1.out W hW).1, (HV1.out W hW).2.1⟩ (HV1.out W hW).2.2)
  rw [H3.out] at hb3
  have hpk := Lib.hid (fun W => pick54 less 50 W hless (by decide) (by decide))
  have hw1' : IntKind.i64.wrap (xg - 1) = xg - 1 := by rw [IntKind.wrap_i64]; omega
  have hw2' : IntKind.i64.wrap (xg - 1 - pickI less 50) = xg - 1 - pickI less 50 := by rw [IntKind.wrap_i64]; omega
  have HSX : Hid (∀ X, Below V.heap.size V X → Below V.heap.size V X ∧ X.cell? ⟨w2.heap.size, 0, none⟩ = some (.int .i64 m) ∧ X.cell? ⟨w2.heap.size, 1, none⟩ = some (.slice ra rows.length rc) ∧ X.cell? ⟨w2.heap.size, 2, none⟩ = some (.slice ga gn.length gc) ∧ X.cell? ⟨w3.heap.size, 2, none⟩ = some (.int .i64 xg) ∧ X.cell? ⟨w3.heap.size, 3, none⟩ = some (.slice pa pf.length pc)) := fun X hX => ⟨hX, (hX.cell (p := ⟨w2.heap.size, 0, none⟩) kp3.lt).trans j0, (hX.cell (p := ⟨w2.heap.size, 1, none⟩) kp3.lt).trans j1, (hX.cell (p := ⟨w2.heap.size, 2, none⟩) kp3.lt).trans j2, (hX.cell (p := ⟨w3.heap.size, 2, none⟩) ks3.lt).trans s2, (hX.cell (p := ⟨w3.heap.size, 3, none⟩) ks3.lt).trans s3⟩
  clear hx kp ks3 kp3 hA2 hA3 hA4 hA5 hBw3 hvr hvg hst hB3 hBw2 HV HV1
  generalize pickI less 50 = pk at *
  clear hp
  go_wp2_with fail

  clear hV
  go_region_held3 (fun w' => Below V.heap.size V w' ∧ w'.cell? ⟨w2.heap.size, 0, none⟩ = some (.int .i64 m) ∧ w'.cell? ⟨w2.heap.size, 1, none⟩ = some (.slice ra rows.length rc) ∧ w'.cell? ⟨w2.heap.size, 2, none⟩ = some (.slice ga gn.length gc) ∧ w'.cell? ⟨w3.heap.size, 2, none⟩ = some (.int .i64 xg) ∧ w'.cell? ⟨w3.heap.size, 3, none⟩ = some (.slice pa pf.length pc))
    (first | exact ⟨(Below.refl _ _).drew, j0, j1, j2, s2, s3⟩ | exact HSX.out _ hq1 | exact HSX.out _ hq2 | exact HSX.out _ hq3 | go_keep)
    (first | (go_at_call 54; refine (hpk.out _).mono ?_; rintro e w4 ⟨rfl, rfl⟩) | (go_at_call 48; refine (hb3.out _ (‹Below V.heap.size V _ ∧ _›).1).mono ?_; rintro e w6 ⟨rfl, hB6⟩; have hq3 := (‹Below V.heap.size V _ ∧ _›).1.trans (hB6.mono (‹Below V.heap.size V _ ∧ _›).1.size)) | (go_at_call 55; (with_reducible refine (hb1.out _ (‹Below V.heap.size V _ ∧ _›).1).mono ?_); rintro e w4 ⟨rfl, hB4⟩; have hq1 := (‹Below V.heap.size V _ ∧ _›).1.trans (hB4.mono (‹Below V.heap.size V _ ∧ _›).1.size)) | (go_at_call 55; (with_reducible refine (hb2.out _ (‹Below V.heap.size V _ ∧ _›).1).mono ?_); rintro e w5 ⟨rfl, hB5⟩; have hq2 := (‹Below V.heap.size V _ ∧ _›).1.trans (hB5.mono (‹Below V.heap.size V _ ∧ _›).1.size)))
  go_wp2
  go_ret
  exact ⟨rfl, HK.out.2.2.trans (hq3.mono HK.out.2.2.size)⟩
theorem complete_all (vars : Int) (vx : Value) (x : List X3) (gain : List Int) (less : Int) (w : World) (hv : InR vars) (hx : XsAt w vx x) (hxr : ∀ y ∈ x, XR y) (hg : gain.length = 8) (hgr : ∀ y ∈ gain, InR y) (hl : InR less) :
    Calls Try.prog 13 #[.int .i64 vars, vx, .agg (gain.map (Value.int .i64)).toArray, .int .i64 less] w fun e w' => e = .returned (.bool true) ∧ Below w.heap.size w w' := by
  obtain ⟨m, hG⟩ := goodP vars x gain
  have hmade := Lib.hid (fun W (hW : Below w.heap.size w W) => made_own vars vx x gain W hv (hx.below hW) hxr hg hgr)
  generalize madeP vars x gain = p at hG hmade
  obtain ⟨pv, rows, gn⟩ := p
  obtain rfl : pv = m := hG.vm
  obtain ⟨g0, g1, g2, g3, g4, g5, g6, g7, hge⟩ := list8 hg
  have harg : (gain.map (Value.int .i64)).toArray = #[.int .i64 g0, .int .i64 g1, .int .i64 g2, .int .i64 g3, .int .i64 g4, .int .i64 g5, .int .i64 g6, .int .i64 g7] := by rw [hge]; rfl
  rw [harg] at hmade ⊢
  cases ho : bestS ⟨(m : Int), rows, gn⟩ with
  | none => exact complete_false vars vx g0 g1 g2 g3 g4 g5 g6 g7 less m rows gn w hG ho hmade
  | some y => exact complete_true vars vx g0 g1 g2 g3 g4 g5 g6 g7 less hl m rows gn w hG y.1 y.2 ho hmade
end Go.Proofs.Ytblmpmapcdpaiaa

/- nadirlaw26.ProofMatchesReference: the walk. -/
import Derived.Test.YtblmpmapcdpaiaaS1
import Derived.Test.YtblmpmapcdpaiaaK7
import Derived.Test.YtblmpmapcdpaiaaF0
import Derived.Test.YtblmpmapcdpaiaaF1
import Derived.Test.YtblmpmapcdpaiaaF2
import Derived.Test.YtblmpmapcdpaiaaQ4
import Derived.Test.YtblmpmapcdpaiaaQ6
namespace Go.Proofs.Ytblmpmapcdpaiaa
open Go.RowKit Lib
attribute [local irreducible] wpStill

/-- Four lists of steps in a row. -/
def Steps4 (W : World) (b : Nat) : Prop := ∀ j, j < 4 → ∃ (l : List StepD) (a : Option Addr) (c : Nat), W.cell? ⟨b, j, none⟩ = some (.slice a l.length c) ∧ StepsAt W (.slice a l.length c) l ∧ l.length ≤ c ∧ c ≤ maxLen
theorem Steps4.of {W : World} {b : Nat} {t : TypeId} {v0 v1 v2 v3 : Value} {l0 l1 l2 l3 : List StepD} (hb : Blk W b #[v0, v1, v2, v3] t) (h0 : StepsAt W v0 l0) (h1 : StepsAt W v1 l1) (h2 : StepsAt W v2 l2) (h3 : StepsAt W v3 l3) : Steps4 W b := fun j hj => by
  have g : ∀ (i : Nat) (v : Value) (l : List StepD), (#[v0, v1, v2, v3] : Array Value)[i]? = some v → StepsAt W v l → ∃ (l : List StepD) (a : Option Addr) (c : Nat), W.cell? ⟨b, i, none⟩ = some (.slice a l.length c) ∧ StepsAt W (.slice a l.length c) l ∧ l.length ≤ c ∧ c ≤ maxLen := fun i v l hi hs => by
    obtain ⟨a, c, rfl, h1, h2⟩ := hs.len
    exact ⟨l, a, c, (hb.cell i).trans hi, hs, h1, h2⟩
  match j, hj with
  | 0, _ => exact g 0 _ _ rfl h0
  | 1, _ => exact g 1 _ _ rfl h1
  | 2, _ => exact g 2 _ _ rfl h2
  | 3, _ => exact g 3 _ _ rfl h3
/-- A program in memory, of moderate size. -/
def ProgAt (W : World) (b off : Nat) (p : ProgD) : Prop :=
  ∃ ra rc ga gc, W.cell? ⟨b, off, none⟩ = some (.int .i64 p.vars) ∧ W.cell? ⟨b, off + 1, none⟩ = some (.slice ra p.rows.length rc) ∧ W.cell? ⟨b, off + 2, none⟩ = some (.slice ga p.gain.length gc) ∧ RowsAt W (.slice ra p.rows.length rc) p.rows ∧ IntsAt W (.slice ga p.gain.length gc) p.gain ∧ (ra = none → rc = 0) ∧ p.rows.length ≤ 20 ∧ p.gain.length ≤ 60
theorem ProgAt.of {W : World} {B off : Nat} {cs : Array Value} {t : TypeId} (hb : Blk W B cs t) {p : ProgD} {ra : Option Addr} {rc : Nat} {ga : Option Addr} {gc : Nat} (h0 : cs[off]? = some (.int .i64 p.vars)) (h1 : cs[off + 1]? = some (.slice ra p.rows.length rc)) (h2 : cs[off + 2]? = some (.slice ga p.gain.length gc))
    (hr : RowsAt W (.slice ra p.rows.length rc) p.rows) (hg : IntsAt W (.slice ga p.gain.length gc) p.gain) (hn : ra = none → rc = 0) (hl : p.rows.length ≤ 20) (hl2 : p.gain.length ≤ 60) : ProgAt W B off p :=
  ⟨ra, rc, ga, gc, (hb.cell _).trans h0, (hb.cell _).trans h1, (hb.cell _).trans h2, hr, hg, hn, hl, hl2⟩
set_option maxRecDepth 100000 in
set_option maxHeartbeats 8000000 in
theorem pmatch_true (vars : Int) (vx vraw vs : Value) (g0 g1 g2 g3 g4 g5 g6 g7 z0 z1 z2 z3 z4 z5 z6 z7 : Int) (n : Int) (raw : ProgD) (st : List StepD) (m : Nat) (rows : List RowD) (gn : List Int) (w : World) (hG : GoodP ⟨(m : Int), rows, gn⟩ m)
    (hz : (InR z0 ∧ InR z1 ∧ InR z2 ∧ InR z3) ∧ (InR z4 ∧ InR z5 ∧ InR z6 ∧ InR z7)) (hn : InR n) (hraw : ProgV w vraw raw) (hst : StepsAt w vs st)
    (hmade : Hid (∀ W, Below w.heap.size w W → Calls Try.prog 17 #[.int .i64 vars, vx, .agg #[.int .i64 g0, .int .i64 g1, .int .i64 g2, .int .i64 g3, .int .i64 g4, .int .i64 g5, .int .i64 g6, .int .i64 g7]] W fun e w' => ∃ ra rc ga gc, e = .returned (.agg #[.int .i64 m, .slice ra rows.length rc, .slice ga gn.length gc]) ∧ (RowsAt w' (.slice ra rows.length rc) rows ∧ IntsAt w' (.slice ga gn.length gc) gn ∧ (ra = none → rc = 0)) ∧ (rows.length ≤ rc ∧ rc ≤ maxLen) ∧ (gn.length ≤ gc ∧ gc ≤ maxLen) ∧ Below W.heap.size W w')) :
    Calls Try.prog 10 #[.int .i64 vars, vx, .agg #[.int .i64 g0, .int .i64 g1, .int .i64 g2, .int .i64 g3, .int .i64 g4, .int .i64 g5, .int .i64 g6, .int .i64 g7], vraw, .agg #[.int .i64 z0, .int .i64 z1, .int .i64 z2, .int .i64 z3, .int .i64 z4, .int .i64 z5, .int .i64 z6, .int .i64 z7], vs, .int .i64 n] w fun e w' => e = .returned (.bool true) ∧ Below w.heap.size w w' := by
  obtain ⟨vrr, vrg, rfl, hrr, hrg⟩ := hraw
  obtain ⟨rra, rrc, rfl, hrr1, hrr2⟩ := (show SlicesLen vrr raw.rows.length from hrr.len)
  obtain ⟨rga, rgc, rfl, hrg1, hrg2⟩ := (show SlicesLen vrg raw.gain.length from hrg.len)
  unfold maxLen at hrr2 hrg2
  have hval := hG.val
  have hm8 := hG.m8
  have hsm1 := solve_small hval (by show (m : Int) ≤ 8; omega)
  have hsv1 := Lib.hid (fun ra rc ga gc W h => solve_view (m : Int) rows gn ra rc ga gc W h hval)
  have hgl : gn.length ≤ 60 := by have := (validB_true hval).2.2.2.2.1; simp only at this; omega
  have hrl : rows.length ≤ 8 := hG.n8
  generalize solveV ⟨(m : Int), rows, gn⟩ = s1 at hsm1 hsv1
  have HSM := Lib.hid hsm1
  have HST := Lib.hid hst
  have HRAW := Lib.hid (And.intro hrr hrg)
  clear hval hG hsm1 hst hrr hrg
  go_enter Try.func10, Try.ntmps10
  go_wp2_with fail
  refine (sane26_true _).mono ?_
  rintro e w1 ⟨rfl, hBa⟩
  have hBw1 : Below w.heap.size w w1 := ((((Below.refl _ _).alloc (Nat.le_refl _) _).alloc (by simp) _).alloc (by simp; omega) _).trans (hBa.mono (by simp; omega))
  have kg : Blk w1 w.heap.size #[.int .i64 g0, .int .i64 g1, .int .i64 g2, .int .i64 g3, .int .i64 g4, .int .i64 g5, .int .i64 g6, .int .i64 g7] 23 := (((Blk.new w _ 23).alloc _).alloc _).below hBa (by simp; omega)
  have kr : Blk w1 (w.heap.size + 1) #[.int .i64 raw.vars, .slice rra raw.rows.length rrc, .slice rga raw.gain.length rgc] 29 := ((Blk.newAt _ _ 29 (by simp)).alloc _).below hBa (by simp)
  have kz : Blk w1 (w.heap.size + 1 + 1) #[.int .i64 z0, .int .i64 z1, .int .i64 z2, .int .i64 z3, .int .i64 z4, .int .i64 z5, .int .i64 z6, .int .i64 z7] 67 := (Blk.newAt _ _ 67 (by simp)).below hBa (by simp)
  clear hBa
  have i0 := kg.cell 0
  have i1 := kg.cell 1
  have i2 := kg.cell 2
  have i3 := kg.cell 3
  have i4 := kg.cell 4
  have i5 := kg.cell 5
  have i6 := kg.cell 6
  have i7 := kg.cell 7
  simp only [List.getElem?_toArray, List.getElem?_cons_succ, List.getElem?_cons_zero] at i0 i1 i2 i3 i4 i5 i6 i7
  go_wp2_with fail
  refine (hmade.out w1 hBw1).mono ?_
  rintro e w2 ⟨ra, rc, ga, gc, rfl, hv, hrc, hgc, hB2⟩
  obtain ⟨hrc1, hrc2⟩ := hrc
  obtain ⟨hgc1, hgc2⟩ := hgc
  unfold maxLen at hrc2 hgc2
  have hA2 : Below w2.heap.size w2 (w2.alloc (.cells #[.int .i64 m, .slice ra rows.length rc, .slice ga gn.length gc] 29)) := (Below.refl _ _).alloc (Nat.le_refl _) _
  have kp := Blk.new w2 #[.int .i64 m, .slice ra rows.length rc, .slice ga gn.length gc] 29
  have hvA := And.intro (hv.1.below hA2) (And.intro (hv.2.1.below hA2) hv.2.2)
  have hBwA := (hBw1.trans (hB2.mono hBw1.size)).trans (hA2.mono (hBw1.trans (hB2.mono hBw1.size)).size)
  replace kr := (kr.below hB2 kr.lt).alloc (.cells #[.int .i64 m, .slice ra rows.length rc, .slice ga gn.length gc] 29)
  replace kz := (kz.below hB2 kz.lt).alloc (.cells #[.int .i64 m, .slice ra rows.length rc, .slice ga gn.length gc] 29)
  clear hv hBw1 hB2 hmade i0 i1 i2 i3 i4 i5 i6 i7 kg
  go_wp2_with fail
  refine (hsv1.out ra rc ga gc _ hvA).mono ?_
  rintro e w3 ⟨pa, pc, rfl, hst1, hpl1, hB3⟩
  have hpc1 := hpl1.1
  have hpc2 := hpl1.2
  unfold maxLen at hpc2
  replace kr := kr.below hB3 kr.lt
  replace kz := kz.below hB3 kz.lt
  replace kp := kp.below hB3 kp.lt
  have hvB := And.intro (hvA.1.below hB3) (And.intro (hvA.2.1.below hB3) hvA.2.2)
  have hBw3 := hBwA.trans (hB3.mono hBwA.size)
  clear hvA hB3 hA2 hBwA hsv1
  have hA4 : Below w3.heap.size w3 (w3.alloc (.cells #[.bool s1.found, .int .i64 s1.set, .int .i64 s1.gain, .slice pa s1.proof.length pc] 37)) := (Below.refl _ _).alloc (Nat.le_refl _) _
  have ks := Blk.new w3 #[.bool s1.found, .int .i64 s1.set, .int .i64 s1.gain, .slice pa s1.proof.length pc] 37
  replace kr := kr.alloc (.cells #[.bool s1.found, .int .i64 s1.set, .int .i64 s1.gain, .slice pa s1.proof.length pc] 37)
  replace kz := kz.alloc (.cells #[.bool s1.found, .int .i64 s1.set, .int .i64 s1.gain, .slice pa s1.proof.length pc] 37)
  have l23 : w2.heap.size < w3.heap.size := kp.lt
  replace kp := kp.alloc (.cells #[.bool s1.found, .int .i64 s1.set, .int .i64 s1.gain, .slice pa s1.proof.length pc] 37)
  replace hst1 := StepsAt.below hst1 hA4
  replace hvB := And.intro (hvB.1.below hA4) (And.intro (hvB.2.1.below hA4) hvB.2.2)
  replace hBw3 := hBw3.trans (hA4.mono hBw3.size)
  clear hA4
  go_upto_region 8 with fail
  generalize w3.alloc (.cells #[.bool s1.found, .int .i64 s1.set, .int .i64 s1.gain, .slice pa s1.proof.length pc] 37) = V at *
  have i0 := kz.cell 0
  have i1 := kz.cell 1
  have i2 := kz.cell 2
  have i3 := kz.cell 3
  have s3 := ks.cell 3
  simp only [List.getElem?_toArray, List.getElem?_cons_succ, List.getElem?_cons_zero] at i0 i1 i2 i3 s3
  obtain ⟨hz1, hz2⟩ := hz
  have hbn := bent_any (.slice pa s1.proof.length pc) s1.proof z0 z1 z2 z3 _ hst1 (by have := HSM.out.1.1; omega) (fun t ht => by have := HSM.out.1.2 t ht; omega) hz1.1 hz1.2.1 hz1.2.2.1 hz1.2.2.2
  go_wp2_with fail
  refine hbn.mono ?_
  rintro e w4 ⟨vb, rfl, hsb, hB4⟩
  obtain ⟨ba, bc, rfl, hbl1, hbl2⟩ := hsb.len
  unfold maxLen at hbl2
  have hBw4 := hBw3.trans (hB4.mono hBw3.size)
  replace kr := kr.below hB4 kr.lt
  replace kz := kz.below hB4 kz.lt
  replace kp := kp.below hB4 kp.lt
  replace ks := ks.below hB4 ks.lt
  replace hst1 := StepsAt.below hst1 hB4
  replace hvB := And.intro (hvB.1.below hB4) (And.intro (hvB.2.1.below hB4) hvB.2.2)
  clear i0 i1 i2 i3 s3 hbn
  have j0 := kp.cell 0
  have j1 := kp.cell 1
  have j2 := kp.cell 2
  have r0 := kr.cell 0
  have r1 := kr.cell 1
  have r2 := kr.cell 2
  simp only [List.getElem?_toArray, List.getElem?_cons_succ, List.getElem?_cons_zero] at j0 j1 j2 r0 r1 r2
  have lp := kp.lt
  have lr := kr.lt
  have hsome := Lib.hid (fun W (hW : Below w4.heap.size w4 W) => some_any (.agg #[.int .i64 raw.vars, .slice rra raw.rows.length rrc, .slice rga raw.gain.length rgc]) raw W ⟨_, _, rfl, (HRAW.out.1.below hBw4).below hW, (HRAW.out.2.below hBw4).below hW⟩)
  have HC := Lib.hid (fun W (hW : Below w4.heap.size w4 W) => show W.cell? ⟨w2.heap.size, 0, none⟩ = some (.int .i64 m) ∧ W.cell? ⟨w2.heap.size, 1, none⟩ = some (.slice ra rows.length rc) ∧ W.cell? ⟨w2.heap.size, 2, none⟩ = some (.slice ga gn.length gc) ∧ W.cell? ⟨w.heap.size + 1, 0, none⟩ = some (.int .i64 raw.vars) ∧ W.cell? ⟨w.heap.size + 1, 1, none⟩ = some (.slice rra raw.rows.length rrc) ∧ W.cell? ⟨w.heap.size + 1, 2, none⟩ = some (.slice rga raw.gain.length rgc) from ⟨(hW.cell lp).trans j0, (hW.cell lp).trans j1, (hW.cell lp).trans j2, (hW.cell lr).trans r0, (hW.cell lr).trans r1, (hW.cell lr).trans r2⟩)
  have HSB := Lib.hid hsb
  have HK := Lib.hid (And.intro ks (And.intro kz hst1))
  have HVB := Lib.hid hvB
  have HBW := Lib.hid hBw4
  clear ks kz hst1 hvB hsb kp kr hBw4 hBw3 hB4
  have HSMB := Lib.hid (HSM.out.1.bent z0 z1 z2 z3)
  generalize bentD s1.proof z0 z1 z2 z3 = bl at *
  go_upto_region 9 with fail
  go_cut [52, 53, 54] from 49 to 54 (fun u52 u53 u54 wx => ∃ B : Nat, u52 = .slice (some ⟨B, 0, none⟩) 2 2 ∧ u53 = .int .i64 2 ∧ u54 = .int .i64 0 ∧ ProgAt wx B 0 ⟨m, rows, gn⟩ ∧ ProgAt wx B 3 (fewQ raw) ∧ Below w4.heap.size w4 wx)
  case first =>
    go_region_held3 (fun w' => Below w4.heap.size w4 w' ∧ w'.cell? ⟨w2.heap.size, 0, none⟩ = some (.int .i64 m) ∧ w'.cell? ⟨w2.heap.size, 1, none⟩ = some (.slice ra rows.length rc) ∧ w'.cell? ⟨w2.heap.size, 2, none⟩ = some (.slice ga gn.length gc) ∧ w'.cell? ⟨w.heap.size + 1, 0, none⟩ = some (.int .i64 raw.vars) ∧ w'.cell? ⟨w.heap.size + 1, 1, none⟩ = some (.slice rra raw.rows.length rrc) ∧ w'.cell? ⟨w.heap.size + 1, 2, none⟩ = some (.slice rga raw.gain.length rgc))
      (first | exact ⟨(Below.refl _ _).drew, j0, j1, j2, r0, r1, r2⟩ | (have hh := (‹Below w4.heap.size w4 _ ∧ _›).1; have hb := hh.trans (hBq.mono hh.size); exact ⟨hb, HC.out _ hb⟩) | (have hh := (‹Below w4.heap.size w4 _ ∧ _›).1; exact ⟨hh.alloc hh.size _, HC.out _ (hh.alloc hh.size _)⟩))
      (first | (go_at_call 44; refine (hsome.out _ (‹Below w4.heap.size w4 _ ∧ _›).1).mono ?_; rintro e wq ⟨ra7, rc7, ga7, gc7, rfl, hp7, hn7, hBq⟩; have HQ := Lib.hid (And.intro hp7 hn7); clear hp7 hn7))
    go_wp2_with fail
    go_meet
    have hh := (‹Below w4.heap.size w4 _ ∧ _›).1
    obtain ⟨⟨vr7, vg7, e7, hr7, hg7⟩, hn7⟩ := HQ.out
    cases e7
    obtain ⟨hv1, hv2, hv3⟩ := HVB.out
    have hA : Below wq.heap.size wq (wq.alloc (.cells #[.int .i64 m, .slice ra rows.length rc, .slice ga gn.length gc, .int .i64 raw.vars, .slice ra7 (fewQ raw).rows.length rc7, .slice ga7 (fewQ raw).gain.length gc7] 29)) := (Below.refl _ _).alloc (Nat.le_refl _) _
    have k9 := Blk.new wq #[.int .i64 m, .slice ra rows.length rc, .slice ga gn.length gc, .int .i64 raw.vars, .slice ra7 (fewQ raw).rows.length rc7, .slice ga7 (fewQ raw).gain.length gc7] 29
    exact ⟨wq.heap.size, rfl, rfl, rfl, ProgAt.of k9 rfl rfl rfl (hv1.below hh) (hv2.below hh) hv3 (by simp only; omega) (by simp only; omega), ProgAt.of k9 rfl rfl rfl (hr7.below hA) (hg7.below hA) hn7 (by unfold fewQ fewO; simp; omega) (by unfold fewQ; simp; omega), hh⟩
  case rest =>
    rename World => wx
    obtain ⟨B, rfl, rfl, rfl, hp0, hp1, hBx⟩ := hcut
    have hBwx := HBW.out.trans (hBx.mono HBW.out.size)
    obtain ⟨ks', kz', hst1⟩ := HK.out
    have ks := ks'.below hBx ks'.lt
    have kz := kz'.below hBx kz'.lt
    have HP := Lib.hid (And.intro hp0 hp1)
    have HKX := Lib.hid (And.intro ks (And.intro kz (And.intro (StepsAt.below hst1 hBx) (StepsAt.below HSB.out hBx))))
    have HSX := Lib.hid (StepsAt.below HST.out hBwx)
    have HBWX := Lib.hid hBwx
    clear ks' kz' hst1 ks kz hp0 hp1 HC hsome HVB HK HSB HST HRAW HBW j0 j1 j2 r0 r1 r2 hBwx lp lr hBx
    go_wp2
    go_loopw [54] (fun u54 wr => ∃ i : Nat, i ≤ 2 ∧ u54 = .int .i64 i ∧ Below wx.heap.size wx wr) (fun u54 _ => (2 - Go.RowKit.intOf u54).toNat)
    case atStart => exact ⟨0, by omega, rfl, Below.refl _ _⟩
    case round =>
      obtain ⟨i, hi, rfl, hBk⟩ := hrel
      rename World => wr
      by_cases hi2 : i < 2
      · have hP : ∃ p, ProgAt wx B (i * 3) p := by
          match i, hi2 with
          | 0, _ => exact ⟨_, HP.out.1⟩
          | 1, _ => exact ⟨_, HP.out.2⟩
        obtain ⟨p, qra, qrc, qga, qgc, c0, c1, c2, hr, hg, hnil, hl20, hl60⟩ := hP
        have lB := World.block_lt_of_cell? _ _ c0
        simp only at lB
        replace c0 := (hBk.cell (by simpa using lB)).trans c0
        replace c1 := (hBk.cell (by simpa using lB)).trans c1
        replace c2 := (hBk.cell (by simpa using lB)).trans c2
        obtain ⟨ks', kz', hst1', hsb'⟩ := HKX.out
        have hA : Below wr.heap.size wr (wr.alloc (.cells #[.int .i64 p.vars, .slice qra p.rows.length qrc, .slice qga p.gain.length qgc] 29)) := (Below.refl _ _).alloc (Nat.le_refl _) _
        have kq := Blk.new wr #[.int .i64 p.vars, .slice qra p.rows.length qrc, .slice qga p.gain.length qgc] 29
        have hBA := hBk.trans (hA.mono hBk.size)
        have ks := ks'.below hBA ks'.lt
        have kz := kz'.below hBA kz'.lt
        have hst1 := StepsAt.below hst1' hBA
        have hsb := StepsAt.below hsb' hBA
        have hrA := hr.below hBA
        have hgA := hg.below hBA
        clear ks' kz' hst1' hsb' hr hg
        go_upto_region 12 with fail
        clear c0 c1 c2
        have hwr : wr.heap.size < (wr.alloc (.cells #[.int .i64 p.vars, .slice qra p.rows.length qrc, .slice qga p.gain.length qgc] 29)).heap.size := by simp
        generalize wr.alloc (.cells #[.int .i64 p.vars, .slice qra p.rows.length qrc, .slice qga p.gain.length qgc] 29) = V2 at *
        have i4 := kz.cell 4
        have i5 := kz.cell 5
        have i6 := kz.cell 6
        have i7 := kz.cell 7
        have s3 := ks.cell 3
        simp only [List.getElem?_toArray, List.getElem?_cons_succ, List.getElem?_cons_zero] at i4 i5 i6 i7 s3
        have lz := kz.lt
        have ls := ks.lt
        have HST1 := Lib.hid hst1
        have HSB := Lib.hid hsb
        have hbn := Lib.hid (fun W (hW : Below V2.heap.size V2 W) => bent_any (.slice ba _ bc) bl z4 z5 z6 z7 W (StepsAt.below hsb hW) (by have := HSMB.out.1; omega) (fun t ht => by have := HSMB.out.2 t ht; omega) hz2.1 hz2.2.1 hz2.2.2.1 hz2.2.2.2)
        have hfw := Lib.hid (fun W (hW : Below V2.heap.size V2 W) => few_steps vs st W ((StepsAt.below HSX.out hBA).below hW))
        have HC := Lib.hid (fun W (hW : Below V2.heap.size V2 W) => show W.cell? ⟨w3.heap.size, 3, none⟩ = some (.slice pa s1.proof.length pc) ∧ W.cell? ⟨w.heap.size + 1 + 1, 4, none⟩ = some (.int .i64 z4) ∧ W.cell? ⟨w.heap.size + 1 + 1, 5, none⟩ = some (.int .i64 z5) ∧ W.cell? ⟨w.heap.size + 1 + 1, 6, none⟩ = some (.int .i64 z6) ∧ W.cell? ⟨w.heap.size + 1 + 1, 7, none⟩ = some (.int .i64 z7) from ⟨(hW.cell ls).trans s3, (hW.cell lz).trans i4, (hW.cell lz).trans i5, (hW.cell lz).trans i6, (hW.cell lz).trans i7⟩)
        have HK := Lib.hid (And.intro ks kq)
        have HR := Lib.hid (And.intro hrA hgA)
        clear ks kz hst1 hsb kq hrA hgA
        go_cut [67, 68, 69] from 55 to 69 (fun u67 u68 u69 wy => ∃ B2 : Nat, u67 = .slice (some ⟨B2, 0, none⟩) 4 4 ∧ u68 = .int .i64 4 ∧ u69 = .int .i64 0 ∧ Steps4 wy B2 ∧ Below V2.heap.size V2 wy)
        case first =>
          go_region_held3 (fun w' => Below V2.heap.size V2 w' ∧ w'.cell? ⟨w3.heap.size, 3, none⟩ = some (.slice pa s1.proof.length pc) ∧ w'.cell? ⟨w.heap.size + 1 + 1, 4, none⟩ = some (.int .i64 z4) ∧ w'.cell? ⟨w.heap.size + 1 + 1, 5, none⟩ = some (.int .i64 z5) ∧ w'.cell? ⟨w.heap.size + 1 + 1, 6, none⟩ = some (.int .i64 z6) ∧ w'.cell? ⟨w.heap.size + 1 + 1, 7, none⟩ = some (.int .i64 z7))
            (first | exact ⟨(Below.refl _ _).drew, HC.out _ (Below.refl _ _).drew⟩ | (have hh := (‹Below V2.heap.size V2 _ ∧ _›).1; have hb := hh.trans (hBq.mono hh.size); exact ⟨hb, HC.out _ hb⟩) | (have hh := (‹Below V2.heap.size V2 _ ∧ _›).1; exact ⟨hh.alloc hh.size _, HC.out _ (hh.alloc hh.size _)⟩))
            (first | (go_at_call 43; refine (hbn.out _ (‹Below V2.heap.size V2 _ ∧ _›).1).mono ?_; rintro e wq ⟨vq, rfl, hsq, hBq⟩; obtain ⟨qa, qc, rfl, -, -⟩ := hsq.len; have HQ := Lib.hid hsq; clear hsq) | (go_at_call 45; refine (hfw.out _ (‹Below V2.heap.size V2 _ ∧ _›).1).mono ?_; rintro e wf ⟨vf, rfl, hsf, hBq⟩; obtain ⟨fa, fc, rfl, -, -⟩ := hsf.len; have HF := Lib.hid hsf; clear hsf))
          all_goals (
            go_wp2_with fail
            go_meet
            have hh := (‹Below V2.heap.size V2 _ ∧ _›).1
            first
              | (have hA : Below wf.heap.size wf (wf.alloc (.cells #[.slice pa s1.proof.length pc, .slice ba bl.length bc, .slice qa (bentD bl z4 z5 z6 z7).length qc, .slice fa (fewS st 40).length fc] 35)) := (Below.refl _ _).alloc (Nat.le_refl _) _
                 exact ⟨wf.heap.size, rfl, rfl, rfl, Steps4.of (Blk.new wf _ 35) (StepsAt.below HST1.out hh) (StepsAt.below HSB.out hh) ((StepsAt.below HQ.out hBq).below hA) (StepsAt.below HF.out hA), hh⟩)
              | (have hA : Below wq.heap.size wq (wq.alloc (.cells #[.slice pa s1.proof.length pc, .slice ba bl.length bc, .slice qa (bentD bl z4 z5 z6 z7).length qc, .slice fa (fewS st 40).length fc] 35)) := (Below.refl _ _).alloc (Nat.le_refl _) _
                 exact ⟨wq.heap.size, rfl, rfl, rfl, Steps4.of (Blk.new wq _ 35) (StepsAt.below HST1.out hh) (StepsAt.below HSB.out hh) (StepsAt.below HQ.out hA) ((StepsAt.below HF.out hBq).below hA), hh⟩))
        case rest =>
          rename World => wy
          obtain ⟨B2, rfl, rfl, rfl, h4, hBy⟩ := hcut
          have hBxy := hBA.trans (hBy.mono hBA.size)
          have ks := HK.out.1.below hBy HK.out.1.lt
          have kq := HK.out.2.below hBy HK.out.2.lt
          have HKY := Lib.hid (And.intro ks kq)
          have HRY := Lib.hid (And.intro (HR.out.1.below hBy) (HR.out.2.below hBy))
          have H4 := Lib.hid h4
          have HBXY := Lib.hid hBxy
          clear ks kq h4 hBxy HK HR HC hbn hfw HST1 HSB i4 i5 i6 i7 s3 ls lz hBy
          go_wp2
          go_loopw [69] (fun u69 wr => ∃ j : Nat, j ≤ 4 ∧ u69 = .int .i64 j ∧ Below wy.heap.size wy wr) (fun u69 _ => (4 - Go.RowKit.intOf u69).toNat)
          case atStart => exact ⟨0, by omega, rfl, Below.refl _ _⟩
          case round =>
            obtain ⟨j, hj, rfl, hBj⟩ := hrel
            rename World => wj
            by_cases hj4 : j < 4
            · obtain ⟨l, qa, qc, d0, hls, hll1, hll2⟩ := H4.out j hj4
              unfold maxLen at hll2
              have lB2 := World.block_lt_of_cell? _ _ d0
              simp only at lB2
              replace d0 := (hBj.cell (by simpa using lB2)).trans d0
              have HLS := Lib.hid (fun W (hW : Below wj.heap.size wj W) => (StepsAt.below hls hBj).below hW)
              have hs1 := Lib.hid (fun W (hW : Below wj.heap.size wj W) => size_any (.slice qa l.length qc) l W (HLS.out W hW))
              have hs2 := Lib.hid (fun W (hW : Below wj.heap.size wj W) => rsize_any (.slice qa l.length qc) l W (HLS.out W hW))
              have HPV := Lib.hid (fun W (hW : Below wj.heap.size wj W) => show ProgV W (.agg #[.int .i64 p.vars, .slice qra p.rows.length qrc, .slice qga p.gain.length qgc]) p from ⟨_, _, rfl, (HRY.out.1.below hBj).below hW, (HRY.out.2.below hBj).below hW⟩)
              have h48 := Lib.hid (fun W (hW : Below wj.heap.size wj W) => prefutes_any _ _ p l W (HPV.out W hW) (HLS.out W hW))
              have h49 := Lib.hid (fun W (hW : Below wj.heap.size wj W) => rrefutes_any _ _ p l W (HPV.out W hW) (HLS.out W hW))
              have h50 := Lib.hid (fun W (hW : Below wj.heap.size wj W) => wrong_any _ _ p l W (HPV.out W hW) (HLS.out W hW))
              have h51 := Lib.hid (fun W (hW : Below wj.heap.size wj W) => rwrongD _ _ p l W (HPV.out W hW) (HLS.out W hW))
              have h52 := Lib.hid (fun W (hW : Below wj.heap.size wj W) => rows_any _ _ p l W (HPV.out W hW) (HLS.out W hW) (by omega))
              have h53 := Lib.hid (fun W (hW : Below wj.heap.size wj W) => rrows_any _ _ p l W (HPV.out W hW) (HLS.out W hW) (by omega))
              have h55 := Lib.hid (fun g W (hW : Below wj.heap.size wj W) => bounds_any _ _ p l g W (HPV.out W hW) (HLS.out W hW) hl60 (by omega))
              have h56 := Lib.hid (fun g W (hW : Below wj.heap.size wj W) => rbounds_any _ _ p l g W (HPV.out W hW) (HLS.out W hW) (fun c vr vg e1 e2 => by subst e2; simp at e1; obtain ⟨⟨h1, h2, h3⟩, -⟩ := e1; rw [← h3]; exact hnil h1))
              generalize ((l.length : Int) - (leavesK l l.length : Int)) = n1 at hs1 hs2
              generalize ((leavesK l l.length : Nat) : Int) = n2 at hs1 hs2
              generalize (wrongD p l == -1) = vb at h48 h49
              generalize wrongD p l = wd at h50 h51
              generalize rowsU p l = ru at h52 h53
              clear hls HLS HPV lB2
              go_wp2_with fail
              refine (hs1.out _ (Below.refl _ _)).mono ?_
              rintro e w7 ⟨rfl, hB7⟩
              go_wp2_with fail
              refine (hs2.out _ hB7).mono ?_
              rintro e w8 ⟨rfl, hB8⟩
              have hB78 := hB7.trans (hB8.mono hB7.size)
              have kq := HKY.out.2.below (hBj.trans (hB78.mono hBj.size)) HKY.out.2.lt
              have j0 := kq.cell 0
              have j1 := kq.cell 1
              have j2 := kq.cell 2
              simp only [List.getElem?_toArray, List.getElem?_cons_succ, List.getElem?_cons_zero] at j0 j1 j2
              have lq := kq.lt
              have HC := Lib.hid (fun W (hW : Below w8.heap.size w8 W) => show W.cell? ⟨wr.heap.size, 0, none⟩ = some (.int .i64 p.vars) ∧ W.cell? ⟨wr.heap.size, 1, none⟩ = some (.slice qra p.rows.length qrc) ∧ W.cell? ⟨wr.heap.size, 2, none⟩ = some (.slice qga p.gain.length qgc) from ⟨(hW.cell lq).trans j0, (hW.cell lq).trans j1, (hW.cell lq).trans j2⟩)
              have HB78 := Lib.hid (fun W (hW : Below w8.heap.size w8 W) => hB78.trans (hW.mono hB78.size))
              clear kq d0 hB7 hB8 hB78
              go_upto_region 17 with fail
              go_cut [118] from 70 to 118 (fun u118 wz => u118 = .bool false ∧ Below w8.heap.size w8 wz)
              case first =>
                go_region_held3 (fun w' => Below w8.heap.size w8 w' ∧ w'.cell? ⟨wr.heap.size, 0, none⟩ = some (.int .i64 p.vars) ∧ w'.cell? ⟨wr.heap.size, 1, none⟩ = some (.slice qra p.rows.length qrc) ∧ w'.cell? ⟨wr.heap.size, 2, none⟩ = some (.slice qga p.gain.length qgc))
                  (first | exact ⟨(Below.refl _ _).drew, HC.out _ (Below.refl _ _).drew⟩ | (have hh := (‹Below w8.heap.size w8 _ ∧ _›).1; have hb := hh.trans (hBq.mono hh.size); exact ⟨hb, HC.out _ hb⟩) | (have hh := (‹Below w8.heap.size w8 _ ∧ _›).1; have hb := hh.trans (hB52.mono hh.size); exact ⟨hb, HC.out _ hb⟩) | (have hh := (‹Below w8.heap.size w8 _ ∧ _›).1; have hb := hh.trans (hB53.mono hh.size); exact ⟨hb, HC.out _ hb⟩))
                  (first
                    | (go_at_call 48; refine (h48.out _ (HB78.out _ (‹Below w8.heap.size w8 _ ∧ _›).1)).mono ?_; rintro e wq ⟨rfl, hBq⟩)
                    | (go_at_call 49; refine (h49.out _ (HB78.out _ (‹Below w8.heap.size w8 _ ∧ _›).1)).mono ?_; rintro e wq ⟨rfl, hBq⟩)
                    | (go_at_call 50; refine (h50.out _ (HB78.out _ (‹Below w8.heap.size w8 _ ∧ _›).1)).mono ?_; rintro e wq ⟨rfl, hBq⟩)
                    | (go_at_call 51; refine (h51.out _ (HB78.out _ (‹Below w8.heap.size w8 _ ∧ _›).1)).mono ?_; rintro e wq ⟨rfl, hBq⟩)
                    | (go_at_call 52; refine (h52.out _ (HB78.out _ (‹Below w8.heap.size w8 _ ∧ _›).1)).mono ?_; rintro e w52 ⟨v52, rfl, hi52, hB52⟩; have HI52 := Lib.hid hi52; clear hi52)
                    | (go_at_call 53; refine (h53.out _ (HB78.out _ (‹Below w8.heap.size w8 _ ∧ _›).1)).mono ?_; rintro e w53 ⟨v53, rfl, hi53, hB53⟩; have HI53 := Lib.hid hi53; clear hi53)
                    | (go_at_call 25; (first | refine (ints_same v52 v53 ru _ (HI52.out.below hB53) HI53.out).mono ?_ | refine (ints_same v52 v53 ru _ HI52.out (HI53.out.below hB52)).mono ?_); rintro e wq ⟨rfl, hBq⟩))
                all_goals (
                  go_wp2_with fail
                  go_meet
                  exact ⟨rfl, (‹Below w8.heap.size w8 _ ∧ _›).1⟩)
              case rest =>
                rename World => wz
                obtain ⟨rfl, hBz⟩ := hcut
                have hBjz := Lib.hid (HB78.out _ hBz)
                have hpk := Lib.hid (fun W => pick54 n 7 W hn (by decide) (by decide))
                have hpb := pickI_bd n (n := 7) (by decide)
                generalize pickI n 7 = pk at hpk hpb
                have hsg1 := HSM.out.2.1
                have hsg2 := HSM.out.2.2
                have hw1 : IntKind.i64.wrap (s1.gain + pk) = s1.gain + pk := wrapS _ (by omega) (by omega)
                have hw2 : IntKind.i64.wrap (s1.gain + pk - 3) = s1.gain + pk - 3 := wrapS _ (by omega) (by omega)
                have ks := HKY.out.1.below (hBj.trans (hBjz.out.mono hBj.size)) HKY.out.1.lt
                have s2 := ks.cell 2
                simp only [List.getElem?_toArray, List.getElem?_cons_succ, List.getElem?_cons_zero] at s2
                have ls := ks.lt
                clear ks j0 j1 j2 lq hs1 hs2 h48 h49 h50 h51 h52 h53 HC
                go_upto_region 19 with fail
                go_cut [128, 129, 130] from 119 to 130 (fun u128 u129 u130 wy => ∃ B3 : Nat, u128 = .slice (some ⟨B3, 0, none⟩) 3 3 ∧ u129 = .int .i64 3 ∧ u130 = .int .i64 0 ∧ Blk wy B3 #[.int .i64 n, .int .i64 s1.gain, .int .i64 (s1.gain + pk - 3)] 3 ∧ Below wz.heap.size wz wy)
                case first =>
                  go_region_held3 (fun w' => Below wz.heap.size wz w' ∧ w'.cell? ⟨w3.heap.size, 2, none⟩ = some (.int .i64 s1.gain))
                    (first | exact ⟨(Below.refl _ _).drew, s2⟩ | (have hh := (‹Below wz.heap.size wz _ ∧ _›).1; exact ⟨hh.alloc hh.size _, ((hh.alloc hh.size _).cell ls).trans s2⟩) | go_keep)
                    (first | (go_at_call 54; refine (hpk.out _).mono ?_; rintro e w4 ⟨rfl, rfl⟩))
                  go_wp2_with fail
                  go_meet
                  exact ⟨_, rfl, rfl, rfl, Blk.new wz _ 3, ((Below.refl _ _).alloc (Nat.le_refl _) _).drew⟩
                case rest =>
                  rename World => wt
                  obtain ⟨B3, rfl, rfl, rfl, hb3, hBt⟩ := hcut
                  have HBT := Lib.hid (hBjz.out.trans (hBt.mono hBjz.out.size))
                  have HB3 := Lib.hid hb3
                  clear hb3 hBt ls s2 hpk
                  go_wp2
                  go_loopw [130] (fun u130 wr => ∃ k : Nat, k ≤ 3 ∧ u130 = .int .i64 k ∧ Below wt.heap.size wt wr) (fun u130 _ => (3 - Go.RowKit.intOf u130).toNat)
                  case atStart => exact ⟨0, by omega, rfl, Below.refl _ _⟩
                  case round =>
                    obtain ⟨k, hk, rfl, hBk2⟩ := hrel
                    rename World => wk
                    by_cases hk3 : k < 3
                    · have hcell : ∃ g : Int, wt.cell? ⟨B3, k, none⟩ = some (.int .i64 g) := by
                        match k, hk3 with
                        | 0, _ => exact ⟨_, HB3.out.cell 0⟩
                        | 1, _ => exact ⟨_, HB3.out.cell 1⟩
                        | 2, _ => exact ⟨_, HB3.out.cell 2⟩
                      obtain ⟨g, d0⟩ := hcell
                      have lB3 := HB3.out.lt
                      replace d0 := (hBk2.cell (by simpa using lB3)).trans d0
                      have hBjk := HBT.out.trans (hBk2.mono HBT.out.size)
                      have kq := HKY.out.2.below (hBj.trans (hBjk.mono hBj.size)) HKY.out.2.lt
                      have j0 := kq.cell 0
                      have j1 := kq.cell 1
                      have j2 := kq.cell 2
                      simp only [List.getElem?_toArray, List.getElem?_cons_succ, List.getElem?_cons_zero] at j0 j1 j2
                      have lq := kq.lt
                      have g55 := Lib.hid (fun W (hW : Below wk.heap.size wk W) => h55.out g W (hBjk.trans (hW.mono hBjk.size)))
                      have g56 := Lib.hid (fun W (hW : Below wk.heap.size wk W) => h56.out g W (hBjk.trans (hW.mono hBjk.size)))
                      generalize boundsV p l g = vg at g55 g56
                      have HC := Lib.hid (fun W (hW : Below wk.heap.size wk W) => show W.cell? ⟨wr.heap.size, 0, none⟩ = some (.int .i64 p.vars) ∧ W.cell? ⟨wr.heap.size, 1, none⟩ = some (.slice qra p.rows.length qrc) ∧ W.cell? ⟨wr.heap.size, 2, none⟩ = some (.slice qga p.gain.length qgc) from ⟨(hW.cell lq).trans j0, (hW.cell lq).trans j1, (hW.cell lq).trans j2⟩)
                      clear kq hBjk lB3
                      go_upto_region 22 with fail
                      go_cut [142] from 131 to 142 (fun u142 wz => u142 = .bool false ∧ Below wk.heap.size wk wz)
                      case first =>
                        go_region_held3 (fun w' => Below wk.heap.size wk w' ∧ w'.cell? ⟨wr.heap.size, 0, none⟩ = some (.int .i64 p.vars) ∧ w'.cell? ⟨wr.heap.size, 1, none⟩ = some (.slice qra p.rows.length qrc) ∧ w'.cell? ⟨wr.heap.size, 2, none⟩ = some (.slice qga p.gain.length qgc))
                          (first | exact ⟨(Below.refl _ _).drew, HC.out _ (Below.refl _ _).drew⟩ | (have hh := (‹Below wk.heap.size wk _ ∧ _›).1; have hb := hh.trans (hBq.mono hh.size); exact ⟨hb, HC.out _ hb⟩))
                          (first
                            | (go_at_call 55; refine (g55.out _ (‹Below wk.heap.size wk _ ∧ _›).1).mono ?_; rintro e wq ⟨rfl, hBq⟩)
                            | (go_at_call 56; refine (g56.out _ (‹Below wk.heap.size wk _ ∧ _›).1).mono ?_; rintro e wq ⟨rfl, hBq⟩))
                        all_goals (
                          go_wp2_with fail
                          go_meet
                          exact ⟨rfl, (‹Below wk.heap.size wk _ ∧ _›).1⟩)
                      case rest =>
                        rename World => wn
                        obtain ⟨rfl, hBn⟩ := hcut
                        go_wp2
                        go_roundw
                        case rel => exact ⟨k + 1, by omega, by go_num, hBk2.trans (hBn.mono hBk2.size)⟩
                        case measure => simp [Go.RowKit.intOf]; omega
                    · obtain rfl : k = 3 := by omega
                      go_wp2
                      go_roundw
                      case rel => exact ⟨j + 1, by omega, by go_num, hBj.trans ((HBT.out.trans (hBk2.mono HBT.out.size)).mono hBj.size)⟩
                      case measure => simp [Go.RowKit.intOf]; omega
            · obtain rfl : j = 4 := by omega
              have hBV := HBXY.out.trans (hBj.mono HBXY.out.size)
              go_wp2
              go_roundw
              case rel => exact ⟨i + 1, by omega, by go_num, hBV⟩
              case measure => simp [Go.RowKit.intOf]; omega
      · obtain rfl : i = 2 := by omega
        go_wp2
        go_ret
        exact ⟨rfl, HBWX.out.trans (hBk.mono HBWX.out.size)⟩
theorem pmatch_all (vars : Int) (vx : Value) (x : List X3) (gain : List Int) (vraw : Value) (raw : ProgD) (z0 z1 z2 z3 z4 z5 z6 z7 : Int) (vs : Value) (st : List StepD) (n : Int) (w : World) (hv : InR vars) (hx : XsAt w vx x) (hxr : ∀ t ∈ x, XR t) (hg : gain.length = 8) (hgr : ∀ t ∈ gain, InR t)
    (hraw : ProgV w vraw raw) (hz : (InR z0 ∧ InR z1 ∧ InR z2 ∧ InR z3) ∧ (InR z4 ∧ InR z5 ∧ InR z6 ∧ InR z7)) (hst : StepsAt w vs st) (hn : InR n) :
    Calls Try.prog 10 #[.int .i64 vars, vx, .agg (gain.map (Value.int .i64)).toArray, vraw, .agg #[.int .i64 z0, .int .i64 z1, .int .i64 z2, .int .i64 z3, .int .i64 z4, .int .i64 z5, .int .i64 z6, .int .i64 z7], vs, .int .i64 n] w fun e w' => e = .returned (.bool true) ∧ Below w.heap.size w w' := by
  obtain ⟨m, hG⟩ := goodP vars x gain
  have hmade := Lib.hid (fun W (hW : Below w.heap.size w W) => made_view vars vx x gain W hv (hx.below hW) hxr hg hgr)
  generalize madeP vars x gain = p at hG hmade
  obtain ⟨pv, rows, gn⟩ := p
  obtain rfl : pv = m := hG.vm
  obtain ⟨g0, g1, g2, g3, g4, g5, g6, g7, hge⟩ := list8 hg
  have harg : (gain.map (Value.int .i64)).toArray = #[.int .i64 g0, .int .i64 g1, .int .i64 g2, .int .i64 g3, .int .i64 g4, .int .i64 g5, .int .i64 g6, .int .i64 g7] := by rw [hge]; rfl
  rw [harg] at hmade ⊢
  exact pmatch_true vars vx vraw vs g0 g1 g2 g3 g4 g5 g6 g7 z0 z1 z2 z3 z4 z5 z6 z7 n raw st m rows gn w hG hz hn hraw hst hmade
end Go.Proofs.Ytblmpmapcdpaiaa

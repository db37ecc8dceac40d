/- nadirlaw26.ProofSound: the walk. -/
import Derived.Test.YtblmpmapcdpaiaaS1
import Derived.Test.YtblmpmapcdpaiaaK7
import Derived.Test.YtblmpmapcdpaiaaF0
import Derived.Test.YtblmpmapcdpaiaaF1
namespace Go.Proofs.Ytblmpmapcdpaiaa
open Go.RowKit Lib
attribute [local irreducible] wpStill

/-- A solution in memory, with a proof of moderate size. -/
def SolAt (W : World) (b off : Nat) (s : SolD) : Prop :=
  ∃ pa pc, W.cell? ⟨b, off, none⟩ = some (.bool s.found) ∧ W.cell? ⟨b, off + 1, none⟩ = some (.int .i64 s.set) ∧ W.cell? ⟨b, off + 2, none⟩ = some (.int .i64 s.gain) ∧ W.cell? ⟨b, off + 3, none⟩ = some (.slice pa s.proof.length pc) ∧ StepsAt W (.slice pa s.proof.length pc) s.proof ∧ (s.proof.length ≤ pc ∧ pc ≤ maxLen) ∧ SmallS 511 1 s.proof ∧ -12000000000 ≤ s.gain ∧ s.gain ≤ 12000000000
theorem SolAt.of {W : World} {B off : Nat} {cs : Array Value} {t : TypeId} (hb : Blk W B cs t) {s : SolD} {pa : Option Addr} {pc : Nat} (h0 : cs[off]? = some (.bool s.found)) (h1 : cs[off + 1]? = some (.int .i64 s.set)) (h2 : cs[off + 2]? = some (.int .i64 s.gain)) (h3 : cs[off + 3]? = some (.slice pa s.proof.length pc))
    (hs : StepsAt W (.slice pa s.proof.length pc) s.proof) (hl : s.proof.length ≤ pc ∧ pc ≤ maxLen) (hm : SmallS 511 1 s.proof ∧ -12000000000 ≤ s.gain ∧ s.gain ≤ 12000000000) : SolAt W B off s :=
  ⟨pa, pc, (hb.cell _).trans h0, (hb.cell _).trans h1, (hb.cell _).trans h2, (hb.cell _).trans h3, hs, hl, hm⟩
/-- Four lists of steps in a row. -/
def Steps4 (W : World) (b : Nat) : Prop := ∀ j, j < 4 → ∃ (l : List StepD) (a : Option Addr) (c : Nat), W.cell? ⟨b, j, none⟩ = some (.slice a l.length c) ∧ StepsAt W (.slice a l.length c) l ∧ l.length ≤ c ∧ c ≤ maxLen
theorem Steps4.of {W : World} {b : Nat} {t : TypeId} {v0 v1 v2 v3 : Value} {l0 l1 l2 l3 : List StepD} (hb : Blk W b #[v0, v1, v2, v3] t) (h0 : StepsAt W v0 l0) (h1 : StepsAt W v1 l1) (h2 : StepsAt W v2 l2) (h3 : StepsAt W v3 l3) : Steps4 W b := fun j hj => by
  have g : ∀ (i : Nat) (v : Value) (l : List StepD), (#[v0, v1, v2, v3] : Array Value)[i]? = some v → StepsAt W v l → ∃ (l : List StepD) (a : Option Addr) (c : Nat), W.cell? ⟨b, i, none⟩ = some (.slice a l.length c) ∧ StepsAt W (.slice a l.length c) l ∧ l.length ≤ c ∧ c ≤ maxLen := fun i v l hi hs => by
    obtain ⟨a, c, rfl, h1, h2⟩ := hs.len
    exact ⟨l, a, c, (hb.cell i).trans hi, hs, h1, h2⟩
  match j, hj with
  | 0, _ => exact g 0 _ _ rfl h0
  | 1, _ => exact g 1 _ _ rfl h1
  | 2, _ => exact g 2 _ _ rfl h2
  | 3, _ => exact g 3 _ _ rfl h3
set_option maxRecDepth 100000 in
set_option maxHeartbeats 8000000 in
theorem sound_true (vars : Int) (vx vy vs : Value) (g0 g1 g2 g3 g4 g5 g6 g7 z0 z1 z2 z3 z4 z5 z6 z7 : Int) (n : Int) (st : List StepD) (m m2 : Nat) (rows rows2 : List RowD) (gn gn2 : List Int) (w : World) (hG : GoodP ⟨(m : Int), rows, gn⟩ m) (hG2 : GoodP ⟨(m2 : Int), rows2, gn2⟩ m2)
    (hz : (InR z0 ∧ InR z1 ∧ InR z2 ∧ InR z3) ∧ (InR z4 ∧ InR z5 ∧ InR z6 ∧ InR z7)) (hn : InR n) (hst : StepsAt w vs st)
    (hmade : Hid (∀ W, Below w.heap.size w W → Calls Try.prog 17 #[.int .i64 vars, vx, .agg #[.int .i64 g0, .int .i64 g1, .int .i64 g2, .int .i64 g3, .int .i64 g4, .int .i64 g5, .int .i64 g6, .int .i64 g7]] W fun e w' => ∃ ra rc ga gc, e = .returned (.agg #[.int .i64 m, .slice ra rows.length rc, .slice ga gn.length gc]) ∧ (RowsAt w' (.slice ra rows.length rc) rows ∧ IntsAt w' (.slice ga gn.length gc) gn ∧ (ra = none → rc = 0)) ∧ (rows.length ≤ rc ∧ rc ≤ maxLen) ∧ (gn.length ≤ gc ∧ gc ≤ maxLen) ∧ Below W.heap.size W w'))
    (hmade2 : Hid (∀ W, Below w.heap.size w W → Calls Try.prog 17 #[.int .i64 vars, vy, .agg #[.int .i64 g0, .int .i64 g1, .int .i64 g2, .int .i64 g3, .int .i64 g4, .int .i64 g5, .int .i64 g6, .int .i64 g7]] W fun e w' => ∃ ra rc ga gc, e = .returned (.agg #[.int .i64 m2, .slice ra rows2.length rc, .slice ga gn2.length gc]) ∧ (RowsAt w' (.slice ra rows2.length rc) rows2 ∧ IntsAt w' (.slice ga gn2.length gc) gn2 ∧ (ra = none → rc = 0)) ∧ (rows2.length ≤ rc ∧ rc ≤ maxLen) ∧ (gn2.length ≤ gc ∧ gc ≤ maxLen) ∧ Below W.heap.size W w')) :
    Calls Try.prog 12 #[.int .i64 vars, vx, vy, .agg #[.int .i64 g0, .int .i64 g1, .int .i64 g2, .int .i64 g3, .int .i64 g4, .int .i64 g5, .int .i64 g6, .int .i64 g7], .agg #[.int .i64 z0, .int .i64 z1, .int .i64 z2, .int .i64 z3, .int .i64 z4, .int .i64 z5, .int .i64 z6, .int .i64 z7], vs, .int .i64 n] w fun e w' => e = .returned (.bool true) ∧ Below w.heap.size w w' := by
  have hval := hG.val
  have hval2 := hG2.val
  have hm8 := hG.m8
  have hm82 := hG2.m8
  have herr : errV ⟨(m : Int), rows, gn⟩ = 0 := by unfold errV; rw [hval]; rfl
  have hsm1 := solve_small hval (by show (m : Int) ≤ 8; omega)
  have hsm2 := solve_small hval2 (by show (m2 : Int) ≤ 8; omega)
  have hsv1 := Lib.hid (fun ra rc ga gc W h => solve_view (m : Int) rows gn ra rc ga gc W h hval)
  have hsv2 := Lib.hid (fun ra rc ga gc W h => solve_view (m2 : Int) rows2 gn2 ra rc ga gc W h hval2)
  have hgl : gn.length ≤ 60 := by have := (validB_true hval).2.2.2.2.1; simp only at this; omega
  have hrl : rows.length ≤ 8 := hG.n8
  have hrf : ∀ l, (wrongD ⟨(m : Int), rows, gn⟩ l == -1) = true → allV ⟨(m : Int), rows, gn⟩ = [] := fun l h => refutes_none h
  have hbd : ∀ l g x, boundsV ⟨(m : Int), rows, gn⟩ l g = true → x ∈ allV ⟨(m : Int), rows, gn⟩ → gainV ⟨(m : Int), rows, gn⟩ x ≤ g := fun l g x h hx => bounds_all h hx
  generalize solveV ⟨(m : Int), rows, gn⟩ = s1 at hsm1 hsv1
  generalize solveV ⟨(m2 : Int), rows2, gn2⟩ = s2 at hsm2 hsv2
  have HSM := Lib.hid (And.intro hsm1 hsm2)
  have HRB := Lib.hid (And.intro hrf hbd)
  have HST := Lib.hid hst
  clear hval hval2 hG hG2 hsm1 hsm2 hrf hbd hst
  go_enter Try.func12, Try.ntmps12
  go_wp2_with fail
  refine (sane26_true _).mono ?_
  rintro e w1 ⟨rfl, hBa⟩
  have hBw1 : Below w.heap.size w w1 := (((Below.refl _ _).alloc (Nat.le_refl _) _).alloc (by simp) _).trans (hBa.mono (by simp; omega))
  have kg : Blk w1 w.heap.size #[.int .i64 g0, .int .i64 g1, .int .i64 g2, .int .i64 g3, .int .i64 g4, .int .i64 g5, .int .i64 g6, .int .i64 g7] 23 := ((Blk.new w _ 23).alloc _).below hBa (by simp; omega)
  have kz : Blk w1 (w.heap.size + 1) #[.int .i64 z0, .int .i64 z1, .int .i64 z2, .int .i64 z3, .int .i64 z4, .int .i64 z5, .int .i64 z6, .int .i64 z7] 67 := (Blk.newAt _ _ 67 (by simp)).below hBa (by simp)
  clear hBa
  have i0 := kg.cell 0
  have i1 := kg.cell 1
  have i2 := kg.cell 2
  have i3 := kg.cell 3
  have i4 := kg.cell 4
  have i5 := kg.cell 5
  have i6 := kg.cell 6
  have i7 := kg.cell 7
  simp only [List.getElem?_toArray, List.getElem?_cons_succ, List.getElem?_cons_zero] at i0 i1 i2 i3 i4 i5 i6 i7
  go_wp2_with fail
  refine (hmade.out w1 hBw1).mono ?_
  rintro e w2 ⟨ra, rc, ga, gc, rfl, hv, hrc, hgc, hB2⟩
  obtain ⟨hrc1, hrc2⟩ := hrc
  obtain ⟨hgc1, hgc2⟩ := hgc
  unfold maxLen at hrc2 hgc2
  have hA2 : Below w2.heap.size w2 (w2.alloc (.cells #[.int .i64 m, .slice ra rows.length rc, .slice ga gn.length gc] 29)) := (Below.refl _ _).alloc (Nat.le_refl _) _
  have kp := Blk.new w2 #[.int .i64 m, .slice ra rows.length rc, .slice ga gn.length gc] 29
  have hvA := And.intro (hv.1.below hA2) (And.intro (hv.2.1.below hA2) hv.2.2)
  have hBwA := (hBw1.trans (hB2.mono hBw1.size)).trans (hA2.mono (hBw1.trans (hB2.mono hBw1.size)).size)
  replace kg := (kg.below hB2 kg.lt).alloc (.cells #[.int .i64 m, .slice ra rows.length rc, .slice ga gn.length gc] 29)
  replace kz := (kz.below hB2 kz.lt).alloc (.cells #[.int .i64 m, .slice ra rows.length rc, .slice ga gn.length gc] 29)
  clear hv hBw1 hB2 hmade i0 i1 i2 i3 i4 i5 i6 i7
  go_wp2_with fail
  refine (hsv1.out ra rc ga gc _ hvA).mono ?_
  rintro e w3 ⟨pa, pc, rfl, hst1, hpl1, hB3⟩
  have hpc1 := hpl1.1
  have hpc2 := hpl1.2
  unfold maxLen at hpc2
  replace kg := kg.below hB3 kg.lt
  replace kz := kz.below hB3 kz.lt
  replace kp := kp.below hB3 kp.lt
  have hvB := And.intro (hvA.1.below hB3) (And.intro (hvA.2.1.below hB3) hvA.2.2)
  have hBw3 := hBwA.trans (hB3.mono hBwA.size)
  clear hvA hB3 hA2 hBwA hsv1
  have i0 := kg.cell 0
  have i1 := kg.cell 1
  have i2 := kg.cell 2
  have i3 := kg.cell 3
  have i4 := kg.cell 4
  have i5 := kg.cell 5
  have i6 := kg.cell 6
  have i7 := kg.cell 7
  simp only [List.getElem?_toArray, List.getElem?_cons_succ, List.getElem?_cons_zero] at i0 i1 i2 i3 i4 i5 i6 i7
  have lg := kg.lt
  have hA4 : Below w3.heap.size w3 (w3.alloc (.cells #[.bool s1.found, .int .i64 s1.set, .int .i64 s1.gain, .slice pa s1.proof.length pc] 37)) := (Below.refl _ _).alloc (Nat.le_refl _) _
  have hBw4 := hBw3.trans (hA4.mono hBw3.size)
  go_wp2_with fail
  refine (hmade2.out _ hBw4).mono ?_
  rintro e w5 ⟨ra2, rc2, ga2, gc2, rfl, hv2, hrc2', hgc2', hB5⟩
  have hl3 : w2.heap.size < w3.heap.size := kp.lt
  have ks1 : Blk w5 w3.heap.size _ 37 := (Blk.new w3 #[.bool s1.found, .int .i64 s1.set, .int .i64 s1.gain, .slice pa s1.proof.length pc] 37).below hB5 (by simp)
  have hB35 := hA4.trans (hB5.mono hA4.size)
  replace kg := kg.below hB35 kg.lt
  replace kz := kz.below hB35 kz.lt
  replace kp := kp.below hB35 kp.lt
  replace hst1 := hst1.below hB35
  replace hvB := And.intro (hvB.1.below hB35) (And.intro (hvB.2.1.below hB35) hvB.2.2)
  replace hBw3 := hBw3.trans (hB35.mono hBw3.size)
  clear hA4 hBw4 hB5 hB35 hmade2 i0 i1 i2 i3 i4 i5 i6 i7 lg
  go_wp2_with fail
  refine (hsv2.out ra2 rc2 ga2 gc2 _ hv2).mono ?_
  rintro e w6 ⟨pa2, pc2, rfl, hst2, hpl2, hB6⟩
  have hpc3 := hpl2.1
  have hpc4 := hpl2.2
  unfold maxLen at hpc4
  replace kg := kg.below hB6 kg.lt
  replace kz := kz.below hB6 kz.lt
  replace kp := kp.below hB6 kp.lt
  replace ks1 := ks1.below hB6 ks1.lt
  replace hst1 := hst1.below hB6
  replace hvB := And.intro (hvB.1.below hB6) (And.intro (hvB.2.1.below hB6) hvB.2.2)
  replace hBw3 := hBw3.trans (hB6.mono hBw3.size)
  clear hv2 hrc2' hgc2' hB6 hsv2
  have j0 := kp.cell 0
  have j1 := kp.cell 1
  have j2 := kp.cell 2
  simp only [List.getElem?_toArray, List.getElem?_cons_succ, List.getElem?_cons_zero] at j0 j1 j2
  have lp := kp.lt
  have hA6 : Below w6.heap.size w6 (w6.alloc (.cells #[.bool s2.found, .int .i64 s2.set, .int .i64 s2.gain, .slice pa2 s2.proof.length pc2] 37)) := (Below.refl _ _).alloc (Nat.le_refl _) _
  have hall := all_all (.agg #[.int .i64 m, .slice ra rows.length rc, .slice ga gn.length gc]) ⟨m, rows, gn⟩ _ ⟨_, _, rfl, hvB.1.below hA6, hvB.2.1.below hA6⟩
  rw [herr] at hall
  go_wp2_with fail
  refine hall.mono ?_
  rintro e w7 ⟨vl, rfl, hvl, hB7⟩
  have hB67 := hA6.trans (hB7.mono hA6.size)
  have ks2 : Blk w7 w6.heap.size _ 37 := (Blk.new w6 #[.bool s2.found, .int .i64 s2.set, .int .i64 s2.gain, .slice pa2 s2.proof.length pc2] 37).below hB7 (by simp)
  have hl36 : w3.heap.size < w6.heap.size := ks1.lt
  replace kz := kz.below hB67 kz.lt
  replace kp := kp.below hB67 kp.lt
  replace ks1 := ks1.below hB67 ks1.lt
  replace hst1 := hst1.below hB67
  replace hst2 := hst2.below hB67
  replace hvB := And.intro (hvB.1.below hB67) (hvB.2.1.below hB67)
  replace hBw3 := hBw3.trans (hB67.mono hBw3.size)
  clear hA6 hB7 hB67 j0 j1 j2 lp hall kg
  obtain ⟨la, lc, rfl, hlc1, hlc2⟩ := hvl.len
  unfold maxLen at hlc2
  have s10 := ks1.cell 0
  have s11 := ks1.cell 1
  have s12 := ks1.cell 2
  have s13 := ks1.cell 3
  have s20 := ks2.cell 0
  have s21 := ks2.cell 1
  have s22 := ks2.cell 2
  have s23 := ks2.cell 3
  simp only [List.getElem?_toArray, List.getElem?_cons_succ, List.getElem?_cons_zero] at s10 s11 s12 s13 s20 s21 s22 s23
  have hA : Below w7.heap.size w7 (w7.alloc (.cells #[.bool s1.found, .int .i64 s1.set, .int .i64 s1.gain, .slice pa s1.proof.length pc, .bool s2.found, .int .i64 s2.set, .int .i64 s2.gain, .slice pa2 s2.proof.length pc2] 37)) := (Below.refl _ _).alloc (Nat.le_refl _) _
  have kB := Blk.new w7 #[.bool s1.found, .int .i64 s1.set, .int .i64 s1.gain, .slice pa s1.proof.length pc, .bool s2.found, .int .i64 s2.set, .int .i64 s2.gain, .slice pa2 s2.proof.length pc2] 37
  have HSOL := Lib.hid (And.intro (SolAt.of (s := s1) (off := 0) kB rfl rfl rfl rfl (hst1.below hA) hpl1 HSM.out.1) (SolAt.of (s := s2) (off := 4) kB rfl rfl rfl rfl (hst2.below hA) hpl2 HSM.out.2))
  have HKP := Lib.hid (And.intro (kp.alloc (.cells #[.bool s1.found, .int .i64 s1.set, .int .i64 s1.gain, .slice pa s1.proof.length pc, .bool s2.found, .int .i64 s2.set, .int .i64 s2.gain, .slice pa2 s2.proof.length pc2] 37)) (kz.alloc (.cells #[.bool s1.found, .int .i64 s1.set, .int .i64 s1.gain, .slice pa s1.proof.length pc, .bool s2.found, .int .i64 s2.set, .int .i64 s2.gain, .slice pa2 s2.proof.length pc2] 37)))
  have HVW := Lib.hid (And.intro (hvB.1.below hA) (And.intro (hvB.2.below hA) (And.intro (hvl.below hA) (hBw3.trans (hA.mono hBw3.size)))))
  have HW7 : Hid (w7.heap.size = w7.heap.size) := rfl
  clear kp kz kB hvB hvl hst1 hst2 hpl1 hpl2 hBw3 ks1 ks2 hA hpc1 hpc2 hpc3 hpc4
  go_wp2
  generalize w7.alloc (.cells #[.bool s1.found, .int .i64 s1.set, .int .i64 s1.gain, .slice pa s1.proof.length pc, .bool s2.found, .int .i64 s2.set, .int .i64 s2.gain, .slice pa2 s2.proof.length pc2] 37) = V at *
  generalize w7.heap.size = B at *
  clear s10 s11 s12 s13 s20 s21 s22 s23 HW7
  obtain ⟨hz1, hz2⟩ := hz
  go_loopw [70] (fun u70 wr => ∃ i : Nat, i ≤ 2 ∧ u70 = .int .i64 i ∧ Below V.heap.size V wr) (fun u70 _ => (2 - Go.RowKit.intOf u70).toNat)
  case atStart => exact ⟨0, by omega, rfl, Below.refl _ _⟩
  case round =>
    obtain ⟨i, hi, rfl, hBk⟩ := hrel
    rename World => wr
    by_cases hi2 : i < 2
    · have hP : ∃ s, SolAt V B (i * 4) s := by
        match i, hi2 with
        | 0, _ => exact ⟨_, HSOL.out.1⟩
        | 1, _ => exact ⟨_, HSOL.out.2⟩
      obtain ⟨s, sa, sc, c0, c1, c2, c3, hsp, hsl, hsm⟩ := hP
      have lB := World.block_lt_of_cell? _ _ c0
      simp only at lB
      replace c0 := (hBk.cell (by simpa using lB)).trans c0
      replace c1 := (hBk.cell (by simpa using lB)).trans c1
      replace c2 := (hBk.cell (by simpa using lB)).trans c2
      replace c3 := (hBk.cell (by simpa using lB)).trans c3
      obtain ⟨kp', kz'⟩ := HKP.out
      have kz := kz'.below hBk kz'.lt
      have i0 := kz.cell 0
      have i1 := kz.cell 1
      have i2 := kz.cell 2
      have i3 := kz.cell 3
      simp only [List.getElem?_toArray, List.getElem?_cons_succ, List.getElem?_cons_zero] at i0 i1 i2 i3
      have lz := kz.lt
      obtain ⟨hsl1, hsl2⟩ := hsl
      unfold maxLen at hsl2
      have hA : Below wr.heap.size wr (wr.alloc (.cells #[.bool s.found, .int .i64 s.set, .int .i64 s.gain, .slice sa s.proof.length sc] 37)) := (Below.refl _ _).alloc (Nat.le_refl _) _
      have hsp2 := (StepsAt.below hsp hBk).below hA
      have hbn := bent_any (.slice sa s.proof.length sc) s.proof z0 z1 z2 z3 _ hsp2 (by have := hsm.1.1; omega) (fun t ht => by have := hsm.1.2 t ht; omega) hz1.1 hz1.2.1 hz1.2.2.1 hz1.2.2.2
      go_wp2_with fail
      refine hbn.mono ?_
      rintro e w8 ⟨vb, rfl, hsb, hB8⟩
      have hB8w := hA.trans (hB8.mono hA.size)
      have hBV8 := hBk.trans (hB8w.mono hBk.size)
      have ks : Blk w8 wr.heap.size _ 37 := (Blk.new wr #[.bool s.found, .int .i64 s.set, .int .i64 s.gain, .slice sa s.proof.length sc] 37).below hB8 (by simp)
      replace kz := kz.below hB8w kz.lt
      have kp := kp'.below hBV8 kp'.lt
      have hsp8 := hsp2.below hB8
      clear i0 i1 i2 i3 c0 c1 c2 c3 hsp hsp2 hbn hA hB8 hB8w lz kp' kz'
      have i4 := kz.cell 4
      have i5 := kz.cell 5
      have i6 := kz.cell 6
      have i7 := kz.cell 7
      have s2 := ks.cell 2
      have s3 := ks.cell 3
      simp only [List.getElem?_toArray, List.getElem?_cons_succ, List.getElem?_cons_zero] at i4 i5 i6 i7 s2 s3
      have lz := kz.lt
      have ls := ks.lt
      obtain ⟨ba, bc, rfl, hbl1, hbl2⟩ := hsb.len
      unfold maxLen at hbl2
      have HSB := Lib.hid hsb
      have hbn := Lib.hid (fun W (hW : Below w8.heap.size w8 W) => bent_any (.slice ba _ bc) (bentD s.proof z0 z1 z2 z3) z4 z5 z6 z7 W (StepsAt.below hsb hW) (by have := (hsm.1.bent z0 z1 z2 z3).1; omega) (fun t ht => by have := (hsm.1.bent z0 z1 z2 z3).2 t ht; omega) hz2.1 hz2.2.1 hz2.2.2.1 hz2.2.2.2)
      have hfw := Lib.hid (fun W (hW : Below w8.heap.size w8 W) => few_steps vs st W ((StepsAt.below HST.out (HVW.out.2.2.2.trans (hBV8.mono HVW.out.2.2.2.size))).below hW))
      have HC := Lib.hid (fun W (hW : Below w8.heap.size w8 W) => show W.cell? ⟨wr.heap.size, 3, none⟩ = some (.slice sa s.proof.length sc) ∧ W.cell? ⟨w.heap.size + 1, 4, none⟩ = some (.int .i64 z4) ∧ W.cell? ⟨w.heap.size + 1, 5, none⟩ = some (.int .i64 z5) ∧ W.cell? ⟨w.heap.size + 1, 6, none⟩ = some (.int .i64 z6) ∧ W.cell? ⟨w.heap.size + 1, 7, none⟩ = some (.int .i64 z7) from ⟨(hW.cell ls).trans s3, (hW.cell lz).trans i4, (hW.cell lz).trans i5, (hW.cell lz).trans i6, (hW.cell lz).trans i7⟩)
      have HK := Lib.hid (And.intro ks kp)
      have HSP := Lib.hid hsp8
      have HSMM := Lib.hid hsm
      clear ks kp kz hsb hsp8 hsm s2
      generalize bentD s.proof z0 z1 z2 z3 = bl at *
      go_upto_region 14 with fail
      go_cut [88, 89, 90] from 79 to 90 (fun u88 u89 u90 wy => ∃ B2 : Nat, u88 = .slice (some ⟨B2, 0, none⟩) 4 4 ∧ u89 = .int .i64 4 ∧ u90 = .int .i64 0 ∧ Steps4 wy B2 ∧ Below w8.heap.size w8 wy)
      case first =>
        go_region_held3 (fun w' => Below w8.heap.size w8 w' ∧ w'.cell? ⟨wr.heap.size, 3, none⟩ = some (.slice sa s.proof.length sc) ∧ w'.cell? ⟨w.heap.size + 1, 4, none⟩ = some (.int .i64 z4) ∧ w'.cell? ⟨w.heap.size + 1, 5, none⟩ = some (.int .i64 z5) ∧ w'.cell? ⟨w.heap.size + 1, 6, none⟩ = some (.int .i64 z6) ∧ w'.cell? ⟨w.heap.size + 1, 7, none⟩ = some (.int .i64 z7))
          (first | exact ⟨(Below.refl _ _).drew, HC.out _ (Below.refl _ _).drew⟩ | (have hh := (‹Below w8.heap.size w8 _ ∧ _›).1; have hb := hh.trans (hBq.mono hh.size); exact ⟨hb, HC.out _ hb⟩) | (have hh := (‹Below w8.heap.size w8 _ ∧ _›).1; exact ⟨hh.alloc hh.size _, HC.out _ (hh.alloc hh.size _)⟩))
          (first | (go_at_call 43; refine (hbn.out _ (‹Below w8.heap.size w8 _ ∧ _›).1).mono ?_; rintro e wq ⟨vq, rfl, hsq, hBq⟩; obtain ⟨qa, qc, rfl, -, -⟩ := hsq.len; have HQ := Lib.hid hsq; clear hsq) | (go_at_call 45; refine (hfw.out _ (‹Below w8.heap.size w8 _ ∧ _›).1).mono ?_; rintro e wf ⟨vf, rfl, hsf, hBq⟩; obtain ⟨fa, fc, rfl, -, -⟩ := hsf.len; have HF := Lib.hid hsf; clear hsf))
        all_goals (
          go_wp2_with fail
          go_meet
          have hh := (‹Below w8.heap.size w8 _ ∧ _›).1
          first
            | (have hA : Below wf.heap.size wf (wf.alloc (.cells #[.slice sa s.proof.length sc, .slice ba bl.length bc, .slice qa (bentD bl z4 z5 z6 z7).length qc, .slice fa (fewS st 40).length fc] 35)) := (Below.refl _ _).alloc (Nat.le_refl _) _
               exact ⟨wf.heap.size, rfl, rfl, rfl, Steps4.of (Blk.new wf _ 35) (StepsAt.below HSP.out hh) (StepsAt.below HSB.out hh) ((StepsAt.below HQ.out hBq).below hA) (StepsAt.below HF.out hA), hh⟩)
            | (have hA : Below wq.heap.size wq (wq.alloc (.cells #[.slice sa s.proof.length sc, .slice ba bl.length bc, .slice qa (bentD bl z4 z5 z6 z7).length qc, .slice fa (fewS st 40).length fc] 35)) := (Below.refl _ _).alloc (Nat.le_refl _) _
               exact ⟨wq.heap.size, rfl, rfl, rfl, Steps4.of (Blk.new wq _ 35) (StepsAt.below HSP.out hh) (StepsAt.below HSB.out hh) (StepsAt.below HQ.out hA) ((StepsAt.below HF.out hBq).below hA), hh⟩))
      case rest =>
        rename World => wy
        obtain ⟨B2, rfl, rfl, rfl, h4, hBy⟩ := hcut
        have hBVy := hBV8.trans (hBy.mono hBV8.size)
        obtain ⟨ks', kp'⟩ := HK.out
        have ks := ks'.below hBy ks'.lt
        have kp := kp'.below hBy kp'.lt
        have hvr := HVW.out.1.below hBVy
        have hvg := HVW.out.2.1.below hBVy
        have hvl := HVW.out.2.2.1.below hBVy
        have hBwy := HVW.out.2.2.2.trans (hBVy.mono HVW.out.2.2.2.size)
        obtain ⟨-, hsg1, hsg2⟩ := HSMM.out
        have H4 := Lib.hid h4
        have HVY := Lib.hid (And.intro hvr (And.intro hvg hvl))
        have HKY := Lib.hid (And.intro ks kp)
        have HBWY := Lib.hid (And.intro hBVy hBwy)
        clear ks' kp' HK HSP HSB HC hbn hfw HSMM h4 hvr hvg hvl hBVy hBwy i4 i5 i6 i7 s3 ls lz hBy ks kp lB
        go_wp2
        go_loopw [90] (fun u90 wr => ∃ j : Nat, j ≤ 4 ∧ u90 = .int .i64 j ∧ Below wy.heap.size wy wr) (fun u90 _ => (4 - Go.RowKit.intOf u90).toNat)
        case atStart => exact ⟨0, by omega, rfl, Below.refl _ _⟩
        case round =>
          obtain ⟨j, hj, rfl, hBj⟩ := hrel
          rename World => wj
          by_cases hj4 : j < 4
          · obtain ⟨l, qa, qc, d0, hls, hll1, hll2⟩ := H4.out j hj4
            unfold maxLen at hll2
            have lB := World.block_lt_of_cell? _ _ d0
            simp only at lB
            replace d0 := (hBj.cell (by simpa using lB)).trans d0
            have hlsj := StepsAt.below hls hBj
            have hvr := HVY.out.1.below hBj
            have hvg := HVY.out.2.1.below hBj
            have hvl := HVY.out.2.2.below hBj
            have ks := HKY.out.1.below hBj HKY.out.1.lt
            have kp := HKY.out.2.below hBj HKY.out.2.lt
            have j0 := kp.cell 0
            have j1 := kp.cell 1
            have j2 := kp.cell 2
            simp only [List.getElem?_toArray, List.getElem?_cons_succ, List.getElem?_cons_zero] at j0 j1 j2
            have lp := kp.lt
            have hpr := prefutes_any (.agg #[.int .i64 m, .slice ra rows.length rc, .slice ga gn.length gc]) _ ⟨m, rows, gn⟩ l wj ⟨_, _, rfl, hvr, hvg⟩ hlsj
            have HLS := Lib.hid (And.intro hlsj (And.intro hvr (And.intro hvg hvl)))
            have HKJ := Lib.hid (And.intro ks kp)
            clear hls hlsj hvr hvg hvl ks kp lB
            go_upto_region 17 with fail
            go_cut [101] from 91 to 101 (fun u101 wz => u101 = .bool false ∧ Below wj.heap.size wj wz)
            case first =>
              cases hb : (wrongD ⟨(m : Int), rows, gn⟩ l == -1) with
              | false =>
                rw [hb] at hpr
                clear hb
                go_wp2_with fail
                refine hpr.mono ?_
                rintro e w9 ⟨rfl, hB9⟩
                go_wp2
                go_meet
                exact ⟨rfl, hB9⟩
              | true =>
                have hz : decide (0 < (allV ⟨(m : Int), rows, gn⟩).length) = false := by rw [HRB.out.1 l hb]; rfl
                rw [hb] at hpr
                clear hb
                go_wp2_with fail
                refine hpr.mono ?_
                rintro e w9 ⟨rfl, hB9⟩
                go_wp2
                go_meet
                exact ⟨rfl, hB9⟩
            case rest =>
              rename World => wz
              obtain ⟨rfl, hBz⟩ := hcut
              have hpk := Lib.hid (fun W => pick54 n 20 W hn (by decide) (by decide))
              have hpb := pickI_bd n (n := 20) (by decide)
              generalize pickI n 20 = pk at hpk hpb
              have hw1 : IntKind.i64.wrap (s.gain + pk) = s.gain + pk := wrapS _ (by omega) (by omega)
              have hw2 : IntKind.i64.wrap (s.gain + pk - 10) = s.gain + pk - 10 := wrapS _ (by omega) (by omega)
              have hBz2 := hBz
              have ks := HKJ.out.1.below hBz HKJ.out.1.lt
              have s2 := ks.cell 2
              simp only [List.getElem?_toArray, List.getElem?_cons_succ, List.getElem?_cons_zero] at s2
              have ls := ks.lt
              clear ks
              clear j0 j1 j2 d0 lp
              go_upto_region 19 with fail
              go_cut [110, 111, 112] from 102 to 112 (fun u110 u111 u112 wy => ∃ B3 : Nat, u110 = .slice (some ⟨B3, 0, none⟩) 2 2 ∧ u111 = .int .i64 2 ∧ u112 = .int .i64 0 ∧ Blk wy B3 #[.int .i64 s.gain, .int .i64 (s.gain + pk - 10)] 3 ∧ Below wz.heap.size wz wy)
              case first =>
                go_region_held3 (fun w' => Below wz.heap.size wz w' ∧ w'.cell? ⟨wr.heap.size, 2, none⟩ = some (.int .i64 s.gain))
                  (first | exact ⟨(Below.refl _ _).drew, s2⟩ | (have hh := (‹Below wz.heap.size wz _ ∧ _›).1; exact ⟨hh.alloc hh.size _, ((hh.alloc hh.size _).cell ls).trans s2⟩) | go_keep)
                  (first | (go_at_call 54; refine (hpk.out _).mono ?_; rintro e w4 ⟨rfl, rfl⟩))
                go_wp2_with fail
                go_meet
                exact ⟨_, rfl, rfl, rfl, Blk.new wz _ 3, ((Below.refl _ _).alloc (Nat.le_refl _) _).drew⟩
              case rest =>
                rename World => wt
                obtain ⟨B3, rfl, rfl, rfl, hb3, hBt⟩ := hcut
                have hBjt := hBz.trans (hBt.mono hBz.size)
                have hvr := HLS.out.2.1.below hBjt
                have hvg := HLS.out.2.2.1.below hBjt
                have hvl := HLS.out.2.2.2.below hBjt
                have hlst := StepsAt.below HLS.out.1 hBjt
                have kp := HKJ.out.2.below hBjt HKJ.out.2.lt
                have HT := Lib.hid (And.intro hvr (And.intro hvg (And.intro hvl hlst)))
                have HKT := Lib.hid (And.intro kp hb3)
                have HBJT := Lib.hid hBjt
                clear hvr hvg hvl hlst kp hb3 hBjt hBz hBz2 hBt ls s2 hpk HLS HKJ H4
                go_wp2
                go_loopw [112] (fun u112 wr => ∃ k : Nat, k ≤ 2 ∧ u112 = .int .i64 k ∧ Below wt.heap.size wt wr) (fun u112 _ => (2 - Go.RowKit.intOf u112).toNat)
                case atStart => exact ⟨0, by omega, rfl, Below.refl _ _⟩
                case round =>
                  obtain ⟨k, hk, rfl, hBk2⟩ := hrel
                  rename World => wk
                  by_cases hk2 : k < 2
                  · have hcell : ∃ g : Int, wt.cell? ⟨B3, k, none⟩ = some (.int .i64 g) := by
                      match k, hk2 with
                      | 0, _ => exact ⟨_, HKT.out.2.cell 0⟩
                      | 1, _ => exact ⟨_, HKT.out.2.cell 1⟩
                    obtain ⟨g, d0⟩ := hcell
                    have lB := HKT.out.2.lt
                    replace d0 := (hBk2.cell (by simpa using lB)).trans d0
                    have kp := HKT.out.1.below hBk2 HKT.out.1.lt
                    have j0 := kp.cell 0
                    have j1 := kp.cell 1
                    have j2 := kp.cell 2
                    simp only [List.getElem?_toArray, List.getElem?_cons_succ, List.getElem?_cons_zero] at j0 j1 j2
                    have hvr := HT.out.1.below hBk2
                    have hvg := HT.out.2.1.below hBk2
                    have hvl := HT.out.2.2.1.below hBk2
                    have hbn := bounds_any (.agg #[.int .i64 m, .slice ra rows.length rc, .slice ga gn.length gc]) _ ⟨m, rows, gn⟩ l g wk ⟨_, _, rfl, hvr, hvg⟩ (StepsAt.below HT.out.2.2.2 hBk2) hgl (by show rows.length ≤ 1000; omega)
                    have HV := Lib.hid (And.intro hvr (And.intro hvg hvl))
                    clear hvr hvg hvl
                    cases hb : boundsV ⟨(m : Int), rows, gn⟩ l g with
                    | false =>
                      rw [hb] at hbn
                      clear hb
                      go_wp2_with fail
                      refine hbn.mono ?_
                      rintro e w9 ⟨rfl, hB9⟩
                      go_wp2
                      go_roundw
                      case rel => exact ⟨k + 1, by omega, by go_num, hBk2.trans (hB9.mono hBk2.size)⟩
                      case measure => simp [Go.RowKit.intOf]; omega
                    | true =>
                      rw [hb] at hbn
                      have hle := Lib.hid (fun x hx => HRB.out.2 l g x hb hx)
                      clear hb
                      have HKP := Lib.hid kp
                      clear kp
                      go_wp2_with fail
                      refine hbn.mono ?_
                      rintro e w9 ⟨rfl, hB9⟩
                      clear j0 j1 j2 d0 hbn
                      go_wp2
                      go_loopw [30] (fun u30 wr => ∃ x : Nat, x ≤ (allV ⟨(m : Int), rows, gn⟩).length ∧ u30 = .int .i64 x ∧ Below w9.heap.size w9 wr) (fun u30 _ => ((allV ⟨(m : Int), rows, gn⟩).length - Go.RowKit.intOf u30).toNat)
                      case atStart => exact ⟨0, by omega, rfl, Below.refl _ _⟩
                      case round =>
                        obtain ⟨x, hx, rfl, hBx⟩ := hrel
                        rename World => wx
                        by_cases hxl : x < (allV ⟨(m : Int), rows, gn⟩).length
                        · obtain ⟨y, hy⟩ : ∃ y, (allV ⟨(m : Int), rows, gn⟩)[x]? = some y := ⟨_, List.getElem?_eq_getElem hxl⟩
                          have hB9x := hB9.trans (hBx.mono hB9.size)
                          obtain ⟨b, off, rfl, d0⟩ := (HV.out.2.2.below hB9x).get hy
                          have hvr := HV.out.1.below hB9x
                          have hvg := HV.out.2.1.below hB9x
                          have kp := HKP.out.below hB9x HKP.out.lt
                          have j0 := kp.cell 0
                          have j1 := kp.cell 1
                          have j2 := kp.cell 2
                          simp only [List.getElem?_toArray, List.getElem?_cons_succ, List.getElem?_cons_zero] at j0 j1 j2
                          have lp := kp.lt
                          have hgn := Lib.hid (fun W (hW : Below wx.heap.size wx W) => gain_all (.agg #[.int .i64 m, .slice ra rows.length rc, .slice ga gn.length gc]) ⟨m, rows, gn⟩ y W ⟨_, _, rfl, hvr.below hW, hvg.below hW⟩)
                          have hlt : decide (g < gainV ⟨(m : Int), rows, gn⟩ y) = false := decide_eq_false (by have := hle.out y (List.mem_of_getElem? hy); omega)
                          have lB := World.block_lt_of_cell? _ _ d0
                          simp only at lB
                          clear kp hvr hvg
                          generalize gainV ⟨(m : Int), rows, gn⟩ y = gv at hgn hlt
                          go_upto_region 26 with fail
                          go_cut [134] from 125 to 134 (fun u134 wz => u134 = .bool false ∧ Below wx.heap.size wx wz)
                          case first =>
                            go_region_held3 (fun w' => Below wx.heap.size wx w' ∧ w'.cell? ⟨w2.heap.size, 0, none⟩ = some (.int .i64 m) ∧ w'.cell? ⟨w2.heap.size, 1, none⟩ = some (.slice ra rows.length rc) ∧ w'.cell? ⟨w2.heap.size, 2, none⟩ = some (.slice ga gn.length gc) ∧ w'.cell? ⟨b, off + x, none⟩ = some (.int .i64 y))
                              (first | exact ⟨(Below.refl _ _).drew, j0, j1, j2, d0⟩ | (have hh := (‹Below wx.heap.size wx _ ∧ _›).1; have hb := hh.trans (hBq.mono hh.size); exact ⟨hb, (hb.cell lp).trans j0, (hb.cell lp).trans j1, (hb.cell lp).trans j2, (hb.cell lB).trans d0⟩))
                              (first | (go_at_call 30; refine (hgn.out _ (‹Below wx.heap.size wx _ ∧ _›).1).mono ?_; rintro e wq ⟨rfl, hBq⟩))
                            go_wp2_with fail
                            go_meet
                            exact ⟨rfl, (‹Below wx.heap.size wx _ ∧ _›).1⟩
                          case rest =>
                            rename World => wz
                            obtain ⟨rfl, hBz⟩ := hcut
                            go_wp2
                            go_roundw
                            case rel => exact ⟨x + 1, by omega, by go_num, hBx.trans (hBz.mono hBx.size)⟩
                            case measure => simp [Go.RowKit.intOf]; omega
                        · obtain rfl : x = (allV ⟨(m : Int), rows, gn⟩).length := by omega
                          go_wp2
                          go_roundw
                          case rel => exact ⟨k + 1, by omega, by go_num, hBk2.trans ((hB9.trans (hBx.mono hB9.size)).mono hBk2.size)⟩
                          case measure => simp [Go.RowKit.intOf]; omega
                  · obtain rfl : k = 2 := by omega
                    go_wp2
                    go_roundw
                    case rel => exact ⟨j + 1, by omega, by go_num, hBj.trans ((HBJT.out.trans (hBk2.mono HBJT.out.size)).mono hBj.size)⟩
                    case measure => simp [Go.RowKit.intOf]; omega
          · obtain rfl : j = 4 := by omega
            have hBV := HBWY.out.1.trans (hBj.mono HBWY.out.1.size)
            go_wp2
            go_roundw
            case rel => exact ⟨i + 1, by omega, by go_num, hBV⟩
            case measure => simp [Go.RowKit.intOf]; omega
    · obtain rfl : i = 2 := by omega
      go_wp2
      go_ret
      exact ⟨rfl, HVW.out.2.2.2.trans (hBk.mono HVW.out.2.2.2.size)⟩
theorem sound_all (vars : Int) (vx : Value) (x : List X3) (vy : Value) (y : List X3) (gain : List Int) (z0 z1 z2 z3 z4 z5 z6 z7 : Int) (vs : Value) (st : List StepD) (n : Int) (w : World) (hv : InR vars) (hx : XsAt w vx x) (hxr : ∀ t ∈ x, XR t) (hy : XsAt w vy y) (hyr : ∀ t ∈ y, XR t) (hg : gain.length = 8) (hgr : ∀ t ∈ gain, InR t)
    (hz : (InR z0 ∧ InR z1 ∧ InR z2 ∧ InR z3) ∧ (InR z4 ∧ InR z5 ∧ InR z6 ∧ InR z7)) (hst : StepsAt w vs st) (hn : InR n) :
    Calls Try.prog 12 #[.int .i64 vars, vx, vy, .agg (gain.map (Value.int .i64)).toArray, .agg #[.int .i64 z0, .int .i64 z1, .int .i64 z2, .int .i64 z3, .int .i64 z4, .int .i64 z5, .int .i64 z6, .int .i64 z7], vs, .int .i64 n] w fun e w' => e = .returned (.bool true) ∧ Below w.heap.size w w' := by
  obtain ⟨m, hG⟩ := goodP vars x gain
  obtain ⟨m2, hG2⟩ := goodP vars y gain
  have hmade := Lib.hid (fun W (hW : Below w.heap.size w W) => made_view vars vx x gain W hv (hx.below hW) hxr hg hgr)
  have hmade2 := Lib.hid (fun W (hW : Below w.heap.size w W) => made_view vars vy y gain W hv (hy.below hW) hyr hg hgr)
  generalize madeP vars x gain = p at hG hmade
  generalize madeP vars y gain = p2 at hG2 hmade2
  obtain ⟨pv, rows, gn⟩ := p
  obtain ⟨pv2, rows2, gn2⟩ := p2
  obtain rfl : pv = m := hG.vm
  obtain rfl : pv2 = m2 := hG2.vm
  obtain ⟨g0, g1, g2, g3, g4, g5, g6, g7, hge⟩ := list8 hg
  have harg : (gain.map (Value.int .i64)).toArray = #[.int .i64 g0, .int .i64 g1, .int .i64 g2, .int .i64 g3, .int .i64 g4, .int .i64 g5, .int .i64 g6, .int .i64 g7] := by rw [hge]; rfl
  rw [harg] at hmade hmade2 ⊢
  exact sound_true vars vx vy vs g0 g1 g2 g3 g4 g5 g6 g7 z0 z1 z2 z3 z4 z5 z6 z7 n st m m2 rows rows2 gn gn2 w hG hG2 hz hn hst hmade hmade2
end Go.Proofs.Ytblmpmapcdpaiaa

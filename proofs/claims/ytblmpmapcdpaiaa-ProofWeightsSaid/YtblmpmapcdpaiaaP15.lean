/- program.Solve. -/
import Derived.Test.YtblmpmapcdpaiaaB3
import Derived.Test.YtblmpmapcdpaiaaB7
import Derived.Test.YtblmpmapcdpaiaaB4
namespace Go.Proofs.Ytblmpmapcdpaiaa
open Go.RowKit Go.Shelf Lib
attribute [local go_sem] Oper.semAt_some

structure SolD where
  found : Bool
  set : Int
  gain : Int
  proof : List StepD
def bestC (o : Option (Nat × Int)) (pf : Value) : Array Value :=
  match o with
  | none => #[.bool false, .int .i64 0, .int .i64 0, pf]
  | some x => #[.bool true, .int .i64 x.1, .int .i64 x.2, pf]
def solveV (p : ProgD) : SolD :=
  if validB p = true then
    match bestS p with
    | none => ⟨false, 0, 0, proofS p⟩
    | some x => ⟨true, x.1, x.2, proofS p⟩
  else ⟨false, 0, 0, []⟩
def SolV (w : World) (v : Value) (s : SolD) : Prop := ∃ vp, v = .agg #[.bool s.found, .int .i64 s.set, .int .i64 s.gain, vp] ∧ StepsAt w vp s.proof
theorem SolV.below {w w' : World} {v : Value} {s : SolD} (h : SolV w v s) (hb : Below w.heap.size w w') : SolV w' v s := by
  obtain ⟨vp, h1, h2⟩ := h
  exact ⟨vp, h1, h2.below hb⟩

set_option maxRecDepth 100000 in
theorem solve_bad (v : Value) (p : ProgD) (w : World) (hv : ProgV w v p) (hval : validB p = false) :
    Calls Try.prog 20 #[v] w fun e w' => ∃ v', e = .returned (.tuple #[v', .int .i64 230]) ∧ SolV w' v' ⟨false, 0, 0, []⟩ ∧ Below w.heap.size w w' := by
  obtain ⟨vr, vg, rfl, hvr, hvg⟩ := hv
  have hB0 : Below w.heap.size w ((w.alloc (.cells #[.int .i64 p.vars, vr, vg] 29)).alloc (.cells #[.bool false, .int .i64 0, .int .i64 0, .slice none 0 0] 37)) := ((Below.refl _ _).alloc (Nat.le_refl _) _).alloc (by simp) _
  have hx := valid_all _ p _ ⟨vr, vg, rfl, hvr.below hB0, hvg.below hB0⟩
  rw [hval] at hx
  clear hval hvr hvg
  go_enter Try.func20, Try.ntmps20
  go_wp2_with fail
  refine hx.mono ?_
  rintro e w' ⟨rfl, hB⟩
  have kb : Blk w' (w.heap.size + 1) #[.bool false, .int .i64 0, .int .i64 0, .slice none 0 0] 37 := (Blk.newAt _ _ _ (by simp)).below hB (by simp)
  have i0 := kb.cell 0
  have i1 := kb.cell 1
  have i2 := kb.cell 2
  have i3 := kb.cell 3
  have f0 := kb.frozen 0
  have f1 := kb.frozen 1
  have f2 := kb.frozen 2
  have f3 := kb.frozen 3
  simp only [List.getElem?_toArray, List.getElem?_cons_succ, List.getElem?_cons_zero] at i0 i1 i2 i3
  go_wp2
  refine bodyPost_ret (v := .tuple #[.agg #[.bool false, .int .i64 0, .int .i64 0, .slice none 0 0], .int .i64 230]) (by simp [results, Try.results20, go_sem, i0, i1, i2, i3]) rfl ?_
  have hB2 : ∀ (i : Nat) (u : Value) (W : World), Below w.heap.size w W → Below w.heap.size w (W.setCell ⟨w.heap.size + 1, i, none⟩ u) := fun i u W h => h.setCell (p := ⟨w.heap.size + 1, i, none⟩) (by simp) u
  exact ⟨_, rfl, ⟨_, rfl, none, 0, rfl, by simp, by decide, fun h => by simp at h⟩, hB2 _ _ _ (hB2 _ _ _ (hB2 _ _ _ (hB2 _ _ _ (hB0.trans (hB.mono hB0.size)))))⟩

theorem set4 {W : World} {b : Nat} {t : TypeId} {x0 x1 x2 x3 : Value} (h : Blk W b #[x0, x1, x2, x3] t) (y0 y1 y2 y3 : Value) :
    Blk ((((W.setCell ⟨b, 0, none⟩ y0).setCell ⟨b, 1, none⟩ y1).setCell ⟨b, 2, none⟩ y2).setCell ⟨b, 3, none⟩ y3) b #[y0, y1, y2, y3] t ∧
    KeepsOthers W ((((W.setCell ⟨b, 0, none⟩ y0).setCell ⟨b, 1, none⟩ y1).setCell ⟨b, 2, none⟩ y2).setCell ⟨b, 3, none⟩ y3) ∧
    (∀ n, n ≤ b → Below n W ((((W.setCell ⟨b, 0, none⟩ y0).setCell ⟨b, 1, none⟩ y1).setCell ⟨b, 2, none⟩ y2).setCell ⟨b, 3, none⟩ y3)) ∧
    (∀ k, k ≠ b → ((((W.setCell ⟨b, 0, none⟩ y0).setCell ⟨b, 1, none⟩ y1).setCell ⟨b, 2, none⟩ y2).setCell ⟨b, 3, none⟩ y3).heap[k]? = W.heap[k]?) := by
  refine ⟨(((h.set 0 y0).set 1 y1).set 2 y2).set 3 y3, (((KeepsOthers.setCell _ _ _).trans (KeepsOthers.setCell _ _ _)).trans (KeepsOthers.setCell _ _ _)).trans (KeepsOthers.setCell _ _ _), fun n hn => ?_, fun k hk => ?_⟩
  · exact ((((Below.refl n W).setCell (p := ⟨b, 0, none⟩) hn _).setCell (p := ⟨b, 1, none⟩) hn _).setCell (p := ⟨b, 2, none⟩) hn _).setCell (p := ⟨b, 3, none⟩) hn _
  · exact (Below.heap_setCell _ ⟨b, 3, none⟩ _ _ hk).trans ((Below.heap_setCell _ ⟨b, 2, none⟩ _ _ hk).trans ((Below.heap_setCell _ ⟨b, 1, none⟩ _ _ hk).trans (Below.heap_setCell _ ⟨b, 0, none⟩ _ _ hk)))

theorem better_none (gain : List Int) (x : Nat) : better gain none x = some (x, ch gain x) := rfl
theorem better_yes {gain : List Int} {x : Nat} {s : Nat × Int} (h : s.2 < ch gain x) : better gain (some s) x = some (x, ch gain x) := if_pos h
theorem better_no {gain : List Int} {x : Nat} {s : Nat × Int} (h : ¬ s.2 < ch gain x) : better gain (some s) x = some s := if_neg h
set_option maxRecDepth 100000 in
set_option maxHeartbeats 2000000 in
theorem solve_good (v : Value) (p : ProgD) (w : World) (hv : ProgV w v p) (hval : validB p = true) :
    Calls Try.prog 20 #[v] w fun e w' => ∃ v' f s g pf, e = .returned (.tuple #[v', .int .i64 0]) ∧ SolV w' v' ⟨f, s, g, pf⟩ ∧ ⟨f, s, g, pf⟩ = solveV p ∧ Below w.heap.size w w' := by
  obtain ⟨vr, vg, rfl, hvr, hvg⟩ := hv
  have hB0 : Below w.heap.size w ((w.alloc (.cells #[.int .i64 p.vars, vr, vg] 29)).alloc (.cells #[.bool false, .int .i64 0, .int .i64 0, .slice none 0 0] 37)) := ((Below.refl _ _).alloc (Nat.le_refl _) _).alloc (by simp) _
  have hx := valid_all _ p _ ⟨vr, vg, rfl, hvr.below hB0, hvg.below hB0⟩
  rw [hval] at hx
  obtain ⟨v1, v2, v3, v4, v5, v6⟩ := validB_true hval
  have HR := Lib.hid hvr
  have HG := Lib.hid hvg
  have HV := Lib.hid hval
  have H6 := Lib.hid v6
  clear hval hvr hvg v4 v6
  refine (callsIn_wide (n := 6)).1 ?_
  refine callsIn_of_wp_marks Try.func20 rfl trivial ?_ rfl
  simp only [Try.ntmps20, List.size_toArray, List.length_cons, List.length_nil, Nat.reduceAdd, Nat.reduceSub, Array.replicate_succ, Array.replicate_zero, List.push_toArray, List.append_toArray, List.nil_append, List.cons_append]
  refine wpIn_wide.2 ?_
  go_wp2_with fail
  refine hx.mono ?_
  rintro e w1 ⟨rfl, hB1⟩
  have hBw1 := hB0.trans (hB1.mono hB0.size)
  have hz1 := hB1.size
  simp at hz1
  have kp : Blk w1 w.heap.size #[.int .i64 p.vars, vr, vg] 29 := ((Blk.new _ _ _).alloc _).below hB1 (by simp; omega)
  have kb : Blk w1 (w.heap.size + 1) #[.bool false, .int .i64 0, .int .i64 0, .slice none 0 0] 37 := (Blk.newAt _ _ _ (by simp)).below hB1 (by simp)
  have i0 := kp.cell 0
  have i1 := kp.cell 1
  have i2 := kp.cell 2
  simp only [List.getElem?_toArray, List.getElem?_cons_succ, List.getElem?_cons_zero] at i0 i1 i2
  have lp := kp.lt
  clear hx
  go_wp2_with fail
  refine (choices_made _ _ _ _).mono ?_
  rintro e w2 ⟨rfl, rfl⟩
  clear i0 i1 i2
  go_wp2_with fail
  refine (wpIn_wide (n := 6)).1 ?_
  have hBs : Below w1.heap.size w1 ((w1.alloc (.cells #[.bool false, .int .i64 0, .int .i64 0, .slice none 0 0] 37)).alloc (.cells #[.int .i64 p.vars, vr, vg] 29)) := ((Below.refl _ _).alloc (Nat.le_refl _) _).alloc (by simp) _
  have hBw2 := hBw1.trans (hBs.mono hBw1.size)
  have hseq := choices_seq 5 (by omega) (w1.heap.size + 1) p w _ vr vg HV.out HR.out hBw2 ⟨29, (0, 0), Blk.newAt _ _ _ (by simp)⟩
  refine wpIn_rangeFunc_Mf (zs := fun k => False) rfl (by omega) (gf := 87) (lb := #[.pointer (some ⟨w1.heap.size + 1, 0, none⟩)]) rfl trivial Try.call87
    (fun k hk => hk.elim) hseq (fun h k => h.trans k)
    (fun W l o o' hl ho _ _ => by simp at hl; exact KpC.putObj o' (by omega) (by omega) ho) (Below.refl _ _) (fun _ => rfl)
    (fun pre W => Blk W w1.heap.size (bestC (pre.foldl (better p.gain) none) (.slice none 0 0)) 37 ∧ Below w1.heap.size w1 W ∧ w1.heap.size + 2 ≤ W.heap.size)
    (fun _ _ _ => False)
    (fun s A B hs ht => ⟨ht.heap hs.1 (fun h => h) (.inr rfl), ht.below hs.2.1 (Nat.le_refl _) (by simp; omega) (fun k hk h => h), Nat.le_trans hs.2.2 ht.size⟩)
    (fun _ _ _ _ hs _ => hs)
    ⟨(Blk.new _ _ _).alloc _, hBs, by simp⟩
    (fun x t => (t.setIfInBounds 14 (.int .i64 (x : Int))).setIfInBounds 5 (.int .i64 (x : Int))) ?assign ?body ?done ?stop
  case assign =>
    intro l x W K hK
    dsimp only [encN]
    gi_wp2
    exact hK
  case body =>
    rintro l pre x W ⟨hb, hB, hsz⟩ ⟨-, hx12⟩
    have hch := chosen_any vg p.gain x W (HG.out.below (hBw1.trans (hB.mono hBw1.size))) (by omega) H6.out (by omega)
    have kpW := kp.below hB lp
    have i2 := kpW.cell 2
    simp only [List.getElem?_toArray, List.getElem?_cons_succ, List.getElem?_cons_zero] at i2
    have hfo : (pre ++ [x]).foldl (better p.gain) none = better p.gain (pre.foldl (better p.gain) none) x := by rw [List.foldl_append]; rfl
    generalize pre.foldl (better p.gain) none = o at hb hfo
    cases o with
    | none =>
      rw [better_none] at hfo
      generalize ch p.gain x = g at hch hfo
      have HF := Lib.hid hfo
      clear hfo
      have j0 := hb.cell 0
      have j1 := hb.cell 1
      have j2 := hb.cell 2
      have j3 := hb.cell 3
      have f0 := hb.frozen 0
      have f1 := hb.frozen 1
      have f2 := hb.frozen 2
      have f3 := hb.frozen 3
      simp only [bestC, List.getElem?_toArray, List.getElem?_cons_succ, List.getElem?_cons_zero] at j0 j1 j2 j3
      gi_wp2_with fail
      refine ⟨trivial, ?_⟩
      refine (CallsIn.inRound l (callsIn_wide.2 hch)).mono ?_
      rintro e w2 ⟨rfl, rfl⟩
      gi_wp2
      obtain ⟨s1, s2, s3, s4⟩ := set4 hb (.bool true) (.int .i64 x) (.int .i64 g) (.slice none 0 0)
      have e := s1
      rw [show #[Value.bool true, .int .i64 x, .int .i64 g, .slice none 0 0] = bestC ((pre ++ [x]).foldl (better p.gain) none) (.slice none 0 0) from by rw [HF.out]; rfl] at e
      exact ⟨s2, ⟨s3 _ (by omega), s4 _ (by omega)⟩, e, hB.trans (s3 _ (Nat.le_refl _)), by have := (s3 0 (by omega)).size; omega⟩
    | some y =>
      by_cases hy : y.2 < ch p.gain x
      · rw [better_yes hy] at hfo
        generalize ch p.gain x = g at hch hfo hy
        have HF := Lib.hid hfo
        clear hfo
        have j0 := hb.cell 0
        have j1 := hb.cell 1
        have j2 := hb.cell 2
        have j3 := hb.cell 3
        have f0 := hb.frozen 0
        have f1 := hb.frozen 1
        have f2 := hb.frozen 2
        have f3 := hb.frozen 3
        simp only [bestC, List.getElem?_toArray, List.getElem?_cons_succ, List.getElem?_cons_zero] at j0 j1 j2 j3
        gi_wp2_with fail
        refine ⟨trivial, ?_⟩
        refine (CallsIn.inRound l (callsIn_wide.2 hch)).mono ?_
        rintro e w2 ⟨rfl, rfl⟩
        gi_wp2
        obtain ⟨s1, s2, s3, s4⟩ := set4 hb (.bool true) (.int .i64 x) (.int .i64 g) (.slice none 0 0)
        have e := s1
        rw [show #[Value.bool true, .int .i64 x, .int .i64 g, .slice none 0 0] = bestC ((pre ++ [x]).foldl (better p.gain) none) (.slice none 0 0) from by rw [HF.out]; rfl] at e
        exact ⟨s2, ⟨s3 _ (by omega), s4 _ (by omega)⟩, e, hB.trans (s3 _ (Nat.le_refl _)), by have := (s3 0 (by omega)).size; omega⟩
      · rw [better_no hy] at hfo
        generalize ch p.gain x = g at hch hfo hy
        have HF := Lib.hid hfo
        clear hfo
        have j0 := hb.cell 0
        have j1 := hb.cell 1
        have j2 := hb.cell 2
        have j3 := hb.cell 3
        have f0 := hb.frozen 0
        have f1 := hb.frozen 1
        have f2 := hb.frozen 2
        have f3 := hb.frozen 3
        simp only [bestC, List.getElem?_toArray, List.getElem?_cons_succ, List.getElem?_cons_zero] at j0 j1 j2 j3
        gi_wp2_with fail
        refine ⟨trivial, ?_⟩
        refine (CallsIn.inRound l (callsIn_wide.2 hch)).mono ?_
        rintro e w2 ⟨rfl, rfl⟩
        gi_wp2
        have e := hb
        rw [← HF.out] at e
        exact ⟨KeepsOthers.refl _, ⟨Below.refl _ _, rfl⟩, e, hB, hsz⟩
  case done =>
    rintro D ys W hD rfl ⟨hb, hB, hsz⟩ hK
    simp at hD
    have hBd := hBw1.trans (hB.mono hBw1.size)
    have hlD : D < W.heap.size := (Array.getElem?_eq_some_iff.1 hK).1
    have hbest := best_of p
    have hrl := rowsS_len HV.out (m := p.vars.toNat) (by omega)
    have hrb := rowsS_bad HV.out (m := p.vars.toNat) (by omega)
    have hsv : solveV p = match bestS p with | none => ⟨false, 0, 0, growS (rowsS p) p.vars.toNat 0 0 0⟩ | some x => ⟨true, x.1, x.2, growS (rowsS p) p.vars.toNat 0 0 0⟩ := by unfold solveV proofS; rw [if_pos HV.out]
    have hbd := fun x h => best_bd HV.out (x := x) h
    unfold rowsS at hrl hrb hsv
    change Blk W w1.heap.size (bestC (bestS p) (.slice none 0 0)) 37 at hb
    have i0 := (kp.below hB lp).cell 0
    have i1 := (kp.below hB lp).cell 1
    have i2 := (kp.below hB lp).cell 2
    simp only [List.getElem?_toArray, List.getElem?_cons_succ, List.getElem?_cons_zero] at i0 i1 i2
    generalize bestS p = o at hb hrl hrb hsv hbd
    cases o with
    | none =>
      have HS := Lib.hid hsv
      simp only at hrl hrb
      have hp := Lib.hid (fun W v h => proof_all v p.rows p.vars.toNat W h (by omega) hrl hrb)
      clear hrl hrb hbd hsv hbest
      have j0 := hb.cell 0
      simp only [bestC, List.getElem?_toArray, List.getElem?_cons_succ, List.getElem?_cons_zero] at j0
      go_wp2_with fail
      refine (hp.out _ _ (HR.out.below hBd)).mono ?_
      rintro e w2 ⟨v', cs, rfl, hown, hst, hB2⟩
      obtain ⟨va, vc, rfl, hvl, hvm⟩ := owned_len hown
      have HST := Lib.hid hst
      have HOW := Lib.hid hown
      clear hst hown
      have hb2 := hb.below hB2 (by omega)
      have kb2 := (kb.below hB (by omega)).below hB2 (by omega)
      have l2 := hB2.size
      have a0 := hb2.cell 0
      have a1 := hb2.cell 1
      have a2 := hb2.cell 2
      have a3 := hb2.cell 3
      have f3 := hb2.frozen 3
      have b0 := kb2.cell 0
      have b1 := kb2.cell 1
      have b2 := kb2.cell 2
      have b3 := kb2.cell 3
      have g0 := kb2.frozen 0
      have g1 := kb2.frozen 1
      have g2 := kb2.frozen 2
      have g3 := kb2.frozen 3
      simp only [bestC, List.getElem?_toArray, List.getElem?_cons_succ, List.getElem?_cons_zero] at a0 a1 a2 a3 b0 b1 b2 b3
      have hne : w1.heap.size ≠ w.heap.size + 1 := by omega
      clear i0 i1 i2 j0
      go_wp2
      generalize hLL : growS _ p.vars.toNat 0 0 0 = L at HST HOW ⊢
      have hK2 : w2.heap[D]? = some (.deferred (some [])) := (hB2.block D hlD).trans hK
      obtain ⟨s1, s2, s3, s4⟩ := set4 (kb2.other (a := ⟨w1.heap.size, 3, none⟩) (.slice va L.length vc) (by simp; omega)) (.bool false) (.int .i64 0) (.int .i64 0) (.slice va L.length vc)
      have hs3 : Below w.heap.size w2 (w2.setCell ⟨w1.heap.size, 3, none⟩ (.slice va L.length vc)) := (Below.refl _ _).setCell (p := ⟨w1.heap.size, 3, none⟩) (by simp; omega) _
      have hK3 := (s4 D (by omega)).trans ((Below.heap_setCell w2 ⟨w1.heap.size, 3, none⟩ (.slice va L.length vc) D (by simp; omega)).trans hK2)
      have hF := fun o => (show Blk (World.putObj _ D o) (w.heap.size + 1) _ 37 from (World.putObj_heap_other (by omega)).trans s1)
      have c0 := fun o => (hF o).cell 0
      have c1 := fun o => (hF o).cell 1
      have c2 := fun o => (hF o).cell 2
      have c3 := fun o => (hF o).cell 3
      simp only [List.getElem?_toArray, List.getElem?_cons_succ, List.getElem?_cons_zero] at c0 c1 c2 c3
      refine ⟨by simp, .inl ⟨_, _, rfl, run_takeDeferred hK3, ?_⟩⟩
      have h82 : ∀ k cs, Blk w2 k cs 82 → k ≠ w1.heap.size ∧ k ≠ w.heap.size + 1 ∧ k ≠ D := fun k cs h => by
        refine ⟨fun e => ?_, fun e => ?_, fun e => ?_⟩ <;> subst e
        · have := (show w2.heap[w1.heap.size]? = _ from hb2).symm.trans h; simp at this
        · have := (show w2.heap[w.heap.size + 1]? = _ from kb2).symm.trans h; simp at this
        · have := hK2.symm.trans h; simp at this
      have hfr := fun o => StepsC.other (A := w2) (B := World.putObj _ D o) (fun k cs h => (World.putObj_heap_other (h82 k cs h).2.2).trans ((s4 k (h82 k cs h).2.1).trans ((Below.heap_setCell w2 ⟨w1.heap.size, 3, none⟩ (.slice va L.length vc) k (h82 k cs h).1).trans h))) HST.out
      have lb1 : w1.heap.size < W.heap.size + 3 := by omega
      have lb2 : w.heap.size + 1 < W.heap.size + 3 := by omega
      have hrow := fun o => ownsRow_putObj (ownsRow_setCell_below (a := ⟨w.heap.size + 1, 3, none⟩) (ownsRow_setCell_below (a := ⟨w.heap.size + 1, 2, none⟩) (ownsRow_setCell_below (a := ⟨w.heap.size + 1, 1, none⟩) (ownsRow_setCell_below (a := ⟨w.heap.size + 1, 0, none⟩) (ownsRow_setCell_below (a := ⟨w1.heap.size, 3, none⟩) HOW.out lb1 (.slice va L.length vc)) lb2 (.bool false)) lb2 (.int .i64 0)) lb2 (.int .i64 0)) lb2 (.slice va L.length vc)) o hK3 rfl
      refine ⟨.tuple #[.agg #[.bool false, .int .i64 0, .int .i64 0, .slice va L.length vc], .int .i64 0], by simp [results, Try.results20, go_sem, c0, c1, c2, c3], _, false, 0, 0, L, rfl, ⟨_, rfl, steps_view (hrow _) (hfr _)⟩, ?_, ?_⟩
      · rw [HS.out, hLL]
      · exact ((hBd.trans (hB2.mono hBd.size)).trans (hs3.trans (s3 _ (by omega)))).trans (belowK_b (w := w) (Nat.le_refl _) _ D _ _ (by omega) hK3 rfl rfl)
    | some x =>
      have HS := Lib.hid hsv
      simp only at hrl hrb
      have hp := Lib.hid (fun W v h => proof_all v (p.rows ++ [goalS p.gain x.2]) p.vars.toNat W h (by omega) hrl hrb)
      obtain ⟨d1, d2, d3⟩ := hbd x rfl
      have hg := Lib.hid (fun W (hW : Below w.heap.size w W) => goal_any _ p x.2 W ⟨vr, vg, rfl, HR.out.below hW, HG.out.below hW⟩ (by omega) H6.out d1 d2)
      obtain ⟨ra, rc, hvr, hr1, hr2⟩ := HR.out.len
      subst hvr
      unfold maxLen at hr2
      clear hrl hrb hbd hsv hbest
      have j0 := hb.cell 0
      have j2 := hb.cell 2
      simp only [bestC, List.getElem?_toArray, List.getElem?_cons_succ, List.getElem?_cons_zero] at j0 j2
      go_wp2_with fail
      have HKP := Lib.hid (show Blk W.drew w.heap.size #[.int .i64 p.vars, .slice ra p.rows.length rc, vg] 29 from (kp.below hB lp : Blk W _ _ _))
      have HHB := Lib.hid (show Blk W.drew w1.heap.size #[.bool true, .int .i64 x.1, .int .i64 x.2, .slice none 0 0] 37 from hb)
      have hn1 : (0 : Int) ≤ (p.rows.length : Int) ∧ (p.rows.length : Int) ≤ (rc : Int) := by omega
      go_region_held3 (fun w' => w'.cell? ⟨w.heap.size, 0, none⟩ = some (.int .i64 p.vars) ∧ w'.cell? ⟨w.heap.size, 1, none⟩ = some (.slice ra p.rows.length rc) ∧ w'.cell? ⟨w.heap.size, 2, none⟩ = some vg ∧ w'.cell? ⟨w1.heap.size, 2, none⟩ = some (.int .i64 x.2))
        (first | go_keep | exact ⟨by simpa using (HKP.out.below hB4 (by show _ < W.heap.size; omega)).cell 0, by simpa using (HKP.out.below hB4 (by show _ < W.heap.size; omega)).cell 1, by simpa using (HKP.out.below hB4 (by show _ < W.heap.size; omega)).cell 2, by simpa using (HHB.out.below hB4 (by show _ < W.heap.size; omega)).cell 2⟩ | exact ⟨by simpa using (((HKP.out.below hB4 (by show _ < W.heap.size; omega)).alloc _).below hB5 (by simp; omega)).cell 0, by simpa using (((HKP.out.below hB4 (by show _ < W.heap.size; omega)).alloc _).below hB5 (by simp; omega)).cell 1, by simpa using (((HKP.out.below hB4 (by show _ < W.heap.size; omega)).alloc _).below hB5 (by simp; omega)).cell 2, by simpa using (((HHB.out.below hB4 (by show _ < W.heap.size; omega)).alloc _).below hB5 (by simp; omega)).cell 2⟩)
        (first | (go_at_call 62; refine (hg.out _ (by exact hBd.drew)).mono ?_; rintro e w4 ⟨v4, rfl, ⟨vc, rfl, hvc⟩, hB4⟩; obtain ⟨ca, cc, hcv, hc1, hc2⟩ := hvc.len; subst hcv; have hsz4 : W.heap.size ≤ w4.heap.size := hB4.size) | (refine step_rows (B := w4.heap.size) rfl (.tmp 40) (.tmp 45) rfl ((HR.out.below hBd.drew).below (hB4.alloc (Nat.le_trans (Nat.le_refl _) hsz4) _)) (by simp [Act.eval, Act.put]) _ (by simp [Act.eval, Act.put]) (Blk.new w4 _ 26) ⟨_, rfl, hvc.below ((Below.refl _ _).alloc (Nat.le_refl _) _)⟩ (by simp [Value.oneCell']) (by omega) ?_; intro a' cap' w5 hr5 hB5))
      have hB45 : Below W.heap.size W w5 := ((Below.refl _ _).drew.trans hB4).trans (((Below.refl _ _).alloc hsz4 _).trans (hB5.mono (by simp; omega)))
      have hb5 : Blk w5 w1.heap.size #[.bool true, .int .i64 x.1, .int .i64 x.2, .slice none 0 0] 37 := hb.below hB45 (by omega)
      have kb5 := (kb.below hB (by omega)).below hB45 (by omega)
      have hK5 := (hB45.block D hlD).trans hK
      have hBd5 := hBd.trans (hB45.mono hBd.size)
      have hsz5 := hB45.size
      have hlD5 : D < w5.heap.size := by omega
      clear i0 i1 i2 j0 j2 HKP HHB hn1
      go_wp2_with fail
      refine (hp.out _ _ hr5).mono ?_
      rintro e w2 ⟨v', cs, rfl, hown, hst, hB2⟩
      obtain ⟨va, vc, rfl, hvl, hvm⟩ := owned_len hown
      have HST := Lib.hid hst
      have HOW := Lib.hid hown
      clear hst hown
      have hb2 := hb5.below hB2 (by omega)
      have kb2 := kb5.below hB2 (by omega)
      have l2 := hB2.size
      have a0 := hb2.cell 0
      have a1 := hb2.cell 1
      have a2 := hb2.cell 2
      have a3 := hb2.cell 3
      have f3 := hb2.frozen 3
      have b0 := kb2.cell 0
      have b1 := kb2.cell 1
      have b2 := kb2.cell 2
      have b3 := kb2.cell 3
      have g0 := kb2.frozen 0
      have g1 := kb2.frozen 1
      have g2 := kb2.frozen 2
      have g3 := kb2.frozen 3
      simp only [bestC, List.getElem?_toArray, List.getElem?_cons_succ, List.getElem?_cons_zero] at a0 a1 a2 a3 b0 b1 b2 b3
      have hne : w1.heap.size ≠ w.heap.size + 1 := by omega
      
      go_wp2
      generalize hLL : growS _ p.vars.toNat 0 0 0 = L at HST HOW ⊢
      have hK2 : w2.heap[D]? = some (.deferred (some [])) := (hB2.block D hlD5).trans hK5
      obtain ⟨s1, s2, s3, s4⟩ := set4 (kb2.other (a := ⟨w1.heap.size, 3, none⟩) (.slice va L.length vc) (by simp; omega)) (.bool true) (.int .i64 x.1) (.int .i64 x.2) (.slice va L.length vc)
      have hs3 : Below w.heap.size w2 (w2.setCell ⟨w1.heap.size, 3, none⟩ (.slice va L.length vc)) := (Below.refl _ _).setCell (p := ⟨w1.heap.size, 3, none⟩) (by simp; omega) _
      have hK3 := (s4 D (by omega)).trans ((Below.heap_setCell w2 ⟨w1.heap.size, 3, none⟩ (.slice va L.length vc) D (by simp; omega)).trans hK2)
      have hF := fun o => (show Blk (World.putObj _ D o) (w.heap.size + 1) _ 37 from (World.putObj_heap_other (by omega)).trans s1)
      have c0 := fun o => (hF o).cell 0
      have c1 := fun o => (hF o).cell 1
      have c2 := fun o => (hF o).cell 2
      have c3 := fun o => (hF o).cell 3
      simp only [List.getElem?_toArray, List.getElem?_cons_succ, List.getElem?_cons_zero] at c0 c1 c2 c3
      refine ⟨by simp, .inl ⟨_, _, rfl, run_takeDeferred hK3, ?_⟩⟩
      have h82 : ∀ k cs, Blk w2 k cs 82 → k ≠ w1.heap.size ∧ k ≠ w.heap.size + 1 ∧ k ≠ D := fun k cs h => by
        refine ⟨fun e => ?_, fun e => ?_, fun e => ?_⟩ <;> subst e
        · have := (show w2.heap[w1.heap.size]? = _ from hb2).symm.trans h; simp at this
        · have := (show w2.heap[w.heap.size + 1]? = _ from kb2).symm.trans h; simp at this
        · have := hK2.symm.trans h; simp at this
      have hfr := fun o => StepsC.other (A := w2) (B := World.putObj _ D o) (fun k cs h => (World.putObj_heap_other (h82 k cs h).2.2).trans ((s4 k (h82 k cs h).2.1).trans ((Below.heap_setCell w2 ⟨w1.heap.size, 3, none⟩ (.slice va L.length vc) k (h82 k cs h).1).trans h))) HST.out
      have lb1 : w1.heap.size < w5.heap.size + 3 := by omega
      have lb2 : w.heap.size + 1 < w5.heap.size + 3 := by omega
      have hrow := fun o => ownsRow_putObj (ownsRow_setCell_below (a := ⟨w.heap.size + 1, 3, none⟩) (ownsRow_setCell_below (a := ⟨w.heap.size + 1, 2, none⟩) (ownsRow_setCell_below (a := ⟨w.heap.size + 1, 1, none⟩) (ownsRow_setCell_below (a := ⟨w.heap.size + 1, 0, none⟩) (ownsRow_setCell_below (a := ⟨w1.heap.size, 3, none⟩) HOW.out lb1 (.slice va L.length vc)) lb2 (.bool true)) lb2 (.int .i64 x.1)) lb2 (.int .i64 x.2)) lb2 (.slice va L.length vc)) o hK3 rfl
      refine ⟨.tuple #[.agg #[.bool true, .int .i64 x.1, .int .i64 x.2, .slice va L.length vc], .int .i64 0], by simp [results, Try.results20, go_sem, c0, c1, c2, c3], _, true, x.1, x.2, L, rfl, ⟨_, rfl, steps_view (hrow _) (hfr _)⟩, ?_, ?_⟩
      · rw [HS.out, hLL]
      · exact ((hBd5.trans (hB2.mono hBd5.size)).trans (hs3.trans (s3 _ (by omega)))).trans (belowK_b (w := w) (Nat.le_refl _) _ D _ _ (by omega) hK3 rfl rfl)
  case stop =>
    intro D c pre W _ _ h _
    exact h.elim
theorem solve_all (v : Value) (p : ProgD) (w : World) (hv : ProgV w v p) :
    Calls Try.prog 20 #[v] w fun e w' => ∃ v', e = .returned (.tuple #[v', .int .i64 (errV p)]) ∧ SolV w' v' (solveV p) ∧ Below w.heap.size w w' := by
  cases hval : validB p with
  | false =>
    have e1 : errV p = 230 := by unfold errV; rw [hval]; rfl
    have e2 : solveV p = ⟨false, 0, 0, []⟩ := by unfold solveV; rw [hval]; rfl
    rw [e1, e2]
    exact solve_bad v p w hv hval
  | true =>
    have e1 : errV p = 0 := by unfold errV; rw [hval]; rfl
    rw [e1]
    refine (solve_good v p w hv hval).mono ?_
    rintro e w' ⟨v', f, s, g, pf, h1, h2, h3, h4⟩
    exact ⟨v', h1, h3 ▸ h2, h4⟩
end Go.Proofs.Ytblmpmapcdpaiaa

/- nadirref23.Undecided, Goal. -/
import Derived.Test.YtblmpmapcdpaiaaR2
import Derived.Test.YtblmpmapcdpaiaaP18
import Derived.Laws.MakeOwn
import Derived.StillTailTactics
namespace Go.Proofs.Ytblmpmapcdpaiaa
open Go.RowKit Lib

set_option maxRecDepth 100000 in
set_option maxHeartbeats 2000000 in
theorem undecided_all (v : Value) (p : ProgD) (w : World) (hv : ProgV w v p) (h0 : 0 ≤ p.vars) (h1 : p.vars ≤ 12) :
    Calls Try.prog 39 #[v] w fun e w' => ∃ v', e = .returned v' ∧ IntsAt w' v' (List.replicate p.vars.toNat (-1)) ∧ Below w.heap.size w w' := by
  obtain ⟨vr, vg, rfl, hvr, hvg⟩ := hv
  obtain ⟨ra, rc, rfl, -, -⟩ := (show SlicesLen vr p.rows.length from hvr.len)
  obtain ⟨ga, gc, rfl, -, -⟩ := (show SlicesLen vg p.gain.length from hvg.len)
  obtain ⟨m, hm⟩ := Int.eq_ofNat_of_zero_le h0
  rw [hm] at h0 h1 ⊢
  rw [Int.toNat_natCast]
  clear hm hvr hvg
  go_enter Try.func39, Try.ntmps39
  go_wp2
  have kp := Blk.new w #[.int .i64 m, .slice ra p.rows.length rc, .slice ga p.gain.length gc] 29
  have hB0 : Below w.heap.size w (w.alloc (.cells #[.int .i64 m, .slice ra p.rows.length rc, .slice ga p.gain.length gc] 29)) := (Below.refl _ _).alloc (Nat.le_refl _) _
  generalize w.alloc (.cells #[.int .i64 m, .slice ra p.rows.length rc, .slice ga p.gain.length gc] 29) = V at kp hB0 ⊢
  have lkp := kp.lt
  go_loopw [3, 4] (fun u3 u4 wr => ∃ k : Nat, k ≤ m ∧ u4 = .int .i64 k ∧ wr.ownsRow V.heap.size 3 1 u3 (List.replicate k (-1 : Int)).length ((List.replicate k (-1 : Int)).map (Value.int .i64)) ∧ Below V.heap.size V wr) (fun _ u4 _ => (m - intOf u4).toNat)
  case atStart => exact ⟨0, by omega, rfl, World.ownsRow_nil _ _ _ _, Below.refl _ _⟩
  case round =>
    obtain ⟨k, hk, rfl, hown, hBk⟩ := hrel
    have i0 := (kp.below hBk lkp).cell 0
    simp only [List.getElem?_toArray, List.getElem?_cons_zero] at i0
    by_cases hkm : k < m
    · have hl : (List.replicate k (-1 : Int)).length = k := List.length_replicate
      have HN : Hid (List.replicate (k + 1) (-1 : Int) = List.replicate k (-1) ++ [-1]) := List.replicate_succ'
      have HL := Lib.hid hl
      rw [hl] at hown
      clear hl
      go_wp2_with (at_builtin; refine wpList_push E24 rfl _ _ rfl V.heap.size hown rfl rfl rfl (by unfold maxLen; omega) (by omega) hBk.size ?_; intro v' w3 hown' hgrow hb1)
      go_roundw
      case rel => exact ⟨k + 1, by omega, by go_num, by rw [HN.out]; simpa using hown', hBk.trans hb1⟩
      case measure => simp [intOf]; omega
    · obtain rfl : m = k := by omega
      go_wp2
      go_ret
      exact ⟨_, rfl, owned_slice hown, hB0.trans (hBk.mono hB0.size)⟩

theorem o3_blk {W : World} {B : Nat} {l : List Int} (hb : Blk W B (l.map (Value.int .i64)).toArray 3) (hl : l.length ≤ maxLen) : O3 W (.slice (some ⟨B, 0, none⟩) l.length l.length) l :=
  ⟨by simp, .inr ⟨B, l.length, _, rfl, Nat.zero_le _, hb, Nat.le_refl _, hl, by simp, by simpa using List.take_of_length_le (by simp)⟩⟩
/-- A made row of n numbers, of which the first k are filled. -/
def fillK (f : Nat → Int) (n k : Nat) : List Int := (List.range n).map fun i => if i < k then f i else 0
theorem fillK_len (f : Nat → Int) (n k : Nat) : (fillK f n k).length = n := by simp [fillK]
theorem fillK_set (f : Nat → Int) {n k : Nat} (h : k < n) : ((fillK f n k).map (Value.int .i64)).toArray.setIfInBounds k (.int .i64 (f k)) = ((fillK f n (k + 1)).map (Value.int .i64)).toArray := by
  rw [List.setIfInBounds_toArray]
  congr 1
  apply List.ext_getElem?
  intro i
  rw [List.getElem?_set]
  simp only [List.length_map, fillK, List.getElem?_map, List.length_range]
  by_cases hi : i < n
  · rw [List.getElem?_range hi]
    by_cases hki : k = i
    · subst hki; simp [h]
    · rw [if_neg hki]
      by_cases h2 : i < k
      · simp [h2, Nat.lt_succ_of_lt h2]
      · simp [h2, show ¬ i < k + 1 by omega]
  · have hn : (List.range n)[i]? = none := List.getElem?_eq_none (by simp; omega)
    rw [hn]
    by_cases hki : k = i
    · omega
    · rw [if_neg hki]; rfl
theorem fillK_zero (f : Nat → Int) (n : Nat) : (madeCells #[.int .i64 0] n) = ((fillK f n 0).map (Value.int .i64)).toArray := by
  apply Array.ext'
  rw [toList_madeCells_one]
  simp only [fillK, Nat.not_lt_zero, if_false, List.map_map]
  exact (List.eq_replicate_iff.2 ⟨by simp, fun b hb => by simp at hb; exact hb.2.symm⟩).symm
theorem fillK_get (f : Nat → Int) {n k i : Nat} (h : i < n) : ((fillK f n k).map (Value.int .i64)).toArray[i]? = some (.int .i64 (if i < k then f i else 0)) := by
  rw [List.getElem?_toArray, List.getElem?_map, fillK, List.getElem?_map, List.getElem?_range h]; rfl
theorem fillK_full (l : List Int) : fillK (fun i => -(l.getD i 0)) l.length l.length = l.map fun n => -n := by
  apply List.ext_getElem?
  intro i
  rw [List.getElem?_map, fillK, List.getElem?_map]
  by_cases hi : i < l.length
  · rw [List.getElem?_range hi, getD_some 0 hi]; simp [hi]
  · rw [List.getElem?_eq_none (by simp; omega), List.getElem?_eq_none (by omega)]; rfl
theorem mk24 (n : Nat) (hn : n ≤ 1000000) (w : World) : (Instr.makeSlice 24 (.int .i64 n) (.int .i64 n)).run Try.prog w = .ok (.slice (some ⟨w.heap.size, 0, none⟩) n n) (w.alloc (.cells (madeCells #[.int .i64 0] n) 3)) := by
  obtain ⟨i, hi, hz0, hz1, hz2⟩ := info_parts E24.info
  have h := run_make (P := Try.prog) w 24 3 i _ E24.und hi hz0 .i64 .i64 n n (by omega) (Int.le_refl _) (by rw [hz2]; omega) (by omega)
  rw [Int.toNat_natCast, hz1, Nat.mul_one] at h
  exact h
set_option maxRecDepth 100000 in
set_option maxHeartbeats 2000000 in
theorem goal_ref (v : Value) (p : ProgD) (g : Int) (w : World) (hv : ProgV w v p) (hl : p.gain.length ≤ 60) (hc : coefOK p.gain = true) (h0 : -10000000000000 ≤ g) (h1 : g ≤ 10000000000000) :
    Calls Try.prog 41 #[v, .int .i64 g] w fun e w' => ∃ vc, e = .returned (.agg #[.int .i64 0, .int .i64 0, .int .i64 0, .int .i64 0, vc, .int .i64 (goalS p.gain g).most]) ∧ O3 w' vc (goalS p.gain g).coef ∧ Below w.heap.size w w' := by
  obtain ⟨vr, vg, rfl, hvr, hvg⟩ := hv
  obtain ⟨ra, rc, rfl, -, -⟩ := (show SlicesLen vr p.rows.length from hvr.len)
  have HG := Lib.hid hvg
  have HC := Lib.hid hc
  obtain ⟨ga, gc, rfl, hg1, hg2⟩ := (show SlicesLen vg p.gain.length from hvg.len)
  unfold maxLen at hg2
  have hmk := mk24 p.gain.length (by omega)
  have HF := Lib.hid (fillK_zero (fun i => -(p.gain.getD i 0)) p.gain.length)
  have hm : -(g + 1) = -g - 1 := by omega
  have HM := Lib.hid hm
  clear hvr hvg hc hm
  go_enter Try.func41, Try.ntmps41
  go_wp2_with fail
  have kp : Blk ((((w.alloc (.cells #[.int .i64 p.vars, .slice ra p.rows.length rc, .slice ga p.gain.length gc] 29)).alloc (.cells #[.int .i64 0, .int .i64 0, .int .i64 0, .int .i64 0, .slice none 0 0, .int .i64 0] 26)).alloc (.cells (madeCells #[Value.int IntKind.i64 0] p.gain.length) 3)).alloc (.cells #[.int .i64 0, .int .i64 0, .int .i64 0, .int .i64 0, .slice (some ⟨w.heap.size + 2, 0, none⟩) p.gain.length p.gain.length, .int .i64 (-g - 1)] 26)) w.heap.size #[.int .i64 p.vars, .slice ra p.rows.length rc, .slice ga p.gain.length gc] 29 := (((Blk.new w _ 29).alloc _).alloc _).alloc _
  have kz : Blk ((((w.alloc (.cells #[.int .i64 p.vars, .slice ra p.rows.length rc, .slice ga p.gain.length gc] 29)).alloc (.cells #[.int .i64 0, .int .i64 0, .int .i64 0, .int .i64 0, .slice none 0 0, .int .i64 0] 26)).alloc (.cells (madeCells #[Value.int IntKind.i64 0] p.gain.length) 3)).alloc (.cells #[.int .i64 0, .int .i64 0, .int .i64 0, .int .i64 0, .slice (some ⟨w.heap.size + 2, 0, none⟩) p.gain.length p.gain.length, .int .i64 (-g - 1)] 26)) (w.heap.size + 1) #[.int .i64 0, .int .i64 0, .int .i64 0, .int .i64 0, .slice none 0 0, .int .i64 0] 26 := ((Blk.newAt _ _ _ (by simp)).alloc _).alloc _
  have kn : Blk ((((w.alloc (.cells #[.int .i64 p.vars, .slice ra p.rows.length rc, .slice ga p.gain.length gc] 29)).alloc (.cells #[.int .i64 0, .int .i64 0, .int .i64 0, .int .i64 0, .slice none 0 0, .int .i64 0] 26)).alloc (.cells (madeCells #[Value.int IntKind.i64 0] p.gain.length) 3)).alloc (.cells #[.int .i64 0, .int .i64 0, .int .i64 0, .int .i64 0, .slice (some ⟨w.heap.size + 2, 0, none⟩) p.gain.length p.gain.length, .int .i64 (-g - 1)] 26)) (w.heap.size + 2) (madeCells #[Value.int IntKind.i64 0] p.gain.length) 3 := (Blk.newAt _ _ _ (by simp)).alloc _
  have kr : Blk ((((w.alloc (.cells #[.int .i64 p.vars, .slice ra p.rows.length rc, .slice ga p.gain.length gc] 29)).alloc (.cells #[.int .i64 0, .int .i64 0, .int .i64 0, .int .i64 0, .slice none 0 0, .int .i64 0] 26)).alloc (.cells (madeCells #[Value.int IntKind.i64 0] p.gain.length) 3)).alloc (.cells #[.int .i64 0, .int .i64 0, .int .i64 0, .int .i64 0, .slice (some ⟨w.heap.size + 2, 0, none⟩) p.gain.length p.gain.length, .int .i64 (-g - 1)] 26)) (w.heap.size + 3) #[.int .i64 0, .int .i64 0, .int .i64 0, .int .i64 0, .slice (some ⟨w.heap.size + 2, 0, none⟩) p.gain.length p.gain.length, .int .i64 (-g - 1)] 26 := Blk.newAt _ _ _ (by simp)
  have hB0 : Below w.heap.size w ((((w.alloc (.cells #[.int .i64 p.vars, .slice ra p.rows.length rc, .slice ga p.gain.length gc] 29)).alloc (.cells #[.int .i64 0, .int .i64 0, .int .i64 0, .int .i64 0, .slice none 0 0, .int .i64 0] 26)).alloc (.cells (madeCells #[Value.int IntKind.i64 0] p.gain.length) 3)).alloc (.cells #[.int .i64 0, .int .i64 0, .int .i64 0, .int .i64 0, .slice (some ⟨w.heap.size + 2, 0, none⟩) p.gain.length p.gain.length, .int .i64 (-g - 1)] 26)) := ((((Below.refl _ _).alloc (Nat.le_refl _) _).alloc (by simp) _).alloc (by simp; omega) _).alloc (by simp; omega) _
  generalize (((w.alloc (.cells #[.int .i64 p.vars, .slice ra p.rows.length rc, .slice ga p.gain.length gc] 29)).alloc (.cells #[.int .i64 0, .int .i64 0, .int .i64 0, .int .i64 0, .slice none 0 0, .int .i64 0] 26)).alloc (.cells (madeCells #[Value.int IntKind.i64 0] p.gain.length) 3)).alloc (.cells #[.int .i64 0, .int .i64 0, .int .i64 0, .int .i64 0, .slice (some ⟨w.heap.size + 2, 0, none⟩) p.gain.length p.gain.length, .int .i64 (-g - 1)] 26) = W4 at kp kz kn kr hB0 ⊢
  rw [HF.out] at kn
  clear hmk
  go_loopw [6] (fun u6 wr => ∃ k : Nat, k ≤ p.gain.length ∧ u6 = .int .i64 k ∧ Blk wr w.heap.size #[.int .i64 p.vars, .slice ra p.rows.length rc, .slice ga p.gain.length gc] 29 ∧ Blk wr (w.heap.size + 1) #[.int .i64 0, .int .i64 0, .int .i64 0, .int .i64 0, .slice none 0 0, .int .i64 0] 26 ∧ Blk wr (w.heap.size + 2) ((fillK (fun i => -(p.gain.getD i 0)) p.gain.length k).map (Value.int .i64)).toArray 3 ∧ Blk wr (w.heap.size + 3) #[.int .i64 0, .int .i64 0, .int .i64 0, .int .i64 0, .slice (some ⟨w.heap.size + 2, 0, none⟩) p.gain.length p.gain.length, .int .i64 (-g - 1)] 26 ∧ Below w.heap.size w wr)
    (fun u6 _ => (p.gain.length - intOf u6).toNat)
  case atStart => exact ⟨0, by omega, rfl, kp, kz, kn, kr, hB0⟩
  case round =>
    obtain ⟨k, hk, rfl, kp, kz, kn, kr, hB⟩ := hrel
    rename World => Wk
    have i2 := kp.cell 2
    simp only [List.getElem?_toArray, List.getElem?_cons_succ, List.getElem?_cons_zero] at i2
    by_cases hkl : k < p.gain.length
    · have hs := getD_some (0 : Int) hkl
      obtain ⟨gb, go, rfl, hcell⟩ := (HG.out.below hB).get hs
      obtain ⟨b0, b1⟩ := coefOK_get HC.out k
      have hset := Lib.hid (fillK_set (fun i => -(p.gain.getD i 0)) hkl)
      have hcur : Wk.cell? ⟨w.heap.size + 2, k, none⟩ = some (.int .i64 0) := by rw [kn.cell, fillK_get _ hkl]; simp
      have hfz := kn.frozen k
      have j4 := kr.cell 4
      simp only [List.getElem?_toArray, List.getElem?_cons_succ, List.getElem?_cons_zero] at j4
      have hkk : (0 : Int) ≤ (k : Int) ∧ (k : Int) < (p.gain.length : Int) := by omega
      have HS := Lib.hid hs
      have hset' : Hid (((fillK (fun i => -(p.gain.getD i 0)) p.gain.length k).map (Value.int .i64)).toArray.setIfInBounds k (.int .i64 (-(p.gain.getD k 0))) = ((fillK (fun i => -(p.gain.getD i 0)) p.gain.length (k + 1)).map (Value.int .i64)).toArray) := hset.out
      clear hs hset
      generalize hy : p.gain.getD k 0 = y at hcell b0 b1 hset'
      have hwy : IntKind.i64.wrap (-y) = -y := wrapS _ (by omega) (by omega)
      have HY := Lib.hid hy
      clear hy HS
      go_wp2_with fail
      go_still_tail 10, (by kernel_rfl)
      have hBd : Below w.heap.size w Wk.drew := hB.drew
      change wpList _ _ _ _ _ Wk.drew
      replace kp : Blk Wk.drew _ _ _ := kp
      replace kz : Blk Wk.drew _ _ _ := kz
      replace kn : Blk Wk.drew _ _ _ := kn
      replace kr : Blk Wk.drew _ _ _ := kr
      replace hcur : Wk.drew.cell? _ = _ := hcur
      replace hfz : Wk.drew.frozen? _ = _ := hfz
      clear i2 hcell j4
      generalize Wk.drew = Wd at *
      go_wp2
      go_roundw
      case rel => exact ⟨k + 1, by omega, by go_num, kp.other _ (by simp), kz.other _ (by simp), by rw [← hset'.out]; exact kn.set k _, kr.other _ (by simp), hBd.setCell (p := ⟨w.heap.size + 2, k, none⟩) (by simp) _⟩
      case measure => simp [intOf]; omega
    · obtain rfl : k = p.gain.length := by omega
      rw [fillK_full] at kn
      have hlen : (p.gain.map fun n => -n).length = p.gain.length := List.length_map _
      have hints : O3 Wk (.slice (some ⟨w.heap.size + 2, 0, none⟩) p.gain.length p.gain.length) (p.gain.map fun n => -n) := by
        have := o3_blk kn (by rw [hlen]; unfold maxLen; omega)
        rw [hlen] at this
        exact this
      have j0 := kr.cell 0
      have j1 := kr.cell 1
      have j2 := kr.cell 2
      have j3 := kr.cell 3
      have j4 := kr.cell 4
      have j5 := kr.cell 5
      have i0 := kz.cell 0
      have i1 := kz.cell 1
      have i2' := kz.cell 2
      have i3 := kz.cell 3
      have i4 := kz.cell 4
      have i5 := kz.cell 5
      have f0 := kz.frozen 0
      have f1 := kz.frozen 1
      have f2 := kz.frozen 2
      have f3 := kz.frozen 3
      have f4 := kz.frozen 4
      have f5 := kz.frozen 5
      simp only [List.getElem?_toArray, List.getElem?_cons_succ, List.getElem?_cons_zero] at j0 j1 j2 j3 j4 j5 i0 i1 i2' i3 i4 i5
      have HI := Lib.hid hints
      clear kp kz kn kr hlen hints
      have hB2 : ∀ (i : Nat) (u : Value) (W : World), Below w.heap.size w W → Below w.heap.size w (W.setCell ⟨w.heap.size + 1, i, none⟩ u) := fun i u W h => h.setCell (p := ⟨w.heap.size + 1, i, none⟩) (by simp) u
      have hI2 : ∀ (i : Nat) (u : Value) (W : World), O3 W (.slice (some ⟨w.heap.size + 2, 0, none⟩) p.gain.length p.gain.length) (p.gain.map fun n => -n) → O3 (W.setCell ⟨w.heap.size + 1, i, none⟩ u) (.slice (some ⟨w.heap.size + 2, 0, none⟩) p.gain.length p.gain.length) (p.gain.map fun n => -n) := fun i u W h => ownsRow_set_ne h (fun g hg => by have e : w.heap.size + 2 = g := Option.some.inj hg; omega) i u
      go_wp2
      refine bodyPost_ret (v := .agg #[.int .i64 0, .int .i64 0, .int .i64 0, .int .i64 0, .slice (some ⟨w.heap.size + 2, 0, none⟩) p.gain.length p.gain.length, .int .i64 (-g - 1)]) (by simp [results, Try.results41, go_sem, i0, i1, i2', i3, i4, i5]) rfl ?_
      exact ⟨_, by rw [show (goalS p.gain g).most = -g - 1 from HM.out], hI2 _ _ _ (hI2 _ _ _ (hI2 _ _ _ (hI2 _ _ _ (hI2 _ _ _ (hI2 _ _ _ HI.out))))), hB2 _ _ _ (hB2 _ _ _ (hB2 _ _ _ (hB2 _ _ _ (hB2 _ _ _ (hB2 _ _ _ hB)))))⟩
end Go.Proofs.Ytblmpmapcdpaiaa

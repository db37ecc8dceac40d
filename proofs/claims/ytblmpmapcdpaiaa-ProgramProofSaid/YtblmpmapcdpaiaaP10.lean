/- program.goal, least. -/
import Derived.Test.YtblmpmapcdpaiaaP9
import Derived.Test.YtblmpmapcdpaiaaBlk
import Derived.WalkLawsBesides
namespace Go.Proofs.Ytblmpmapcdpaiaa
open Go.RowKit Lib

def negK (l : List Int) (k : Nat) : List Int := (l.take k).map fun n => -n
theorem negK_succ {l : List Int} {k : Nat} (h : k < l.length) : negK l (k + 1) = negK l k ++ [-(l.getD k 0)] := by
  unfold negK
  rw [List.take_add_one, getD_some 0 h]; simp
theorem negK_len {l : List Int} {k : Nat} (h : k ≤ l.length) : (negK l k).length = k := by simp [negK]; omega

set_option maxRecDepth 100000 in
set_option maxHeartbeats 1000000 in
theorem goal_any (v : Value) (p : ProgD) (g : Int) (w : World) (hv : ProgV w v p) (hl : p.gain.length ≤ 60) (hc : coefOK p.gain = true) (h0 : -1000000000000 ≤ g) (h1 : g ≤ 1000000000000) :
    Calls Try.prog 62 #[v, .int .i64 g] w fun e w' => ∃ v', e = .returned v' ∧ RowV w' v' (goalS p.gain g) ∧ Below w.heap.size w w' := by
  obtain ⟨vr, vg, rfl, -, hvg⟩ := hv
  have HG := Lib.hid hvg
  have HC := Lib.hid hc
  obtain ⟨ga, gc, rfl, hg1, hg2⟩ := (show SlicesLen vg p.gain.length from hvg.len)
  unfold maxLen at hg2
  clear hvg hc
  go_enter Try.func62, Try.ntmps62
  go_wp2
  go_loopw [15] (fun u15 wr => ∃ (k : Nat) (vk : Value), k ≤ p.gain.length ∧ u15 = .int .i64 k ∧ wr.ownsRow (w.heap.size + 3) 3 1 vk (negK p.gain k).length ((negK p.gain k).map (Value.int .i64)) ∧
      Blk wr (w.heap.size + 2) #[.int .i64 0, .int .i64 0, .int .i64 0, .int .i64 0, vk, .int .i64 (-(g + 1))] 26 ∧ Blk wr (w.heap.size + 1) #[.int .i64 0, .int .i64 0, .int .i64 0, .int .i64 0, .slice none 0 0, .int .i64 0] 26 ∧ Below w.heap.size w wr ∧ w.heap.size + 3 ≤ wr.heap.size)
    (fun u15 _ => (p.gain.length - intOf u15).toNat)
  case atStart => exact ⟨0, _, by omega, rfl, World.ownsRow_nil _ _ _ _, Blk.newAt _ _ _ (by simp), (Blk.newAt _ _ _ (by simp)).alloc _, (((Below.refl _ _).alloc (Nat.le_refl _) _).alloc (by simp) _).alloc (by simp; omega) _, by simp⟩
  case round =>
    obtain ⟨k, vk, hk, rfl, hown, hb2, hb1, hB, hsz⟩ := hrel
    by_cases hkl : k < p.gain.length
    · have hsome := Lib.hid (getD_some 0 hkl)
      have hbd := coefOK_get HC.out k
      have HN := Lib.hid (negK_succ hkl)
      have hnl := negK_len (l := p.gain) hk
      obtain ⟨b, off, rfl, hcell⟩ := (HG.out.below hB).get hsome.out
      have k4 := hb2.cell 4
      have f4 := hb2.frozen 4
      simp only [List.getElem?_toArray, List.getElem?_cons_succ, List.getElem?_cons_zero] at k4
      generalize p.gain.getD k 0 = x at hcell hsome hbd HN
      go_wp2_with (at_builtin; refine wpList_push E24 rfl _ _ rfl (w.heap.size + 3) hown rfl rfl rfl (by unfold maxLen; omega) (by omega) hsz ?_; intro v' w3 hown' hgrow hbw; have f4' := (hb2.below hbw (by omega)).frozen 4; have k4' := (hb2.below hbw (by omega)).cell 4; simp only [List.getElem?_toArray, List.getElem?_cons_succ, List.getElem?_cons_zero] at k4'; obtain ⟨va, vcap, rfl, hva, hvc⟩ := owned_len hown')
      go_roundw
      case rel =>
        refine ⟨k + 1, _, by omega, by go_num, ?_, ((hb2.below hbw (by omega)).set 4 _), (hb1.below hbw (by omega)).other _ (by simp), (hB.trans (hbw.mono (by omega))).setCell (p := ⟨w.heap.size + 2, 4, none⟩) (by simp) _, by simp; have := hbw.size; omega⟩
        rw [HN.out]
        exact ownsRow_setCell_below (by simpa [hnl] using hown') (by simp) _
      case measure => simp [intOf]; omega
    · obtain rfl : k = p.gain.length := by omega
      have e : negK p.gain p.gain.length = (goalS p.gain g).coef := by unfold negK goalS; rw [List.take_length]
      rw [e] at hown
      obtain ⟨va, vcap, rfl, hva, hvc⟩ := owned_len hown
      have j0 := hb2.cell 0
      have j1 := hb2.cell 1
      have j2 := hb2.cell 2
      have j3 := hb2.cell 3
      have j4 := hb2.cell 4
      have j5 := hb2.cell 5
      have i0 := hb1.cell 0
      have i1 := hb1.cell 1
      have i2 := hb1.cell 2
      have i3 := hb1.cell 3
      have i4 := hb1.cell 4
      have i5 := hb1.cell 5
      have f0 := hb1.frozen 0
      have f1 := hb1.frozen 1
      have f2 := hb1.frozen 2
      have f3 := hb1.frozen 3
      have f4 := hb1.frozen 4
      have f5 := hb1.frozen 5
      simp only [List.getElem?_toArray, List.getElem?_cons_succ, List.getElem?_cons_zero] at j0 j1 j2 j3 j4 j5 i0 i1 i2 i3 i4 i5
      clear e hb1
      have hB2 : ∀ (i : Nat) (u : Value) (W : World), Below w.heap.size w W → Below w.heap.size w (W.setCell ⟨w.heap.size + 1, i, none⟩ u) := fun i u W h => h.setCell (p := ⟨w.heap.size + 1, i, none⟩) (by simp) u
      have hO2 : ∀ (i : Nat) (u : Value) (W : World), W.ownsRow (w.heap.size + 3) 3 1 (.slice va (goalS p.gain g).coef.length vcap) (goalS p.gain g).coef.length ((goalS p.gain g).coef.map (Value.int .i64)) →
          (W.setCell ⟨w.heap.size + 1, i, none⟩ u).ownsRow (w.heap.size + 3) 3 1 (.slice va (goalS p.gain g).coef.length vcap) (goalS p.gain g).coef.length ((goalS p.gain g).coef.map (Value.int .i64)) := fun i u W h => ownsRow_setCell_below h (by simp) _
      go_wp2
      refine bodyPost_ret (v := .agg #[.int .i64 0, .int .i64 0, .int .i64 0, .int .i64 0, .slice va (goalS p.gain g).coef.length vcap, .int .i64 (-(g + 1))]) (by simp [results, Try.results62, go_sem, i0, i1, i2, i3, i4, i5]) rfl ?_
      exact ⟨_, rfl, ⟨_, rfl, owned_slice (hO2 _ _ _ (hO2 _ _ _ (hO2 _ _ _ (hO2 _ _ _ (hO2 _ _ _ (hO2 _ _ _ hown))))))⟩, hB2 _ _ _ (hB2 _ _ _ (hB2 _ _ _ (hB2 _ _ _ (hB2 _ _ _ (hB2 _ _ _ hB)))))⟩
end Go.Proofs.Ytblmpmapcdpaiaa

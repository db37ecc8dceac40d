/- nadirref23.Without. -/
import Derived.Test.YtblmpmapcdpaiaaWo
import Derived.Test.YtblmpmapcdpaiaaR14
namespace Go.Proofs.Ytblmpmapcdpaiaa
open Go.RowKit Go.Shelf Lib Go.Joins

theorem atK_le (l : List Int) : ∀ k, atK l k ≤ k := by
  intro k
  induction k with
  | zero => exact Nat.le_refl _
  | succ k ih => simp only [atK]; split <;> omega
theorem without_long {p : ProgD} {l : List Int} (h : p.rows.length < l.length) : withoutOK p l = false := by
  unfold withoutOK
  refine Bool.eq_false_iff.2 fun hc => ?_
  rw [Bool.and_eq_true] at hc
  have := at_full hc.1
  have := atK_le l p.rows.length
  omega
set_option maxRecDepth 100000 in
set_option maxHeartbeats 2000000 in
theorem without_ref_head (v vl : Value) (p : ProgD) (l : List Int) (w : World) (hv : ProgV w v p) (hl : IntsAt w vl l) (hbad : validB p = false ∨ (validB p = true ∧ p.rows.length < l.length)) :
    Calls Try.prog 37 #[v, vl] w fun e w' => ∃ v', e = .returned (.tuple #[v', .int .i64 (withoutE p l)]) ∧ ProgV w' v' (withoutV p l) ∧ Below w.heap.size w w' := by
  have hnok : withoutOK p l = false := by
    rcases hbad with h | h
    · unfold withoutOK; rw [h, Bool.and_false]
    · exact without_long h.2
  obtain ⟨w1, w2⟩ := with_bad hnok
  rw [w1, w2]
  obtain ⟨vr, vg, rfl, hvr, hvg⟩ := hv
  have hB0 : Below w.heap.size w ((w.alloc (.cells #[.int .i64 p.vars, vr, vg] 29)).alloc (.cells #[.int .i64 0, .slice none 0 0, .slice none 0 0] 29)) := ((Below.refl _ _).alloc (Nat.le_refl _) _).alloc (by simp) _
  have hx := valid_ref _ p _ ⟨vr, vg, rfl, hvr.below hB0, hvg.below hB0⟩
  obtain ⟨ra, rc, rfl, -, -⟩ := (show SlicesLen vr p.rows.length from hvr.len)
  obtain ⟨ga, gc, rfl, -, -⟩ := (show SlicesLen vg p.gain.length from hvg.len)
  obtain ⟨la, lc, rfl, -, -⟩ := hl.len
  clear hvr hvg hl w1 w2 hnok
  have fin : ∀ W, Below w.heap.size w W → ProgV W (.agg #[.int .i64 0, .slice none 0 0, .slice none 0 0]) ⟨0, [], []⟩ := fun W _ => progV_zero W
  have hB2 : ∀ (i : Nat) (u : Value) (W : World), Below w.heap.size w W → Below w.heap.size w (W.setCell ⟨w.heap.size + 1, i, none⟩ u) := fun i u W h => h.setCell (p := ⟨w.heap.size + 1, i, none⟩) (by simp) u
  rcases hbad with hb | ⟨hb, hlt⟩
  all_goals (
    rw [hb] at hx
    clear hb
    go_enter Try.func37, Try.ntmps37
    go_wp2_with fail
    refine hx.mono ?_
    rintro e w' ⟨rfl, hB⟩
    have kb : Blk w' (w.heap.size + 1) #[.int .i64 0, .slice none 0 0, .slice none 0 0] 29 := (Blk.newAt _ _ _ (by simp)).below hB (by simp)
    have kp : Blk w' w.heap.size #[.int .i64 p.vars, .slice ra p.rows.length rc, .slice ga p.gain.length gc] 29 := ((Blk.new w _ 29).alloc _).below hB (by simp; omega)
    have i0 := kb.cell 0
    have i1 := kb.cell 1
    have i2 := kb.cell 2
    have f0 := kb.frozen 0
    have f1 := kb.frozen 1
    have f2 := kb.frozen 2
    have j1 := kp.cell 1
    simp only [List.getElem?_toArray, List.getElem?_cons_succ, List.getElem?_cons_zero] at i0 i1 i2 j1
    clear hx
    go_wp2
    refine bodyPost_ret (v := .tuple #[.agg #[.int .i64 0, .slice none 0 0, .slice none 0 0], .int .i64 230]) (by simp [results, Try.results37, go_sem, i0, i1, i2]) rfl ?_
    exact ⟨_, rfl, progV_zero _, hB2 _ _ _ (hB2 _ _ _ (hB2 _ _ _ (hB0.trans (hB.mono hB0.size))))⟩)
end Go.Proofs.Ytblmpmapcdpaiaa

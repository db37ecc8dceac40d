/- package integer: comparing absolute values. -/
import Derived.Test.YtjnpenljgfdaiaaGreatDoorB1
import Derived.Test.YtjnpenljgfdaiaaGreatDoorPL
namespace Go.Proofs.YtjnpenljgfdaiaaGreatDoor
open Go.RowKit Go.Shelf Lib
attribute [local go_sem] Oper.semAt_some

theorem isNaN_any (x : Int) (w : World) : Calls Tryz.prog 141 #[.int .i64 x] w fun e w' => e = .returned (.bool false) ∧ w = w' := by
  have h : (x != x) = false := by simp
  go_enter Tryz.func141, Tryz.ntmps141
  go_wp2
  go_ret
  exact ⟨rfl, rfl⟩
set_option maxRecDepth 100000 in
theorem cmp_any (x y : Int) (w : World) : Calls Tryz.prog 125 #[.int .i64 x, .int .i64 y] w fun e w' => e = .returned (.int .i64 (N3.cmpI x y)) ∧ w = w' := by
  have hn := Lib.hid (fun x => isNaN_any x w)
  rcases Int.lt_trichotomy x y with h | h | h
  · have e : N3.cmpI x y = -1 := by unfold N3.cmpI; rw [if_pos h]
    rw [e]
    go_enter Tryz.func125, Tryz.ntmps125
    go_wp2_with (first | (go_at_call 141; refine (hn.out _).mono ?_; rintro e w' ⟨rfl, rfl⟩))
    go_ret
    exact ⟨rfl, rfl⟩
  · have e : N3.cmpI x y = 0 := by unfold N3.cmpI; rw [if_neg (by omega), if_neg (by omega)]
    rw [e]
    subst h
    have h1 : ¬ x < x := by omega
    go_enter Tryz.func125, Tryz.ntmps125
    go_wp2_with (first | (go_at_call 141; refine (hn.out _).mono ?_; rintro e w' ⟨rfl, rfl⟩))
    go_ret
    exact ⟨rfl, rfl⟩
  · have e : N3.cmpI x y = 1 := by unfold N3.cmpI; rw [if_neg (by omega), if_pos h]
    have h1 : ¬ x < y := by omega
    rw [e]
    go_enter Tryz.func125, Tryz.ntmps125
    go_wp2_with (first | (go_at_call 141; refine (hn.out _).mono ?_; rintro e w' ⟨rfl, rfl⟩))
    go_ret
    exact ⟨rfl, rfl⟩
set_option maxRecDepth 100000 in
set_option maxHeartbeats 1000000 in
theorem compare_any (v1 v2 : Value) (n m : Nat) (w : World) (h1 : NumAt w v1 n) (h2 : NumAt w v2 m) (l1 : (N3.toG n).length ≤ 10000) :
    Calls Tryz.prog 92 #[v1, v2] w fun e w' => e = .returned (.int .i64 (N3.cmpI n m)) ∧ Below w.heap.size w w' := by
  obtain ⟨a, cp, rfl, g1, g2⟩ := (show IntsAt w v1 _ from h1).len
  obtain ⟨b, cq, rfl, k1, k2⟩ := (show IntsAt w v2 _ from h2).len
  rw [castL_len] at g1 k1
  have hcmp := Lib.hid cmp_any
  by_cases hne : (N3.toG n).length ≠ (N3.toG m).length
  · have hc : N3.cmpI (n : Int) (m : Int) = N3.cmpI ((N3.toG n).length : Int) ((N3.toG m).length : Int) := by
      rcases Nat.lt_or_gt_of_ne hne with h | h
      · rw [N3.cmpI_cast_lt (N3.len_lt h), N3.cmpI_cast_lt h]
      · rw [N3.cmpI_cast_gt (N3.len_lt h), N3.cmpI_cast_gt h]
    rw [hc]
    have hq : (((N3.toG n).length : Int) != ((N3.toG m).length : Int)) = true := bne_iff_ne.2 (by omega)
    rw [castL_len, castL_len]
    generalize (N3.toG n).length = x at *
    generalize (N3.toG m).length = y at *
    clear h1 h2 hc hne
    go_enter Tryz.func92, Tryz.ntmps92
    go_wp2_with fail
    refine (hcmp.out _ _ _).mono ?_
    rintro e w' ⟨rfl, rfl⟩
    go_wp2
    refine bodyPost_ret (v := .int .i64 (N3.cmpI x y)) (by simp [results, Tryz.results92, go_sem]) rfl ?_
    exact ⟨rfl, ((Below.refl _ _).alloc (Nat.le_refl _) _).alloc (by simp) _⟩
  · have hlen : (N3.toG n).length = (N3.toG m).length := by omega
    have hq : (((N3.toG n).length : Int) != ((N3.toG m).length : Int)) = false := by rw [hlen]; simp
    have HQ := Lib.hid hq
    rw [castL_len, castL_len]
    obtain ⟨W0, hW0⟩ : ∃ W0, ((w.alloc (.cells #[.slice b (N3.toG m).length cq] 88)).alloc (.cells #[.int .i64 0] 3)).alloc (.cells #[.slice a (N3.toG n).length cp] 88) = W0 := ⟨_, rfl⟩
    have hsz : W0.heap.size = w.heap.size + 3 := by rw [← hW0]; simp
    have hB0 : Below w.heap.size w W0 := by rw [← hW0]; exact (((Below.refl _ _).alloc (Nat.le_refl _) _).alloc (by simp) _).alloc (by simp; omega) _
    have hb1 : Boxed W0 w.heap.size 88 (.slice b (N3.toG m).length cq) := by rw [← hW0]; exact ((Boxed.new w 88 _).alloc _).alloc _
    have hb2 : Boxed W0 (w.heap.size + 1) 3 (.int .i64 0) := by
      have := (Boxed.new (w.alloc (.cells #[.slice b (N3.toG m).length cq] 88)) 3 (.int .i64 0)).alloc (.cells #[.slice a (N3.toG n).length cp] 88)
      rw [World.size_alloc] at this
      rw [← hW0]; exact this
    have hb3 : Boxed W0 (w.heap.size + 1 + 1) 88 (.slice a (N3.toG n).length cp) := by
      have := Boxed.new ((w.alloc (.cells #[.slice b (N3.toG m).length cq] 88)).alloc (.cells #[.int .i64 0] 3)) 88 (.slice a (N3.toG n).length cp)
      rw [World.size_alloc, World.size_alloc] at this
      rw [← hW0]; exact this
    have hseq := Lib.hid (backward_seq 4 (by omega) (w.heap.size + 1 + 1) (N3.toG n) w W0 _ h1 hB0 (by omega) ⟨_, _, by rw [castL_len]; exact hb3⟩)
    have HLEN := Lib.hid hlen
    have HE0 := Lib.hid (show N3.EqFrom (N3.toG n) (N3.toG m) (N3.toG n).length from N3.EqFrom.len hlen)
    clear hlen hne
    refine (callsIn_wide (n := 5)).1 ?_
    refine callsIn_of_wp_marks Tryz.func92 rfl trivial ?_ rfl
    simp only [Tryz.ntmps92, List.size_toArray, List.length_cons, List.length_nil, Nat.reduceAdd, Nat.reduceSub, Array.replicate_succ, Array.replicate_zero, List.push_toArray, List.append_toArray, List.nil_append, List.cons_append]
    gi_wp2_with fail
    refine ⟨trivial, ?_⟩
    refine (callsIn_wide.2 (backward_made _ _ _ _)).mono ?_
    rintro e w' ⟨rfl, rfl⟩
    have hKD : KpC w.heap.size (w.heap.size + 1 + 1) W0 W0 := ⟨Below.refl _ _, rfl⟩
    gi_wp2_with fail
    refine wpIn_rangeFunc_Mf (zs := fun k => False) rfl (by omega) (gf := 138) (lb := #[.pointer (some ⟨w.heap.size + 1 + 1, 0, none⟩)]) (by simp [Act.eval]) trivial Tryz.call138
      (fun k hk => hk.elim) hseq.out (fun h k => h.trans k)
      (fun W l o o' hl ho _ _ => KpC.putObj o' (by omega) (by omega) ho) (Below.refl _ _) (fun _ => rfl)
      (fun pre W => (pre.length ≤ (N3.toG n).length ∧ N3.EqFrom (N3.toG n) (N3.toG m) ((N3.toG n).length - pre.length)) ∧ Boxed W w.heap.size 88 (.slice b (N3.toG m).length cq) ∧ Boxed W (w.heap.size + 1) 3 (.int .i64 0) ∧ Below w.heap.size w W)
      (fun c pre W => c = .ret ∧ Boxed W (w.heap.size + 1) 3 (.int .i64 (N3.cmpI n m)) ∧ Below w.heap.size w W)
      (fun s A B hs ht => ⟨hs.1, ht.boxed hs.2.1 (fun h => h), ht.boxed hs.2.2.1 (fun h => h), ht.below hs.2.2.2 (Nat.le_refl _) (by omega) (fun k hk h => h)⟩)
      (fun c s A B hs ht => ⟨hs.1, ht.boxed hs.2.1 (fun h => h), ht.below hs.2.2 (Nat.le_refl _) (by omega) (fun k hk h => h)⟩)
      ⟨⟨by simp, by simpa using HE0.out⟩, hb1, hb2, hB0⟩
      (fun x t => (((t.setIfInBounds 19 (.int .i64 (x.1 : Int))).setIfInBounds 20 (.int .i64 (x.2 : Int))).setIfInBounds 5 (.int .i64 (x.1 : Int))).setIfInBounds 6 (.int .i64 (x.2 : Int))) ?assign ?body ?done ?stop
    case assign =>
      intro l x W K hK
      dsimp only [encB]
      gi_wp2
      exact hK
    case body =>
      rintro l pre x W ⟨⟨hpl, heq⟩, hc1, hc2, hB⟩ ⟨hlt, rfl⟩
      have hi : (N3.toG n).length - 1 - pre.length < (N3.toG m).length := by have := HLEN.out; omega
      have hi2 : (N3.toG n).length - 1 - pre.length < (N3.toG n).length := by omega
      obtain ⟨b', off, rfl, hcell⟩ := (((show IntsAt w _ _ from h2).below hB)).get (castL_get hi)
      have hj1 := hc1.cell
      have hj2 := hc2.cell
      have hf2 := hc2.frozen
      have hpi : (0 : Int) ≤ (((N3.toG n).length - 1 - pre.length : Nat) : Int) ∧ (((N3.toG n).length - 1 - pre.length : Nat) : Int) < ((N3.toG m).length : Int) := by omega
      have hstep := Lib.hid (show N3.EqFrom (N3.toG n) (N3.toG m) ((N3.toG n).length - 1 - pre.length + 1) from by rw [show (N3.toG n).length - 1 - pre.length + 1 = (N3.toG n).length - pre.length by omega]; exact heq)
      have hpre := Lib.hid hpl
      have hlt' := Lib.hid hlt
      by_cases hx : (N3.toG n).getD ((N3.toG n).length - 1 - pre.length) 0 = (N3.toG m).getD ((N3.toG n).length - 1 - pre.length) 0
      · have hs2 := Lib.hid (hstep.out.step hx)
        have hqx : ((((N3.toG n).getD ((N3.toG n).length - 1 - pre.length) 0 : Nat) : Int) != (((N3.toG m).getD ((N3.toG n).length - 1 - pre.length) 0 : Nat) : Int)) = false := by rw [hx]; simp
        dsimp only [nthB]
        have e1 := Lib.hid (show (N3.toG n).length - 1 - pre.length = (N3.toG n).length - (pre.length + 1) by omega)
        generalize (N3.toG n).getD ((N3.toG n).length - 1 - pre.length) 0 = x at hqx ⊢
        generalize (N3.toG m).getD ((N3.toG n).length - 1 - pre.length) 0 = y at hqx hcell
        generalize (N3.toG n).length - 1 - pre.length = i at hqx hcell hpi hs2 e1 ⊢
        clear hx hlt hpl heq hi hi2
        gi_wp2_with fail
        exact ⟨KeepsOthers.refl _, ⟨Below.refl _ _, rfl⟩, ⟨by have := hlt'.out; simp; omega, by have := hs2.out; rw [e1.out] at this; simpa using this⟩, hc1, hc2, hB⟩
      · have hres := Lib.hid (N3.cmp_at HLEN.out hi2 hstep.out hx)
        have hqx : ((((N3.toG n).getD ((N3.toG n).length - 1 - pre.length) 0 : Nat) : Int) != (((N3.toG m).getD ((N3.toG n).length - 1 - pre.length) 0 : Nat) : Int)) = true := bne_iff_ne.2 (by omega)
        dsimp only [nthB]
        generalize (N3.toG n).getD ((N3.toG n).length - 1 - pre.length) 0 = x at hqx hres ⊢
        generalize (N3.toG m).getD ((N3.toG n).length - 1 - pre.length) 0 = y at hqx hcell hres
        generalize (N3.toG n).length - 1 - pre.length = i at hqx hcell hpi ⊢
        clear hx hlt hpl heq hi hi2
        gi_wp2_with fail
        refine ⟨trivial, ?_⟩
        refine (CallsIn.inRound l (callsIn_wide.2 (hcmp.out _ _ _))).mono ?_
        rintro e w' ⟨rfl, rfl⟩
        gi_wp2_with fail
        refine ⟨KeepsOthers.setCell _ _ _, rfl, by rw [hres.out]; exact hc2.set _, hB.setCell (by simp) _⟩
    case done =>
      rintro D ys W hD hys ⟨⟨_, heq⟩, hc1, hc2, hB⟩ hK
      have hj2 := hc2.cell
      have hf2 := hc2.frozen
      have hnm : n = m := N3.toG_eq ((show N3.EqFrom (N3.toG n) (N3.toG m) 0 from by rw [hys, Nat.sub_self] at heq; exact heq).all HLEN.out)
      have hres := Lib.hid (show N3.cmpI (n : Int) (m : Int) = 0 by rw [hnm]; exact N3.cmpI_cast_self m)
      have hlD : D < W.heap.size := (Array.getElem?_eq_some_iff.1 hK).1
      have hK2 : (W.setCell ⟨w.heap.size + 1, 0, none⟩ (.int .i64 0)).heap[D]? = some (.deferred (some [])) := (Below.heap_setCell _ _ _ _ (by simp; omega)).trans hK
      clear hnm heq
      gi_wp2_with fail
      refine ⟨by simp, .inl ⟨_, _, rfl, run_takeDeferred hK2, ?_⟩⟩
      have hc5 := (show Boxed (World.putObj _ D (.deferred none)) _ _ _ from (World.putObj_heap_other (by omega)).trans (hc2.set (.int .i64 0))).cell
      refine ⟨.int .i64 0, by simp [results, Tryz.results92, go_sem, hc5], by rw [hres.out], ?_⟩
      exact (hB.setCell (p := ⟨w.heap.size + 1, 0, none⟩) (by simp) _).trans (belowK_b (w := w) (Nat.le_refl _) _ D _ _ (by omega) hK2 rfl rfl)
    case stop =>
      rintro D c pre W hD - ⟨rfl, hc2, hB⟩ hK
      gi_wp2_with fail
      refine ⟨by simp, .inl ⟨_, _, rfl, run_takeDeferred hK, ?_⟩⟩
      have hc5 := (show Boxed (World.putObj _ D (.deferred none)) _ _ _ from (World.putObj_heap_other (by omega)).trans hc2).cell
      refine ⟨.int .i64 (N3.cmpI n m), by simp [results, Tryz.results92, go_sem, hc5], rfl, ?_⟩
      exact hB.trans (belowK_b (w := w) (Nat.le_refl _) _ D _ _ (by omega) hK rfl rfl)
end Go.Proofs.YtjnpenljgfdaiaaGreatDoor

/- Texts Q3, Q5 in one. -/
import Derived.Test.YtblmpmapcdpaiaaQ2
import Derived.Test.YtblmpmapcdpaiaaR9
import Derived.Test.YtblmpmapcdpaiaaB4
section
/- The reference's Wrong, Refutes, Size, pick. -/
namespace Go.Proofs.Ytblmpmapcdpaiaa
open Go.RowKit Lib

theorem dcR_none (n : Nat) : List.replicate n (-1 : Int) = dcR n (fun _ => -1) := by
  unfold dcR
  apply List.ext_getElem?
  intro i
  by_cases h : i < n
  · rw [List.getElem?_replicate, if_pos h, List.getElem?_map, List.getElem?_range h]; rfl
  · rw [List.getElem?_replicate, if_neg h, List.getElem?_map, List.getElem?_eq_none (by simp; omega)]; rfl
theorem dcOK_none (n : Nat) : DcOK n (fun _ => -1) := fun _ => ⟨.inr (.inr rfl), fun _ => rfl⟩
set_option maxRecDepth 100000 in
set_option maxHeartbeats 4000000 in
theorem rwrongD (v vl : Value) (p : ProgD) (l : List StepD) (w : World) (hv : ProgV w v p) (hl : StepsAt w vl l) :
    Calls Try.prog 51 #[v, vl] w fun e w' => e = .returned (.int .i64 (wrongD p l)) ∧ Below w.heap.size w w' := by
  obtain ⟨vr, vg, rfl, hvr, hvg⟩ := hv
  obtain ⟨ra, rc, rfl, -, -⟩ := (show SlicesLen vr p.rows.length from hvr.len)
  obtain ⟨ga, gc, rfl, -, -⟩ := (show SlicesLen vg p.gain.length from hvg.len)
  obtain ⟨la, lc, rfl, hl1, hl2⟩ := (show SlicesLen vl l.length from hl.len)
  unfold maxLen at hl2
  have hB0 : Below w.heap.size w (w.alloc (.cells #[.int .i64 p.vars, .slice ra p.rows.length rc, .slice ga p.gain.length gc] 29)) := (Below.refl _ _).alloc (Nat.le_refl _) _
  have hx := valid_ref _ p _ ⟨_, _, rfl, hvr.below hB0, hvg.below hB0⟩
  have hk0 : Blk (w.alloc (.cells #[.int .i64 p.vars, .slice ra p.rows.length rc, .slice ga p.gain.length gc] 29)) w.heap.size #[.int .i64 p.vars, .slice ra p.rows.length rc, .slice ga p.gain.length gc] 29 := Blk.new _ _ _
  have HX := Lib.hid hx
  have HB := Lib.hid (And.intro hB0 hk0)
  clear hx hB0 hk0
  unfold wrongD checkV
  cases hvb : validB p with
  | false =>
    rw [if_neg (by simp)]
    clear hvr hvg hl
    go_enter Try.func51, Try.ntmps51
    go_wp2_with fail
    refine HX.out.mono ?_
    rw [hvb]
    rintro e w' ⟨rfl, hB⟩
    go_wp2
    go_ret
    exact ⟨rfl, HB.out.1.trans (hB.mono HB.out.1.size)⟩
  | true =>
    have HV := Lib.hid hvb
    by_cases hlen : l.length ≤ 8192
    · have d1 : decide ((8192 : Int) < (l.length : Int)) = false := decide_eq_false (by omega)
      rw [if_pos ⟨rfl, hlen⟩]
      by_cases h0 : l.length = 0
      · rw [if_pos h0]
        have q0 : ((l.length : Int) == 0) = true := by rw [h0]; rfl
        clear hvr hvg hl h0
        go_enter Try.func51, Try.ntmps51
        go_wp2_with fail
        refine HX.out.mono ?_
        rw [HV.out]
        rintro e w' ⟨rfl, hB⟩
        go_wp2
        go_ret
        exact ⟨rfl, HB.out.1.trans (hB.mono HB.out.1.size)⟩
      · rw [if_neg h0]
        have q0 : ((l.length : Int) == 0) = false := beq_eq_false_iff_ne.2 (by omega)
        obtain ⟨n, hn, hro⟩ := validB_rows hvb
        obtain ⟨v1, v2, -, -, -, -⟩ := validB_true hvb
        have HR := Lib.hid hro
        have HVR := Lib.hid hvr
        have HVG := Lib.hid hvg
        have HL := Lib.hid hl
        have hl0 : 0 < l.length := by omega
        have HN := Lib.hid hn
        have hvn : p.vars.toNat = n := by omega
        have HN2 : Hid (List.replicate p.vars.toNat (-1 : Int) = dcR n (fun _ => -1)) := by rw [hvn]; exact dcR_none n
        rw [hvn]
        clear hvr hvg hl h0 hn hvb hro hvn
        go_enter Try.func51, Try.ntmps51
        go_wp2_with fail
        refine HX.out.mono ?_
        rw [HV.out]
        rintro e w1 ⟨rfl, hB⟩
        have hB1 := HB.out.1.trans (hB.mono HB.out.1.size)
        have hk := HB.out.2.below hB HB.out.2.lt
        have HW := Lib.hid (And.intro hB1 (show Blk w1.drew _ _ _ from hk))
        have hz := hB1.size
        have hzk := hk.lt
        have i0 := hk.cell 0
        have i1 := hk.cell 1
        have i2 := hk.cell 2
        simp only [List.getElem?_toArray, List.getElem?_cons_succ, List.getElem?_cons_zero] at i0 i1 i2
        clear hB hk HB HX
        go_wp2_with fail
        go_region_held3 (fun w' => w'.cell? ⟨w.heap.size, 0, none⟩ = some (.int .i64 p.vars) ∧ w'.cell? ⟨w.heap.size, 1, none⟩ = some (.slice ra p.rows.length rc) ∧ w'.cell? ⟨w.heap.size, 2, none⟩ = some (.slice ga p.gain.length gc))
          (first | go_keep | exact ⟨(HW.out.2.below hB5 hzk).cell 0, (HW.out.2.below hB5 hzk).cell 1, (HW.out.2.below hB5 hzk).cell 2⟩ | exact ⟨(HW.out.2.below hB6 hzk).cell 0, (HW.out.2.below hB6 hzk).cell 1, (HW.out.2.below hB6 hzk).cell 2⟩)
          (first | (go_at_call 39; refine (undecided_all _ p _ ⟨_, _, rfl, HVR.out.below hB1.drew, HVG.out.below hB1.drew⟩ v1 v2).mono ?_; rintro e w5 ⟨vd, rfl, hvd, hB5⟩; rw [HN2.out] at hvd; have HVD := Lib.hid hvd; clear hvd; have hT5 : Below w.heap.size w w5 := hB1.drew.trans (hB5.mono (by exact hz))) | (go_at_call 82; refine (rwrong_any (n := n) (HVR.out) (HL.out) HR.out (by omega) l.length 0 (fun _ => -1) _ vd (by omega) hl0 hT5 (dcOK_none n) HVD.out).mono ?_; rintro e w6 ⟨rfl, hB7⟩; have hB6 := hB5.trans (hB7.mono hB5.size)))
        go_wp2
        go_ret
        exact ⟨rfl, hT5.trans (hB7.mono hT5.size)⟩
    · have d1 : decide ((8192 : Int) < (l.length : Int)) = true := decide_eq_true (by omega)
      rw [if_neg (fun h => hlen h.2)]
      clear hvr hvg hl hlen
      go_enter Try.func51, Try.ntmps51
      go_wp2_with fail
      refine HX.out.mono ?_
      rw [HV.out]
      rintro e w' ⟨rfl, hB⟩
      go_wp2
      go_ret
      exact ⟨rfl, HB.out.1.trans (hB.mono HB.out.1.size)⟩
end Go.Proofs.Ytblmpmapcdpaiaa
end
section
/- The reference's Refutes, Size, pick. -/
namespace Go.Proofs.Ytblmpmapcdpaiaa
open Go.RowKit Lib

set_option maxRecDepth 100000 in
theorem rrefutes_any (v vl : Value) (p : ProgD) (l : List StepD) (w : World) (hv : ProgV w v p) (hl : StepsAt w vl l) :
    Calls Try.prog 49 #[v, vl] w fun e w' => e = .returned (.bool (wrongD p l == -1)) ∧ Below w.heap.size w w' := by
  obtain ⟨vr, vg, rfl, hvr, hvg⟩ := hv
  obtain ⟨ra, rc, rfl, -, -⟩ := (show SlicesLen vr p.rows.length from hvr.len)
  obtain ⟨ga, gc, rfl, -, -⟩ := (show SlicesLen vg p.gain.length from hvg.len)
  have hB0 : Below w.heap.size w (w.alloc (.cells #[.int .i64 p.vars, .slice ra p.rows.length rc, .slice ga p.gain.length gc] 29)) := (Below.refl _ _).alloc (Nat.le_refl _) _
  have hx := rwrongD _ _ p l _ ⟨_, _, rfl, hvr.below hB0, hvg.below hB0⟩ (hl.below hB0)
  generalize wrongD p l = c at hx
  clear hvr hvg hl
  go_enter Try.func49, Try.ntmps49
  go_wp2_with fail
  refine hx.mono ?_
  rintro e w' ⟨rfl, hB⟩
  go_wp2
  go_ret
  exact ⟨rfl, hB0.trans (hB.mono hB0.size)⟩
set_option maxRecDepth 100000 in
theorem pick80 (c n : Int) (w : World) (hc : InR c) (hn : 0 < n) (hn2 : n ≤ 9223372036854775807) : Calls Try.prog 80 #[.int .i64 c, .int .i64 n] w fun e w' => e = .returned (.int .i64 (pickI c n)) ∧ w = w' := by
  have hp := pickI_bd c hn
  have hp' := Lib.hid hp
  obtain ⟨hc1, hc2⟩ := hc
  have hn0 : ¬ n = 0 := by omega
  by_cases h : c < 0
  · have hw1 : IntKind.i64.wrap (c + 1) = c + 1 := wrapS _ (by omega) (by omega)
    have hw2 : IntKind.i64.wrap (-(c + 1)) = -(c + 1) := wrapS _ (by omega) (by omega)
    have e : pickI c n = -(Int.tmod (c + 1) n) := by unfold pickI; rw [if_pos h, ← Int.neg_tmod]; exact (Int.tmod_eq_emod_of_nonneg (by omega)).symm
    rw [e] at hp
    have hw3 : IntKind.i64.wrap (-(Int.tmod (c + 1) n)) = -(Int.tmod (c + 1) n) := wrapS _ (by omega) (by omega)
    rw [e]
    clear hp e
    go_enter Try.func80, Try.ntmps80
    go_wp2
    go_ret
    exact ⟨rfl, rfl⟩
  · have e : pickI c n = c % n := by unfold pickI; rw [if_neg h]
    rw [e] at hp
    have hw3 : IntKind.i64.wrap (c % n) = c % n := wrapS _ (by omega) (by omega)
    rw [e]
    clear hp e
    go_enter Try.func80, Try.ntmps80
    go_wp2
    go_ret
    exact ⟨rfl, rfl⟩
set_option maxRecDepth 100000 in
theorem pick54 (c n : Int) (w : World) (hc : InR c) (hn : 0 < n) (hn2 : n ≤ 9223372036854775807) : Calls Try.prog 54 #[.int .i64 c, .int .i64 n] w fun e w' => e = .returned (.int .i64 (pickI c n)) ∧ w = w' := by
  have hp := pickI_bd c hn
  have hp' := Lib.hid hp
  obtain ⟨hc1, hc2⟩ := hc
  have hn0 : ¬ n = 0 := by omega
  by_cases h : c < 0
  · have hw1 : IntKind.i64.wrap (c + 1) = c + 1 := wrapS _ (by omega) (by omega)
    have hw2 : IntKind.i64.wrap (-(c + 1)) = -(c + 1) := wrapS _ (by omega) (by omega)
    have e : pickI c n = -(Int.tmod (c + 1) n) := by unfold pickI; rw [if_pos h, ← Int.neg_tmod]; exact (Int.tmod_eq_emod_of_nonneg (by omega)).symm
    rw [e] at hp
    have hw3 : IntKind.i64.wrap (-(Int.tmod (c + 1) n)) = -(Int.tmod (c + 1) n) := wrapS _ (by omega) (by omega)
    rw [e]
    clear hp e
    go_enter Try.func54, Try.ntmps54
    go_wp2
    go_ret
    exact ⟨rfl, rfl⟩
  · have e : pickI c n = c % n := by unfold pickI; rw [if_neg h]
    rw [e] at hp
    have hw3 : IntKind.i64.wrap (c % n) = c % n := wrapS _ (by omega) (by omega)
    rw [e]
    clear hp e
    go_enter Try.func54, Try.ntmps54
    go_wp2
    go_ret
    exact ⟨rfl, rfl⟩
set_option maxRecDepth 100000 in
set_option maxHeartbeats 1000000 in
theorem rsize_any (vl : Value) (l : List StepD) (w : World) (hl : StepsAt w vl l) :
    Calls Try.prog 47 #[vl] w fun e w' => e = .returned (.tuple #[.int .i64 ((l.length : Int) - (leavesK l l.length : Int)), .int .i64 (leavesK l l.length : Int)]) ∧ Below w.heap.size w w' := by
  obtain ⟨la, lc, rfl, hl1, hl2⟩ := (show SlicesLen vl l.length from hl.len)
  unfold maxLen at hl2
  have HL := Lib.hid hl
  clear hl
  go_enter Try.func47, Try.ntmps47
  go_wp2
  go_loopw [4, 5] (fun u4 u5 wr => ∃ k : Nat, k ≤ l.length ∧ u5 = .int .i64 k ∧ u4 = .int .i64 ((k : Int) - (leavesK l k : Nat)) ∧ Below w.heap.size w wr) (fun _ u5 _ => (l.length - Go.RowKit.intOf u5).toNat)
  case atStart => exact ⟨0, by omega, rfl, rfl, Below.refl _ _⟩
  case round =>
    obtain ⟨k, hk, rfl, rfl, hB⟩ := hrel
    have hlk := leavesK_le l k
    by_cases hkl : k < l.length
    · have hs := getD_some (⟨0, 0, 0, []⟩ : StepD) hkl
      have HN : Hid (leavesK l (k + 1) = leavesK l k + if (l.getD k ⟨0, 0, 0, []⟩).var = -1 then 1 else 0) := rfl
      obtain ⟨b, off, vw, rfl, s0, s1, s2, s3, -⟩ := (HL.out.below hB).getC hs
      generalize l.getD k ⟨0, 0, 0, []⟩ = s at *
      have hkk : (0 : Int) ≤ (k : Int) ∧ (k : Int) < (l.length : Int) := by omega
      have hw1 : IntKind.i64.wrap ((k : Int) - (leavesK l k : Int) + 1) = (k : Int) - (leavesK l k : Int) + 1 := by rw [IntKind.wrap_i64]; omega
      clear hs
      by_cases hv : s.var = -1
      · have q : (s.var != -1) = false := by rw [hv]; rfl
        rw [if_pos hv] at HN
        clear hv
        go_wp2
        go_roundw
        case rel => exact ⟨k + 1, by omega, by go_num, by rw [HN.out]; go_num, hB⟩
        case measure => simp [Go.RowKit.intOf]; omega
      · have q : (s.var != -1) = true := by simp [hv]
        rw [if_neg hv] at HN
        clear hv
        go_wp2
        go_roundw
        case rel => exact ⟨k + 1, by omega, by go_num, by rw [HN.out]; go_num, hB⟩
        case measure => simp [Go.RowKit.intOf]; omega
    · obtain rfl : k = l.length := by omega
      have hw : IntKind.i64.wrap ((l.length : Int) - ((l.length : Int) - (leavesK l l.length : Int))) = (leavesK l l.length : Int) := by rw [IntKind.wrap_i64]; omega
      go_wp2
      go_ret2
      exact ⟨rfl, hB⟩
end Go.Proofs.Ytblmpmapcdpaiaa
end

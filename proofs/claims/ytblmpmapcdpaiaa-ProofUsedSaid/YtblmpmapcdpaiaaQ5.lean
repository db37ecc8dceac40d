/- The reference's Refutes, Size, pick. -/
import Derived.Test.YtblmpmapcdpaiaaQ3
namespace Go.Proofs.Ytblmpmapcdpaiaa
open Go.RowKit Lib

set_option maxRecDepth 100000 in
theorem rrefutes_any (v vl : Value) (p : ProgD) (l : List StepD) (w : World) (hv : ProgV w v p) (hl : StepsAt w vl l) :
    Calls Try.prog 49 #[v, vl] w fun e w' => e = .returned (.bool (wrongD p l == -1)) ∧ Below w.heap.size w w' := by
  obtain ⟨vr, vg, rfl, hvr, hvg⟩ := hv
  obtain ⟨ra, rc, rfl, -, -⟩ := (show SlicesLen vr p.rows.length from hvr.len)
  obtain ⟨ga, gc, rfl, -, -⟩ := (show SlicesLen vg p.gain.length from hvg.len)
  have hB0 : Below w.heap.size w (w.alloc (.cells #[.int .i64 p.vars, .slice ra p.rows.length rc, .slice ga p.gain.length gc] 29)) := (Below.refl _ _).alloc (Nat.le_refl _) _
  have hx := rwrongD _ _ p l _ ⟨_, _, rfl, hvr.below hB0, hvg.below hB0⟩ (hl.below hB0)
  generalize wrongD p l = c at hx
  clear hvr hvg hl
  go_enter Try.func49, Try.ntmps49
  go_wp2_with fail
  refine hx.mono ?_
  rintro e w' ⟨rfl, hB⟩
  go_wp2
  go_ret
  exact ⟨rfl, hB0.trans (hB.mono hB0.size)⟩
set_option maxRecDepth 100000 in
theorem pick80 (c n : Int) (w : World) (hc : InR c) (hn : 0 < n) (hn2 : n ≤ 9223372036854775807) : Calls Try.prog 80 #[.int .i64 c, .int .i64 n] w fun e w' => e = .returned (.int .i64 (pickI c n)) ∧ w = w' := by
  have hp := pickI_bd c hn
  have hp' := Lib.hid hp
  obtain ⟨hc1, hc2⟩ := hc
  have hn0 : ¬ n = 0 := by omega
  by_cases h : c < 0
  · have hw1 : IntKind.i64.wrap (c + 1) = c + 1 := wrapS _ (by omega) (by omega)
    have hw2 : IntKind.i64.wrap (-(c + 1)) = -(c + 1) := wrapS _ (by omega) (by omega)
    have e : pickI c n = -(Int.tmod (c + 1) n) := by unfold pickI; rw [if_pos h, ← Int.neg_tmod]; exact (Int.tmod_eq_emod_of_nonneg (by omega)).symm
    rw [e] at hp
    have hw3 : IntKind.i64.wrap (-(Int.tmod (c + 1) n)) = -(Int.tmod (c + 1) n) := wrapS _ (by omega) (by omega)
    rw [e]
    clear hp e
    go_enter Try.func80, Try.ntmps80
    go_wp2
    go_ret
    exact ⟨rfl, rfl⟩
  · have e : pickI c n = c % n := by unfold pickI; rw [if_neg h]
    rw [e] at hp
    have hw3 : IntKind.i64.wrap (c % n) = c % n := wrapS _ (by omega) (by omega)
    rw [e]
    clear hp e
    go_enter Try.func80, Try.ntmps80
    go_wp2
    go_ret
    exact ⟨rfl, rfl⟩
set_option maxRecDepth 100000 in
theorem pick54 (c n : Int) (w : World) (hc : InR c) (hn : 0 < n) (hn2 : n ≤ 9223372036854775807) : Calls Try.prog 54 #[.int .i64 c, .int .i64 n] w fun e w' => e = .returned (.int .i64 (pickI c n)) ∧ w = w' := by
  have hp := pickI_bd c hn
  have hp' := Lib.hid hp
  obtain ⟨hc1, hc2⟩ := hc
  have hn0 : ¬ n = 0 := by omega
  by_cases h : c < 0
  · have hw1 : IntKind.i64.wrap (c + 1) = c + 1 := wrapS _ (by omega) (by omega)
    have hw2 : IntKind.i64.wrap (-(c + 1)) = -(c + 1) := wrapS _ (by omega) (by omega)
    have e : pickI c n = -(Int.tmod (c + 1) n) := by unfold pickI; rw [if_pos h, ← Int.neg_tmod]; exact (Int.tmod_eq_emod_of_nonneg (by omega)).symm
    rw [e] at hp
    have hw3 : IntKind.i64.wrap (-(Int.tmod (c + 1) n)) = -(Int.tmod (c + 1) n) := wrapS _ (by omega) (by omega)
    rw [e]
    clear hp e
    go_enter Try.func54, Try.ntmps54
    go_wp2
    go_ret
    exact ⟨rfl, rfl⟩
  · have e : pickI c n = c % n := by unfold pickI; rw [if_neg h]
    rw [e] at hp
    have hw3 : IntKind.i64.wrap (c % n) = c % n := wrapS _ (by omega) (by omega)
    rw [e]
    clear hp e
    go_enter Try.func54, Try.ntmps54
    go_wp2
    go_ret
    exact ⟨rfl, rfl⟩
set_option maxRecDepth 100000 in
set_option maxHeartbeats 1000000 in
theorem rsize_any (vl : Value) (l : List StepD) (w : World) (hl : StepsAt w vl l) :
    Calls Try.prog 47 #[vl] w fun e w' => e = .returned (.tuple #[.int .i64 ((l.length : Int) - (leavesK l l.length : Int)), .int .i64 (leavesK l l.length : Int)]) ∧ Below w.heap.size w w' := by
  obtain ⟨la, lc, rfl, hl1, hl2⟩ := (show SlicesLen vl l.length from hl.len)
  unfold maxLen at hl2
  have HL := Lib.hid hl
  clear hl
  go_enter Try.func47, Try.ntmps47
  go_wp2
  go_loopw [4, 5] (fun u4 u5 wr => ∃ k : Nat, k ≤ l.length ∧ u5 = .int .i64 k ∧ u4 = .int .i64 ((k : Int) - (leavesK l k : Nat)) ∧ Below w.heap.size w wr) (fun _ u5 _ => (l.length - Go.RowKit.intOf u5).toNat)
  case atStart => exact ⟨0, by omega, rfl, rfl, Below.refl _ _⟩
  case round =>
    obtain ⟨k, hk, rfl, rfl, hB⟩ := hrel
    have hlk := leavesK_le l k
    by_cases hkl : k < l.length
    · have hs := getD_some (⟨0, 0, 0, []⟩ : StepD) hkl
      have HN : Hid (leavesK l (k + 1) = leavesK l k + if (l.getD k ⟨0, 0, 0, []⟩).var = -1 then 1 else 0) := rfl
      obtain ⟨b, off, vw, rfl, s0, s1, s2, s3, -⟩ := (HL.out.below hB).getC hs
      generalize l.getD k ⟨0, 0, 0, []⟩ = s at *
      have hkk : (0 : Int) ≤ (k : Int) ∧ (k : Int) < (l.length : Int) := by omega
      have hw1 : IntKind.i64.wrap ((k : Int) - (leavesK l k : Int) + 1) = (k : Int) - (leavesK l k : Int) + 1 := by rw [IntKind.wrap_i64]; omega
      clear hs
      by_cases hv : s.var = -1
      · have q : (s.var != -1) = false := by rw [hv]; rfl
        rw [if_pos hv] at HN
        clear hv
        go_wp2
        go_roundw
        case rel => exact ⟨k + 1, by omega, by go_num, by rw [HN.out]; go_num, hB⟩
        case measure => simp [Go.RowKit.intOf]; omega
      · have q : (s.var != -1) = true := by simp [hv]
        rw [if_neg hv] at HN
        clear hv
        go_wp2
        go_roundw
        case rel => exact ⟨k + 1, by omega, by go_num, by rw [HN.out]; go_num, hB⟩
        case measure => simp [Go.RowKit.intOf]; omega
    · obtain rfl : k = l.length := by omega
      have hw : IntKind.i64.wrap ((l.length : Int) - ((l.length : Int) - (leavesK l l.length : Int))) = (leavesK l l.length : Int) := by rw [IntKind.wrap_i64]; omega
      go_wp2
      go_ret2
      exact ⟨rfl, hB⟩
end Go.Proofs.Ytblmpmapcdpaiaa

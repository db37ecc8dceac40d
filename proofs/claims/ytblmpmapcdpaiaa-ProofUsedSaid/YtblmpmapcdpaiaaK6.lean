/- package proof: Wrong, Refutes, Size. -/
import Derived.Test.YtblmpmapcdpaiaaK5
namespace Go.Proofs.Ytblmpmapcdpaiaa
open Go.RowKit Lib

theorem validB_rows {p : ProgD} (h : validB p = true) : ∃ n : Nat, p.vars = n ∧ RowsOK n p.rows := by
  obtain ⟨v1, v2, v3, v4, v5, v6⟩ := validB_true h
  obtain ⟨n, hn⟩ := Int.eq_ofNat_of_zero_le v1
  refine ⟨n, hn, by omega, by omega, fun r hr => ?_⟩
  obtain ⟨h1, h2, h3, h4⟩ := rightB_true (v4 r hr)
  exact ⟨by omega, h2, by omega, by omega⟩
def wrongD (p : ProgD) (l : List StepD) : Int := checkV p p.rows l
set_option maxRecDepth 100000 in
theorem wrong_any (v vl : Value) (p : ProgD) (l : List StepD) (w : World) (hv : ProgV w v p) (hl : StepsAt w vl l) :
    Calls Try.prog 50 #[v, vl] w fun e w' => e = .returned (.int .i64 (wrongD p l)) ∧ Below w.heap.size w w' := by
  obtain ⟨vr, vg, rfl, hvr, hvg⟩ := hv
  obtain ⟨ra, rc, rfl, -, -⟩ := (show SlicesLen vr p.rows.length from hvr.len)
  obtain ⟨ga, gc, rfl, -, -⟩ := (show SlicesLen vg p.gain.length from hvg.len)
  obtain ⟨la, lc, rfl, -, -⟩ := (show SlicesLen vl l.length from hl.len)
  have hB0 : Below w.heap.size w (w.alloc (.cells #[.int .i64 p.vars, .slice ra p.rows.length rc, .slice ga p.gain.length gc] 29)) := (Below.refl _ _).alloc (Nat.le_refl _) _
  have hx := check_any _ _ _ p p.rows l _ ⟨_, _, rfl, hvr.below hB0, hvg.below hB0⟩ (hvr.below hB0) (hl.below hB0) validB_rows
  unfold wrongD
  generalize checkV p p.rows l = c at hx
  clear hvr hvg hl
  go_enter Try.func50, Try.ntmps50
  go_wp2_with fail
  refine hx.mono ?_
  rintro e w' ⟨u, rfl, -, hB⟩
  go_wp2
  go_ret
  exact ⟨rfl, hB0.trans (hB.mono hB0.size)⟩
set_option maxRecDepth 100000 in
theorem prefutes_any (v vl : Value) (p : ProgD) (l : List StepD) (w : World) (hv : ProgV w v p) (hl : StepsAt w vl l) :
    Calls Try.prog 48 #[v, vl] w fun e w' => e = .returned (.bool (wrongD p l == -1)) ∧ Below w.heap.size w w' := by
  obtain ⟨vr, vg, rfl, hvr, hvg⟩ := hv
  obtain ⟨ra, rc, rfl, -, -⟩ := (show SlicesLen vr p.rows.length from hvr.len)
  obtain ⟨ga, gc, rfl, -, -⟩ := (show SlicesLen vg p.gain.length from hvg.len)
  have hB0 : Below w.heap.size w (w.alloc (.cells #[.int .i64 p.vars, .slice ra p.rows.length rc, .slice ga p.gain.length gc] 29)) := (Below.refl _ _).alloc (Nat.le_refl _) _
  have hx := wrong_any _ _ p l _ ⟨_, _, rfl, hvr.below hB0, hvg.below hB0⟩ (hl.below hB0)
  generalize wrongD p l = c at hx
  clear hvr hvg hl
  go_enter Try.func48, Try.ntmps48
  go_wp2_with fail
  refine hx.mono ?_
  rintro e w' ⟨rfl, hB⟩
  go_wp2
  go_ret
  exact ⟨rfl, hB0.trans (hB.mono hB0.size)⟩
/-- How many of the first m steps are leaves. -/
def leavesK (l : List StepD) : Nat → Nat
  | 0 => 0
  | m + 1 => leavesK l m + if (l.getD m ⟨0, 0, 0, []⟩).var = -1 then 1 else 0
theorem leavesK_le (l : List StepD) : ∀ m, leavesK l m ≤ m := by
  intro m
  induction m with
  | zero => exact Nat.le_refl _
  | succ m ih => simp only [leavesK]; split <;> omega
set_option maxRecDepth 100000 in
set_option maxHeartbeats 1000000 in
theorem size_any (vl : Value) (l : List StepD) (w : World) (hl : StepsAt w vl l) :
    Calls Try.prog 46 #[vl] w fun e w' => e = .returned (.tuple #[.int .i64 ((l.length : Int) - (leavesK l l.length : Int)), .int .i64 (leavesK l l.length : Int)]) ∧ Below w.heap.size w w' := by
  obtain ⟨la, lc, rfl, hl1, hl2⟩ := (show SlicesLen vl l.length from hl.len)
  unfold maxLen at hl2
  have HL := Lib.hid hl
  clear hl
  go_enter Try.func46, Try.ntmps46
  go_wp2
  go_loopw [4, 9] (fun u4 u9 wr => ∃ k : Nat, k ≤ l.length ∧ u9 = .int .i64 k ∧ u4 = .int .i64 (leavesK l k : Nat) ∧ Below w.heap.size w wr) (fun _ u9 _ => (l.length - Go.RowKit.intOf u9).toNat)
  case atStart => exact ⟨0, by omega, rfl, rfl, Below.refl _ _⟩
  case round =>
    obtain ⟨k, hk, rfl, rfl, hB⟩ := hrel
    have hlk := leavesK_le l k
    have hz := hB.size
    by_cases hkl : k < l.length
    · have hs := getD_some (⟨0, 0, 0, []⟩ : StepD) hkl
      have HN : Hid (leavesK l (k + 1) = leavesK l k + if (l.getD k ⟨0, 0, 0, []⟩).var = -1 then 1 else 0) := rfl
      obtain ⟨b, off, vw, rfl, s0, s1, s2, s3, hwt⟩ := (HL.out.below hB).getC hs
      obtain ⟨wa, wc, rfl, -, -⟩ := hwt.len
      clear hwt
      generalize l.getD k ⟨0, 0, 0, []⟩ = s at *
      have HS := Lib.hid hs
      have hkk : (0 : Int) ≤ (k : Int) ∧ (k : Int) < (l.length : Int) := by omega
      clear hs
      have hB2 : ∀ o, Below w.heap.size w (wr.alloc o) := fun o => hB.alloc hz o
      have HB2 := Lib.hid hB2
      clear hB2 hB
      by_cases hv : s.var = -1
      · have q : (s.var == -1) = true := beq_iff_eq.2 hv
        rw [if_pos hv] at HN
        clear hv
        go_wp2
        go_roundw
        case rel => exact ⟨k + 1, by omega, by go_num, by rw [HN.out]; go_num, HB2.out _⟩
        case measure => simp [Go.RowKit.intOf]; omega
      · have q : (s.var == -1) = false := beq_eq_false_iff_ne.2 hv
        rw [if_neg hv] at HN
        clear hv
        go_wp2
        go_roundw
        case rel => exact ⟨k + 1, by omega, by go_num, by rw [HN.out]; go_num, HB2.out _⟩
        case measure => simp [Go.RowKit.intOf]; omega
    · obtain rfl : k = l.length := by omega
      have hw : IntKind.i64.wrap ((l.length : Int) - (leavesK l l.length : Int)) = (l.length : Int) - (leavesK l l.length : Int) := by rw [IntKind.wrap_i64]; omega
      go_wp2
      go_ret2
      exact ⟨rfl, hB⟩
end Go.Proofs.Ytblmpmapcdpaiaa

/- package contact: areIn, isPass; its order of passes; package nadirref09: before. -/
import Derived.Test.YtmajkagmcdlncaaA1
namespace Go.Proofs.Ytmajkagmcdlncaa
open Go.RowKit
open L18 (Pass Slot isPassB passOK)

set_option maxRecDepth 100000 in
theorem areIn1 (b : Bd) (w : World) : Calls Try.prog 93 #[.agg #[.int .i64 b.n, .int .i64 b.lo, .int .i64 b.hi]] w fun e w' => e = .returned (.bool (!inB b.n b.lo b.hi)) ∧ Below w.heap.size w w' := by
  go_enter Try.func93, Try.ntmps93
  go_wp2_with fail
  refine (isIn94 b.n b.lo b.hi _).mono ?_
  rintro e w' ⟨rfl, rfl⟩
  go_wp2
  go_ret
  exact ⟨rfl, (Below.refl _ _).alloc (Nat.le_refl _) _⟩
theorem areIn_ans (w : World) (l : List Bd) : Ans BdV w (.func (.func 93) #[] #[]) l (fun b => !inB b.n b.lo b.hi) :=
  ⟨93, _, rfl, Try.call93, fun _ x _ V _ v hv => by cases hv; exact areIn1 x V⟩
set_option maxRecDepth 100000 in
theorem areIn_any (v : Value) (l : List Bd) (w : World) (hv : BdsAt w v l) : Calls Try.prog 78 #[v] w fun e w' => e = .returned (.bool (!(l.any fun b => !inB b.n b.lo b.hi))) ∧ Below w.heap.size w w' := by
  have hx := contains92 v _ l _ w hv (areIn_ans w l)
  obtain ⟨a, cap, rfl, hle, hcm⟩ := hv.len
  unfold maxLen at hcm
  clear hv
  generalize (l.any fun b => !inB b.n b.lo b.hi) = y at hx ⊢
  go_enter Try.func78, Try.ntmps78
  go_wp2_with fail
  refine hx.mono ?_
  rintro e w' ⟨rfl, hB⟩
  go_wp2
  go_ret
  exact ⟨rfl, hB⟩
theorem bds_two {W : World} {B : Nat} {x y : Bd} (h : Blk W B #[.int .i64 x.n, .int .i64 x.lo, .int .i64 x.hi, .int .i64 y.n, .int .i64 y.lo, .int .i64 y.hi] 106) : BdsAt W (.slice (some ⟨B, 0, none⟩) 2 2) [x, y] := by
  refine ⟨_, 2, rfl, Nat.le_refl _, by unfold maxLen; decide, fun _ => ⟨B, 0, rfl, fun j z hj => ⟨[.int .i64 z.n, .int .i64 z.lo, .int .i64 z.hi], rfl, fun i c hc => ?_, rfl⟩⟩⟩
  rw [h.cell]
  match j, hj with
  | 0, hj =>
    cases hj
    match i, hc with
    | 0, hc => exact hc
    | 1, hc => exact hc
    | 2, hc => exact hc
  | 1, hj =>
    cases hj
    match i, hc with
    | 0, hc => exact hc
    | 1, hc => exact hc
    | 2, hc => exact hc
def t3 (a b c : Prop) [Decidable a] [Decidable b] [Decidable c] : Bool := decide a && (decide b && decide c)
theorem isPass_eq (p : Pass) : isPassB p = ((inB p.sat 0 23 && inB p.stn 0 11) && (t3 (0 ≤ p.cf) (p.cf < p.cu) (p.cu ≤ 1000001) && ((decide (p.sf = 0) && decide (p.su = 0)) || t3 (p.cf ≤ p.sf) (p.sf < p.su) (p.su ≤ p.cu)))) := by
  unfold isPassB passOK t3 inB
  rw [Bool.eq_iff_iff]
  simp [and_assoc]
set_option maxRecDepth 100000 in
set_option maxHeartbeats 1000000 in
theorem isPass_any (p : Pass) (w : World) : Calls Try.prog 65 #[.agg #[.int .i64 p.sat, .int .i64 p.stn, .int .i64 p.sf, .int .i64 p.su, .int .i64 p.cf, .int .i64 p.cu]] w fun e w' => e = .returned (.bool (isPassB p)) ∧ Below w.heap.size w w' := by
  rw [isPass_eq]
  have hB0 : Below w.heap.size w (w.alloc (.cells #[.int .i64 p.sat, .int .i64 p.stn, .int .i64 p.sf, .int .i64 p.su, .int .i64 p.cf, .int .i64 p.cu] 30)) := (Below.refl _ _).alloc (Nat.le_refl _) _
  have hN : (!([(⟨p.sat, 0, 23⟩ : Bd), ⟨p.stn, 0, 11⟩].any fun b => !inB b.n b.lo b.hi)) = (inB p.sat 0 23 && inB p.stn 0 11) := by simp
  have hx := fun V (hV : BdsAt V _ _) => areIn_any (.slice (some ⟨w.heap.size + 1, 0, none⟩) 2 2) [⟨p.sat, 0, 23⟩, ⟨p.stn, 0, 11⟩] V hV
  rw [hN] at hx
  generalize (inB p.sat 0 23 && inB p.stn 0 11) = nm at hx ⊢
  have HX := Lib.hid hx
  clear hx hN
  obtain ⟨b4, hb4⟩ : ∃ b, b = t3 (0 ≤ p.cf) (p.cf < p.cu) (p.cu ≤ 1000001) := ⟨_, rfl⟩
  obtain ⟨b5, hb5⟩ : ∃ b, b = t3 (p.cf ≤ p.sf) (p.sf < p.su) (p.su ≤ p.cu) := ⟨_, rfl⟩
  rw [← hb4, ← hb5]
  have HB4 := Lib.hid hb4
  have HB5 := Lib.hid hb5
  clear hb4 hb5
  go_enter Try.func65, Try.ntmps65
  go_wp2_with fail
  have kb : Blk ((w.alloc (.cells #[.int .i64 p.sat, .int .i64 p.stn, .int .i64 p.sf, .int .i64 p.su, .int .i64 p.cf, .int .i64 p.cu] 30)).alloc (.cells #[.int .i64 p.sat, .int .i64 0, .int .i64 23, .int .i64 p.stn, .int .i64 0, .int .i64 11] 106)) (w.heap.size + 1) #[.int .i64 p.sat, .int .i64 0, .int .i64 23, .int .i64 p.stn, .int .i64 0, .int .i64 11] 106 := Blk.newAt _ _ _ (by simp)
  refine (HX.out _ (bds_two (x := ⟨p.sat, 0, 23⟩) (y := ⟨p.stn, 0, 11⟩) kb)).mono ?_
  rintro e w1 ⟨rfl, hB1⟩
  have kp : Blk w1 w.heap.size #[.int .i64 p.sat, .int .i64 p.stn, .int .i64 p.sf, .int .i64 p.su, .int .i64 p.cf, .int .i64 p.cu] 30 := ((Blk.new w _ _).alloc _).below hB1 (by simp; omega)
  have hB2 : Below w.heap.size w w1 := (hB0.alloc (by simp) _).trans (hB1.mono (by simp; omega))
  have k0 := kp.cell 0
  have k1 := kp.cell 1
  have k2 := kp.cell 2
  have k3 := kp.cell 3
  have k4 := kp.cell 4
  have k5 := kp.cell 5
  simp at k0 k1 k2 k3 k4 k5
  clear kb kp hB1 hB0 HX
  go_upto_region 2 with fail
  go_cut [4] from 14 to 32 (fun u4 wx => u4 = .bool b4 ∧ w1 = wx)
  case first =>
    by_cases h1 : 0 ≤ p.cf
    · by_cases h2 : p.cf < p.cu
      · have d1 : decide (0 ≤ p.cf) = true := decide_eq_true h1
        have d2 : decide (p.cf < p.cu) = true := decide_eq_true h2
        go_wp2_with fail
        go_meet
        exact ⟨by rw [HB4.out]; unfold t3; rw [d1, d2]; rfl, rfl⟩
      · have d1 : decide (0 ≤ p.cf) = true := decide_eq_true h1
        have d2 : decide (p.cf < p.cu) = false := decide_eq_false h2
        go_wp2_with fail
        go_meet
        exact ⟨by rw [HB4.out]; unfold t3; rw [d1, d2]; rfl, rfl⟩
    · have d1 : decide (0 ≤ p.cf) = false := decide_eq_false h1
      go_wp2_with fail
      go_meet
      exact ⟨by rw [HB4.out]; unfold t3; rw [d1]; rfl, rfl⟩
  case rest =>
    rename World => wx
    obtain ⟨rfl, rfl⟩ := hcut
    go_upto_region 3 with fail
    go_cut [5] from 33 to 57 (fun u5 wx => u5 = .bool b5 ∧ w1 = wx)
    case first =>
      by_cases h1 : p.cf ≤ p.sf
      · by_cases h2 : p.sf < p.su
        · have d1 : decide (p.cf ≤ p.sf) = true := decide_eq_true h1
          have d2 : decide (p.sf < p.su) = true := decide_eq_true h2
          go_wp2_with fail
          go_meet
          exact ⟨by rw [HB5.out]; unfold t3; rw [d1, d2]; rfl, rfl⟩
        · have d1 : decide (p.cf ≤ p.sf) = true := decide_eq_true h1
          have d2 : decide (p.sf < p.su) = false := decide_eq_false h2
          go_wp2_with fail
          go_meet
          exact ⟨by rw [HB5.out]; unfold t3; rw [d1, d2]; rfl, rfl⟩
      · have d1 : decide (p.cf ≤ p.sf) = false := decide_eq_false h1
        go_wp2_with fail
        go_meet
        exact ⟨by rw [HB5.out]; unfold t3; rw [d1]; rfl, rfl⟩
    case rest =>
      rename World => wx
      obtain ⟨rfl, rfl⟩ := hcut
      clear HB4 HB5
      cases nm with
      | false =>
        go_wp2_with fail
        go_ret
        exact ⟨rfl, hB2⟩
      | true =>
        cases b4 with
        | false =>
          go_wp2_with fail
          go_ret
          exact ⟨rfl, hB2⟩
        | true =>
          go_wp2_with fail
          all_goals
            go_ret
            exact ⟨by simp_all, hB2⟩
set_option maxRecDepth 100000 in
theorem isPass1 (p : Pass) (w : World) : Calls Try.prog 64 #[.agg #[.int .i64 p.sat, .int .i64 p.stn, .int .i64 p.sf, .int .i64 p.su, .int .i64 p.cf, .int .i64 p.cu]] w fun e w' => e = .returned (.bool (!isPassB p)) ∧ Below w.heap.size w w' := by
  have hx := isPass_any p
  generalize isPassB p = y at hx ⊢
  have HX := Lib.hid hx
  clear hx
  go_enter Try.func64, Try.ntmps64
  go_wp2_with fail
  refine (HX.out _).mono ?_
  rintro e w' ⟨rfl, hB⟩
  go_wp2
  go_ret
  exact ⟨rfl, ((Below.refl _ _).alloc (Nat.le_refl _) _).trans (hB.mono (by simp))⟩
theorem isPass1_ans (w : World) (l : List Pass) : Ans PassV w (.func (.func 64) #[] #[]) l (fun p => !isPassB p) :=
  ⟨64, _, rfl, Try.call64, fun _ p _ V _ v hv => by cases hv; exact isPass1 p V⟩
/-! ### The order of passes -/
set_option maxRecDepth 100000 in
theorem before69 (a b : Pass) (w : World) : Calls Try.prog 69 #[.agg #[.int .i64 a.sat, .int .i64 a.stn, .int .i64 a.sf, .int .i64 a.su, .int .i64 a.cf, .int .i64 a.cu], .agg #[.int .i64 b.sat, .int .i64 b.stn, .int .i64 b.sf, .int .i64 b.su, .int .i64 b.cf, .int .i64 b.cu]] w fun e w' => e = .returned (.bool (L18.beforeB a b)) ∧ Below w.heap.size w w' := by
  have hB0 : Below w.heap.size w ((w.alloc (.cells #[.int .i64 a.sat, .int .i64 a.stn, .int .i64 a.sf, .int .i64 a.su, .int .i64 a.cf, .int .i64 a.cu] 30)).alloc (.cells #[.int .i64 b.sat, .int .i64 b.stn, .int .i64 b.sf, .int .i64 b.su, .int .i64 b.cf, .int .i64 b.cu] 30)) := ((Below.refl _ _).alloc (Nat.le_refl _) _).alloc (by simp) _
  unfold L18.beforeB
  by_cases h1 : a.cf = b.cf
  · rw [if_neg (by simpa using h1)]
    by_cases h2 : a.sat = b.sat
    · rw [if_neg (by simpa using h2)]
      by_cases h3 : a.stn = b.stn
      · rw [if_neg (by simpa using h3)]
        by_cases h4 : a.sf = b.sf
        · rw [if_neg (by simpa using h4)]
          rw [h1, h2, h3, h4]
          rw [h1, h2, h3, h4] at hB0
          clear h1 h2 h3 h4
          go_enter Try.func69, Try.ntmps69
          go_wp2
          go_ret
          exact ⟨rfl, hB0⟩
        · rw [if_pos (by simpa using h4)]
          rw [h1, h2, h3]
          rw [h1, h2, h3] at hB0
          clear h1 h2 h3
          go_enter Try.func69, Try.ntmps69
          go_wp2
          go_ret
          exact ⟨rfl, hB0⟩
      · rw [if_pos (by simpa using h3)]
        rw [h1, h2]
        rw [h1, h2] at hB0
        clear h1 h2
        go_enter Try.func69, Try.ntmps69
        go_wp2
        go_ret
        exact ⟨rfl, hB0⟩
    · rw [if_pos (by simpa using h2)]
      rw [h1]
      rw [h1] at hB0
      clear h1
      go_enter Try.func69, Try.ntmps69
      go_wp2
      go_ret
      exact ⟨rfl, hB0⟩
  · rw [if_pos (by simpa using h1)]
    go_enter Try.func69, Try.ntmps69
    go_wp2
    go_ret
    exact ⟨rfl, hB0⟩
end Go.Proofs.Ytmajkagmcdlncaa

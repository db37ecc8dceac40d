/- package nadirref09: Proper. -/
import Derived.Test.YtmajkagmcdlncaaA4
namespace Go.Proofs.Ytmajkagmcdlncaa
open Go.RowKit
open L18 (Pass Slot isPassB passOK sgnI orI cmpP noPass)

def okP (l : List Pass) (j : Nat) : Prop := isPassB (l.getD j noPass) = true ∧ (0 < j → L18.beforeB (l.getD j noPass) (l.getD (j - 1) noPass) = false)
theorem proper_no {l : List Pass} {j : Nat} (hj : j < l.length) (h : ¬ okP l j) : L18.properB l = false := by
  unfold L18.properB
  rw [Bool.eq_false_iff]
  intro hc
  simp only [Bool.and_eq_true, decide_eq_true_eq] at hc
  exact h ⟨hc.2.1 j hj, hc.2.2 j hj⟩
theorem proper_yes {l : List Pass} (hl : l.length ≤ 64) (h : ∀ j, j < l.length → okP l j) : L18.properB l = true := by
  unfold L18.properB
  simp only [Bool.and_eq_true, decide_eq_true_eq]
  exact ⟨hl, fun j hj => (h j hj).1, fun j hj => (h j hj).2⟩
theorem proper_long {l : List Pass} (hl : ¬ l.length ≤ 64) : L18.properB l = false := by
  unfold L18.properB; rw [decide_eq_false hl]; rfl
/-- The first half of what makes a pass improper, and the second. -/
def bad1 (p : Pass) : Bool := !inB p.sat 0 23 || (!inB p.stn 0 11 || (decide (p.cf < 0) || (decide (p.cu ≤ p.cf) || decide (1000001 < p.cu))))
def noneB (p : Pass) : Bool := decide (p.sf = 0) && decide (p.su = 0)
def bad2 (p : Pass) : Bool := !noneB p && (decide (p.sf < p.cf) || (decide (p.su ≤ p.sf) || decide (p.cu < p.su)))
theorem isPass_bad (p : Pass) : isPassB p = (!bad1 p && !bad2 p) := by
  rw [isPass_eq]
  unfold bad1 bad2 noneB t3
  rw [show decide (0 ≤ p.cf) = !decide (p.cf < 0) by rw [← decide_not]; congr 1; exact propext ⟨fun h => by omega, fun h => by omega⟩,
    show decide (p.cf < p.cu) = !decide (p.cu ≤ p.cf) by rw [← decide_not]; congr 1; exact propext ⟨fun h => by omega, fun h => by omega⟩,
    show decide (p.cu ≤ 1000001) = !decide (1000001 < p.cu) by rw [← decide_not]; congr 1; exact propext ⟨fun h => by omega, fun h => by omega⟩,
    show decide (p.cf ≤ p.sf) = !decide (p.sf < p.cf) by rw [← decide_not]; congr 1; exact propext ⟨fun h => by omega, fun h => by omega⟩,
    show decide (p.sf < p.su) = !decide (p.su ≤ p.sf) by rw [← decide_not]; congr 1; exact propext ⟨fun h => by omega, fun h => by omega⟩,
    show decide (p.su ≤ p.cu) = !decide (p.cu < p.su) by rw [← decide_not]; congr 1; exact propext ⟨fun h => by omega, fun h => by omega⟩]
  generalize inB p.sat 0 23 = a1
  generalize inB p.stn 0 11 = a2
  generalize decide (p.cf < 0) = a3
  generalize decide (p.cu ≤ p.cf) = a4
  generalize decide (1000001 < p.cu) = a5
  generalize decide (p.sf < p.cf) = a6
  generalize decide (p.su ≤ p.sf) = a7
  generalize decide (p.cu < p.su) = a8
  generalize (decide (p.sf = 0) && decide (p.su = 0)) = a9
  revert a1 a2 a3 a4 a5 a6 a7 a8 a9
  decide
def bad3 (l : List Pass) (j : Nat) : Bool := bad2 (l.getD j noPass) || (decide (0 < j) && L18.beforeB (l.getD j noPass) (l.getD (j - 1) noPass))
theorem okP_iff (l : List Pass) (j : Nat) : okP l j ↔ (bad1 (l.getD j noPass) = false ∧ bad3 l j = false) := by
  unfold okP bad3
  rw [isPass_bad]
  simp only [Bool.and_eq_true, Bool.not_eq_true', Bool.or_eq_false_iff, Bool.and_eq_false_iff, decide_eq_false_iff_not]
  constructor
  · rintro ⟨⟨h1, h2⟩, h3⟩
    refine ⟨h1, h2, ?_⟩
    by_cases h : 0 < j
    · exact .inr (h3 h)
    · exact .inl h
  · rintro ⟨h1, h2, h3⟩
    refine ⟨⟨h1, h2⟩, fun h => ?_⟩
    rcases h3 with h3 | h3
    · exact absurd h h3
    · exact h3
set_option maxRecDepth 100000 in
set_option maxHeartbeats 4000000 in
theorem proper44 (v : Value) (l : List Pass) (w : World) (hv : PassesAt w v l) : Calls Try.prog 44 #[v] w fun e w' => e = .returned (.bool (L18.properB l)) ∧ Below w.heap.size w w' := by
  have HV := Lib.hid hv
  obtain ⟨a, cap, rfl, hle, hcm⟩ := hv.len
  unfold maxLen at hcm
  clear hv
  by_cases hl : l.length ≤ 64
  · have hl2 : decide ((64 : Int) < (l.length : Int)) = false := decide_eq_false (by omega)
    go_enter Try.func44, Try.ntmps44
    go_wp2
    go_loopw [3, 4, 5] (fun u3 _ _ wr => ∃ k : Nat, k ≤ l.length ∧ u3 = .int .i64 k ∧ (∀ j, j < k → okP l j) ∧ Below w.heap.size w wr) (fun u3 _ _ _ => (l.length - intOf u3).toNat)
    case atStart => exact ⟨0, by omega, rfl, fun j hj => absurd hj (Nat.not_lt_zero _), Below.refl _ _⟩
    case round =>
      obtain ⟨k, hk, rfl, hpre, hBr⟩ := hrel
      have HP := Lib.hid hpre
      clear hpre hl2
      by_cases hkl : k < l.length
      · have HN := Lib.hid (fun h => proper_no hkl h)
        have HI := Lib.hid (okP_iff l k)
        have HB3 := Lib.hid (show bad3 l k = _ from rfl)
        obtain ⟨b, off, rfl, c0, c1, c2, c3, c4, c5⟩ := (PassesAt.later HV.out hBr).get (getD_some noPass hkl)
        generalize hp : l.getD k noPass = p at c0 c1 c2 c3 c4 c5 HI
        have HPE := Lib.hid hp
        clear hp
        obtain ⟨y1, hy1⟩ : ∃ y, bad1 p = y := ⟨_, rfl⟩
        obtain ⟨z, hz⟩ : ∃ y, noneB p = y := ⟨_, rfl⟩
        obtain ⟨y3, hy3⟩ : ∃ y, bad3 l k = y := ⟨_, rfl⟩
        rw [hy1, hy3] at HI
        have HY1 := Lib.hid hy1
        have HZ := Lib.hid hz
        have HY3 := Lib.hid hy3
        clear hy1 hy3 hz HB3
        go_upto_region 7 with (fail)
        have hB1 : Below w.heap.size w (wr.alloc (.cells #[.int .i64 p.sat, .int .i64 p.stn, .int .i64 p.sf, .int .i64 p.su, .int .i64 p.cf, .int .i64 p.cu] 30)) := hBr.alloc hBr.size _
        have kp := Blk.new wr #[.int .i64 p.sat, .int .i64 p.stn, .int .i64 p.sf, .int .i64 p.su, .int .i64 p.cf, .int .i64 p.cu] 30
        generalize hV : wr.alloc (.cells #[.int .i64 p.sat, .int .i64 p.stn, .int .i64 p.sf, .int .i64 p.su, .int .i64 p.cf, .int .i64 p.cu] 30) = V at hB1 kp ⊢
        clear c0 c1 c2 c3 c4 c5 hV
        generalize wr.heap.size = B at kp ⊢
        clear hBr
        have k0 := kp.cell 0
        have k1 := kp.cell 1
        have k2 := kp.cell 2
        have k3 := kp.cell 3
        have k4 := kp.cell 4
        have k5 := kp.cell 5
        have lB : B < V.heap.size := kp.lt
        simp at k0 k1 k2 k3 k4 k5
        clear kp
        go_cut [49] from 9 to 95 (fun u49 wx => u49 = .bool y1 ∧ V = wx)
        case first =>
          cases hn0 : inB p.sat 0 23 with
          | false =>
            have HN0 := Lib.hid hn0
            clear hn0
            go_wp2_with fail
            refine (in68 p.sat 0 23 _).mono ?_
            rw [HN0.out]
            rintro e wq ⟨rfl, rfl⟩
            go_wp2_with fail
            go_meet
            exact ⟨by rw [← HY1.out]; unfold bad1; rw [HN0.out]; rfl, rfl⟩
          | true =>
            cases hn1 : inB p.stn 0 11 with
            | false =>
              have HN0 := Lib.hid hn0
              have HN1 := Lib.hid hn1
              clear hn0 hn1
              go_wp2_with fail
              refine (in68 p.sat 0 23 _).mono ?_
              rw [HN0.out]
              rintro e wq ⟨rfl, rfl⟩
              go_wp2_with fail
              refine (in68 p.stn 0 11 _).mono ?_
              rw [HN1.out]
              rintro e wq ⟨rfl, rfl⟩
              go_wp2_with fail
              go_meet
              exact ⟨by rw [← HY1.out]; unfold bad1; rw [HN0.out, HN1.out]; rfl, rfl⟩
            | true =>
              by_cases hc2 : p.cf < 0
              · skip
                have d2 : decide (p.cf < 0) = true := decide_eq_true (by omega)
                have HN0 := Lib.hid hn0
                have HN1 := Lib.hid hn1
                clear hn0 hn1
                go_wp2_with fail
                refine (in68 p.sat 0 23 _).mono ?_
                rw [HN0.out]
                rintro e wq ⟨rfl, rfl⟩
                go_wp2_with fail
                refine (in68 p.stn 0 11 _).mono ?_
                rw [HN1.out]
                rintro e wq ⟨rfl, rfl⟩
                go_wp2_with fail
                go_meet
                exact ⟨by rw [← HY1.out]; unfold bad1; rw [HN0.out, HN1.out, d2]; rfl, rfl⟩
              · skip
                by_cases hc3 : p.cu ≤ p.cf
                · skip
                  have d2 : decide (p.cf < 0) = false := decide_eq_false (by omega)
                  have d3 : decide (p.cu ≤ p.cf) = true := decide_eq_true (by omega)
                  have HN0 := Lib.hid hn0
                  have HN1 := Lib.hid hn1
                  clear hn0 hn1
                  go_wp2_with fail
                  refine (in68 p.sat 0 23 _).mono ?_
                  rw [HN0.out]
                  rintro e wq ⟨rfl, rfl⟩
                  go_wp2_with fail
                  refine (in68 p.stn 0 11 _).mono ?_
                  rw [HN1.out]
                  rintro e wq ⟨rfl, rfl⟩
                  go_wp2_with fail
                  go_meet
                  exact ⟨by rw [← HY1.out]; unfold bad1; rw [HN0.out, HN1.out, d2, d3]; rfl, rfl⟩
                · skip
                  by_cases hc4 : 1000001 < p.cu
                  · skip
                    have d2 : decide (p.cf < 0) = false := decide_eq_false (by omega)
                    have d3 : decide (p.cu ≤ p.cf) = false := decide_eq_false (by omega)
                    have d4 : decide (1000001 < p.cu) = true := decide_eq_true (by omega)
                    have HN0 := Lib.hid hn0
                    have HN1 := Lib.hid hn1
                    clear hn0 hn1
                    go_wp2_with fail
                    refine (in68 p.sat 0 23 _).mono ?_
                    rw [HN0.out]
                    rintro e wq ⟨rfl, rfl⟩
                    go_wp2_with fail
                    refine (in68 p.stn 0 11 _).mono ?_
                    rw [HN1.out]
                    rintro e wq ⟨rfl, rfl⟩
                    go_wp2_with fail
                    go_meet
                    exact ⟨by rw [← HY1.out]; unfold bad1; rw [HN0.out, HN1.out, d2, d3, d4]; rfl, rfl⟩
                  · skip
                    have d2 : decide (p.cf < 0) = false := decide_eq_false (by omega)
                    have d3 : decide (p.cu ≤ p.cf) = false := decide_eq_false (by omega)
                    have d4 : decide (1000001 < p.cu) = false := decide_eq_false (by omega)
                    have HN0 := Lib.hid hn0
                    have HN1 := Lib.hid hn1
                    clear hn0 hn1
                    go_wp2_with fail
                    refine (in68 p.sat 0 23 _).mono ?_
                    rw [HN0.out]
                    rintro e wq ⟨rfl, rfl⟩
                    go_wp2_with fail
                    refine (in68 p.stn 0 11 _).mono ?_
                    rw [HN1.out]
                    rintro e wq ⟨rfl, rfl⟩
                    go_wp2_with fail
                    go_meet
                    exact ⟨by rw [← HY1.out]; unfold bad1; rw [HN0.out, HN1.out, d2, d3, d4]; rfl, rfl⟩
        case rest =>
          rename World => wx
          obtain ⟨rfl, hw⟩ := hcut
          subst hw
          cases y1 with
          | true =>
            have HR := Lib.hid (HN.out fun h => by have := (HI.out.1 h).1; cases this)
            go_wp2_with fail
            go_ret
            exact ⟨by rw [HR.out]; rfl, hB1⟩
          | false =>
            go_upto_region 9 with (fail)
            go_cut [5] from 9 to 95 (fun u5 wx => u5 = .bool z ∧ V = wx)
            case first =>
              go_wp2_with fail
              all_goals
                go_meet
                exact ⟨by rw [← HZ.out]; unfold noneB; simp_all, rfl⟩
            case rest =>
              rename World => wx
              obtain ⟨rfl, hw⟩ := hcut
              subst hw
              go_upto_region 10 with (fail)
              go_cut [95] from 9 to 95 (fun u95 wx => u95 = .bool y3 ∧ Below V.heap.size V wx)
              case first =>
                cases z with
                | true =>
                  have hb2 : bad2 p = false := by unfold bad2; rw [HZ.out]; rfl
                  have HB2 := Lib.hid hb2
                  clear hb2
                  by_cases hk0 : 0 < k
                  · obtain ⟨m, hkm⟩ : ∃ m, k = m + 1 := ⟨k - 1, by omega⟩
                    have hw1 : IntKind.i64.wrap ((k : Int) - 1) = (m : Int) := by rw [IntKind.wrap_i64]; omega
                    have i2 : (0 : Int) ≤ (m : Int) ∧ (m : Int) < (l.length : Int) := by omega
                    have i3 : decide ((0 : Int) < (k : Int)) = true := decide_eq_true (by omega)
                    obtain ⟨b', off', e2, d0, d1, d2, d3, d4, d5⟩ := (PassesAt.later HV.out hB1).get (getD_some noPass (show m < l.length by omega))
                    cases e2
                    have lb : b < V.heap.size := World.block_lt_of_cell? _ _ d0
                    have HX := Lib.hid (before69 p (l.getD m noPass))
                    generalize hq : l.getD m noPass = q at d0 d1 d2 d3 d4 d5 HX
                    have HQ := Lib.hid hq
                    have HKM := Lib.hid hkm
                    obtain ⟨y, hy⟩ : ∃ y, L18.beforeB p q = y := ⟨_, rfl⟩
                    rw [hy] at HX
                    have HY := Lib.hid hy
                    clear hq hkm hy
                    have HC := Lib.hid (fun W (hW : Below V.heap.size V W) => show W.cell? ⟨B, 0, none⟩ = some (.int .i64 p.sat) ∧ W.cell? ⟨B, 1, none⟩ = some (.int .i64 p.stn) ∧ W.cell? ⟨B, 2, none⟩ = some (.int .i64 p.sf) ∧ W.cell? ⟨B, 3, none⟩ = some (.int .i64 p.su) ∧ W.cell? ⟨B, 4, none⟩ = some (.int .i64 p.cf) ∧ W.cell? ⟨B, 5, none⟩ = some (.int .i64 p.cu) ∧ W.cell? ⟨b, off + m * 6, none⟩ = some (.int .i64 q.sat) ∧ W.cell? ⟨b, off + m * 6 + 1, none⟩ = some (.int .i64 q.stn) ∧ W.cell? ⟨b, off + m * 6 + 2, none⟩ = some (.int .i64 q.sf) ∧ W.cell? ⟨b, off + m * 6 + 3, none⟩ = some (.int .i64 q.su) ∧ W.cell? ⟨b, off + m * 6 + 4, none⟩ = some (.int .i64 q.cf) ∧ W.cell? ⟨b, off + m * 6 + 5, none⟩ = some (.int .i64 q.cu) from ⟨(hW.cell (p := ⟨B, 0, none⟩) lB).trans k0, (hW.cell (p := ⟨B, 1, none⟩) lB).trans k1, (hW.cell (p := ⟨B, 2, none⟩) lB).trans k2, (hW.cell (p := ⟨B, 3, none⟩) lB).trans k3, (hW.cell (p := ⟨B, 4, none⟩) lB).trans k4, (hW.cell (p := ⟨B, 5, none⟩) lB).trans k5, (hW.cell (p := ⟨b, off + m * 6, none⟩) lb).trans d0, (hW.cell (p := ⟨b, off + m * 6 + 1, none⟩) lb).trans d1, (hW.cell (p := ⟨b, off + m * 6 + 2, none⟩) lb).trans d2, (hW.cell (p := ⟨b, off + m * 6 + 3, none⟩) lb).trans d3, (hW.cell (p := ⟨b, off + m * 6 + 4, none⟩) lb).trans d4, (hW.cell (p := ⟨b, off + m * 6 + 5, none⟩) lb).trans d5⟩)
                    refine wp_region_noPanic ?_
                    refine wp_region_held_drew (S := (fun w' => Below V.heap.size V w' ∧ w'.cell? ⟨B, 0, none⟩ = some (.int .i64 p.sat) ∧ w'.cell? ⟨B, 1, none⟩ = some (.int .i64 p.stn) ∧ w'.cell? ⟨B, 2, none⟩ = some (.int .i64 p.sf) ∧ w'.cell? ⟨B, 3, none⟩ = some (.int .i64 p.su) ∧ w'.cell? ⟨B, 4, none⟩ = some (.int .i64 p.cf) ∧ w'.cell? ⟨B, 5, none⟩ = some (.int .i64 p.cu) ∧ w'.cell? ⟨b, off + m * 6, none⟩ = some (.int .i64 q.sat) ∧ w'.cell? ⟨b, off + m * 6 + 1, none⟩ = some (.int .i64 q.stn) ∧ w'.cell? ⟨b, off + m * 6 + 2, none⟩ = some (.int .i64 q.sf) ∧ w'.cell? ⟨b, off + m * 6 + 3, none⟩ = some (.int .i64 q.su) ∧ w'.cell? ⟨b, off + m * 6 + 4, none⟩ = some (.int .i64 q.cf) ∧ w'.cell? ⟨b, off + m * 6 + 5, none⟩ = some (.int .i64 q.cu))) (by kernel_rfl) ⟨(Below.refl _ _).drew, HC.out _ (Below.refl _ _).drew⟩ (fun hHeld => ?_)
                    refine wpAnyH_take (i := 0) (oi := { dst := some 54, op := Op.move (Operand.tmp 5), type := 4, pos := "ref.go:174", after := #[], guard := none }) (v := ?_) rfl (by kernel_rfl) (by kernel_rfl) (by kernel_rfl) (fun _ _ _ h => h) (Or.inl ⟨by kernel_rfl, ?_⟩) (by assumption) ?_
                    rotate_left
                    · intro w hSw
                      (try dsimp only at hSw)
                      go_simp
                      all_goals (with_reducible rfl)
                    (try simp only [Act.put, List.setIfInBounds_toArray, List.set_cons_zero, List.set_cons_succ])
                    refine wpAnyH_take (i := 1) (oi := { dst := some 55, op := Op.unOp UnOp.not 4 (Operand.tmp 54), type := 4, pos := "ref.go:174", after := #[{ on := 0, ground := Ground.data }], guard := none }) (v := ?_) rfl (by kernel_rfl) (by kernel_rfl) (by kernel_rfl) (fun _ _ _ h => h) (Or.inl ⟨by kernel_rfl, ?_⟩) (by assumption) ?_
                    rotate_left
                    · intro w hSw
                      (try dsimp only at hSw)
                      go_simp
                      all_goals (with_reducible rfl)
                    (try simp only [Act.put, List.setIfInBounds_toArray, List.set_cons_zero, List.set_cons_succ])
                    refine wpAnyH_take (i := 2) (oi := { dst := some 56, op := Op.move (Operand.tmp 55), type := 4, pos := "ref.go:174", after := #[{ on := 1, ground := Ground.data }], guard := none }) (v := ?_) rfl (by kernel_rfl) (by kernel_rfl) (by kernel_rfl) (fun _ _ _ h => h) (Or.inl ⟨by kernel_rfl, ?_⟩) (by assumption) ?_
                    rotate_left
                    · intro w hSw
                      (try dsimp only at hSw)
                      go_simp
                      all_goals (with_reducible rfl)
                    (try simp only [Act.put, List.setIfInBounds_toArray, List.set_cons_zero, List.set_cons_succ])
                    refine wpAnyH_take (i := 3) (oi := { dst := some 57, op := Op.fieldAddr 30 (Operand.tmp 4) 2, type := 0, pos := "ref.go:174", after := #[{ on := 2, ground := Ground.guard }], guard := some (2, true) }) (v := undef) rfl (by kernel_rfl) (by kernel_rfl) (by kernel_rfl) (fun _ _ _ h => h) (Or.inr ⟨by kernel_rfl, rfl⟩) (by assumption) ?_
                    (try simp only [Act.put, List.setIfInBounds_toArray, List.set_cons_zero, List.set_cons_succ])
                    refine wpAnyH_take (i := 4) (oi := { dst := some 58, op := Op.fieldAddr 25 (Operand.tmp 57) 0, type := 0, pos := "ref.go:174", after := #[{ on := 3, ground := Ground.data }, { on := 2, ground := Ground.guard }], guard := some (2, true) }) (v := undef) rfl (by kernel_rfl) (by kernel_rfl) (by kernel_rfl) (fun _ _ _ h => h) (Or.inr ⟨by kernel_rfl, rfl⟩) (by assumption) ?_
                    (try simp only [Act.put, List.setIfInBounds_toArray, List.set_cons_zero, List.set_cons_succ])
                    refine wpAnyH_take (i := 5) (oi := { dst := some 59, op := Op.load 3 (Operand.tmp 58), type := 3, pos := "ref.go:174", after := #[{ on := 4, ground := Ground.data }, { on := 2, ground := Ground.guard }], guard := some (2, true) }) (v := undef) rfl (by kernel_rfl) (by kernel_rfl) (by kernel_rfl) (fun _ _ _ h => h) (Or.inr ⟨by kernel_rfl, rfl⟩) (by assumption) ?_
                    (try simp only [Act.put, List.setIfInBounds_toArray, List.set_cons_zero, List.set_cons_succ])
                    refine wpAnyH_take (i := 6) (oi := { dst := some 60, op := Op.fieldAddr 30 (Operand.tmp 4) 3, type := 0, pos := "ref.go:174", after := #[{ on := 2, ground := Ground.guard }], guard := some (2, true) }) (v := undef) rfl (by kernel_rfl) (by kernel_rfl) (by kernel_rfl) (fun _ _ _ h => h) (Or.inr ⟨by kernel_rfl, rfl⟩) (by assumption) ?_
                    (try simp only [Act.put, List.setIfInBounds_toArray, List.set_cons_zero, List.set_cons_succ])
                    refine wpAnyH_take (i := 7) (oi := { dst := some 61, op := Op.fieldAddr 25 (Operand.tmp 60) 0, type := 0, pos := "ref.go:174", after := #[{ on := 6, ground := Ground.data }, { on := 2, ground := Ground.guard }], guard := some (2, true) }) (v := undef) rfl (by kernel_rfl) (by kernel_rfl) (by kernel_rfl) (fun _ _ _ h => h) (Or.inr ⟨by kernel_rfl, rfl⟩) (by assumption) ?_
                    (try simp only [Act.put, List.setIfInBounds_toArray, List.set_cons_zero, List.set_cons_succ])
                    refine wpAnyH_take (i := 8) (oi := { dst := some 62, op := Op.load 3 (Operand.tmp 61), type := 3, pos := "ref.go:174", after := #[{ on := 7, ground := Ground.data }, { on := 2, ground := Ground.guard }], guard := some (2, true) }) (v := undef) rfl (by kernel_rfl) (by kernel_rfl) (by kernel_rfl) (fun _ _ _ h => h) (Or.inr ⟨by kernel_rfl, rfl⟩) (by assumption) ?_
                    (try simp only [Act.put, List.setIfInBounds_toArray, List.set_cons_zero, List.set_cons_succ])
                    refine wpAnyH_take (i := 9) (oi := { dst := some 63, op := Op.binOp BinOp.lss 3 (Operand.tmp 59) (Operand.tmp 62) 3, type := 4, pos := "ref.go:174", after := #[{ on := 5, ground := Ground.data }, { on := 8, ground := Ground.data }, { on := 2, ground := Ground.guard }], guard := some (2, true) }) (v := undef) rfl (by kernel_rfl) (by kernel_rfl) (by kernel_rfl) (fun _ _ _ h => h) (Or.inr ⟨by kernel_rfl, rfl⟩) (by assumption) ?_
                    (try simp only [Act.put, List.setIfInBounds_toArray, List.set_cons_zero, List.set_cons_succ])
                    refine wpAnyH_take (i := 10) (oi := { dst := some 64, op := Op.move (Operand.tmp 63), type := 4, pos := "ref.go:174", after := #[{ on := 9, ground := Ground.data }, { on := 2, ground := Ground.chain }, { on := 2, ground := Ground.guard }], guard := some (2, true) }) (v := undef) rfl (by kernel_rfl) (by kernel_rfl) (by kernel_rfl) (fun _ _ _ h => h) (Or.inr ⟨by kernel_rfl, rfl⟩) (by assumption) ?_
                    (try simp only [Act.put, List.setIfInBounds_toArray, List.set_cons_zero, List.set_cons_succ])
                    refine wpAnyH_take (i := 11) (oi := { dst := some 65, op := Op.fieldAddr 30 (Operand.tmp 4) 2, type := 0, pos := "ref.go:174", after := #[{ on := 10, ground := Ground.guard }], guard := some (10, false) }) (v := undef) rfl (by kernel_rfl) (by kernel_rfl) (by kernel_rfl) (fun _ _ _ h => h) (Or.inr ⟨by kernel_rfl, rfl⟩) (by assumption) ?_
                    (try simp only [Act.put, List.setIfInBounds_toArray, List.set_cons_zero, List.set_cons_succ])
                    refine wpAnyH_take (i := 12) (oi := { dst := some 66, op := Op.fieldAddr 25 (Operand.tmp 65) 0, type := 0, pos := "ref.go:174", after := #[{ on := 11, ground := Ground.data }, { on := 10, ground := Ground.guard }], guard := some (10, false) }) (v := undef) rfl (by kernel_rfl) (by kernel_rfl) (by kernel_rfl) (fun _ _ _ h => h) (Or.inr ⟨by kernel_rfl, rfl⟩) (by assumption) ?_
                    (try simp only [Act.put, List.setIfInBounds_toArray, List.set_cons_zero, List.set_cons_succ])
                    refine wpAnyH_take (i := 13) (oi := { dst := some 67, op := Op.load 3 (Operand.tmp 66), type := 3, pos := "ref.go:174", after := #[{ on := 12, ground := Ground.data }, { on := 10, ground := Ground.guard }], guard := some (10, false) }) (v := undef) rfl (by kernel_rfl) (by kernel_rfl) (by kernel_rfl) (fun _ _ _ h => h) (Or.inr ⟨by kernel_rfl, rfl⟩) (by assumption) ?_
                    (try simp only [Act.put, List.setIfInBounds_toArray, List.set_cons_zero, List.set_cons_succ])
                    refine wpAnyH_take (i := 14) (oi := { dst := some 68, op := Op.fieldAddr 30 (Operand.tmp 4) 2, type := 0, pos := "ref.go:174", after := #[{ on := 10, ground := Ground.guard }], guard := some (10, false) }) (v := undef) rfl (by kernel_rfl) (by kernel_rfl) (by kernel_rfl) (fun _ _ _ h => h) (Or.inr ⟨by kernel_rfl, rfl⟩) (by assumption) ?_
                    (try simp only [Act.put, List.setIfInBounds_toArray, List.set_cons_zero, List.set_cons_succ])
                    refine wpAnyH_take (i := 15) (oi := { dst := some 69, op := Op.fieldAddr 25 (Operand.tmp 68) 1, type := 0, pos := "ref.go:174", after := #[{ on := 14, ground := Ground.data }, { on := 10, ground := Ground.guard }], guard := some (10, false) }) (v := undef) rfl (by kernel_rfl) (by kernel_rfl) (by kernel_rfl) (fun _ _ _ h => h) (Or.inr ⟨by kernel_rfl, rfl⟩) (by assumption) ?_
                    (try simp only [Act.put, List.setIfInBounds_toArray, List.set_cons_zero, List.set_cons_succ])
                    refine wpAnyH_take (i := 16) (oi := { dst := some 70, op := Op.load 3 (Operand.tmp 69), type := 3, pos := "ref.go:174", after := #[{ on := 15, ground := Ground.data }, { on := 10, ground := Ground.guard }], guard := some (10, false) }) (v := undef) rfl (by kernel_rfl) (by kernel_rfl) (by kernel_rfl) (fun _ _ _ h => h) (Or.inr ⟨by kernel_rfl, rfl⟩) (by assumption) ?_
                    (try simp only [Act.put, List.setIfInBounds_toArray, List.set_cons_zero, List.set_cons_succ])
                    refine wpAnyH_take (i := 17) (oi := { dst := some 71, op := Op.binOp BinOp.geq 3 (Operand.tmp 67) (Operand.tmp 70) 3, type := 4, pos := "ref.go:174", after := #[{ on := 13, ground := Ground.data }, { on := 16, ground := Ground.data }, { on := 10, ground := Ground.guard }], guard := some (10, false) }) (v := undef) rfl (by kernel_rfl) (by kernel_rfl) (by kernel_rfl) (fun _ _ _ h => h) (Or.inr ⟨by kernel_rfl, rfl⟩) (by assumption) ?_
                    (try simp only [Act.put, List.setIfInBounds_toArray, List.set_cons_zero, List.set_cons_succ])
                    refine wpAnyH_take (i := 18) (oi := { dst := some 72, op := Op.pick (Operand.tmp 64) (Operand.const (Value.bool true)) (Operand.tmp 71), type := 4, pos := "ref.go:174", after := #[{ on := 10, ground := Ground.data }, { on := 17, ground := Ground.data }, { on := 2, ground := Ground.guard }], guard := some (2, true) }) (v := undef) rfl (by kernel_rfl) (by kernel_rfl) (by kernel_rfl) (fun _ _ _ h => h) (Or.inr ⟨by kernel_rfl, rfl⟩) (by assumption) ?_
                    (try simp only [Act.put, List.setIfInBounds_toArray, List.set_cons_zero, List.set_cons_succ])
                    refine wpAnyH_take (i := 19) (oi := { dst := some 73, op := Op.move (Operand.tmp 72), type := 4, pos := "ref.go:174", after := #[{ on := 18, ground := Ground.data }, { on := 10, ground := Ground.chain }, { on := 2, ground := Ground.guard }], guard := some (2, true) }) (v := undef) rfl (by kernel_rfl) (by kernel_rfl) (by kernel_rfl) (fun _ _ _ h => h) (Or.inr ⟨by kernel_rfl, rfl⟩) (by assumption) ?_
                    (try simp only [Act.put, List.setIfInBounds_toArray, List.set_cons_zero, List.set_cons_succ])
                    refine wpAnyH_take (i := 20) (oi := { dst := some 74, op := Op.fieldAddr 30 (Operand.tmp 4) 2, type := 0, pos := "ref.go:174", after := #[{ on := 19, ground := Ground.guard }], guard := some (19, false) }) (v := undef) rfl (by kernel_rfl) (by kernel_rfl) (by kernel_rfl) (fun _ _ _ h => h) (Or.inr ⟨by kernel_rfl, rfl⟩) (by assumption) ?_
                    (try simp only [Act.put, List.setIfInBounds_toArray, List.set_cons_zero, List.set_cons_succ])
                    refine wpAnyH_take (i := 21) (oi := { dst := some 75, op := Op.fieldAddr 25 (Operand.tmp 74) 1, type := 0, pos := "ref.go:174", after := #[{ on := 20, ground := Ground.data }, { on := 19, ground := Ground.guard }], guard := some (19, false) }) (v := undef) rfl (by kernel_rfl) (by kernel_rfl) (by kernel_rfl) (fun _ _ _ h => h) (Or.inr ⟨by kernel_rfl, rfl⟩) (by assumption) ?_
                    (try simp only [Act.put, List.setIfInBounds_toArray, List.set_cons_zero, List.set_cons_succ])
                    refine wpAnyH_take (i := 22) (oi := { dst := some 76, op := Op.load 3 (Operand.tmp 75), type := 3, pos := "ref.go:174", after := #[{ on := 21, ground := Ground.data }, { on := 19, ground := Ground.guard }], guard := some (19, false) }) (v := undef) rfl (by kernel_rfl) (by kernel_rfl) (by kernel_rfl) (fun _ _ _ h => h) (Or.inr ⟨by kernel_rfl, rfl⟩) (by assumption) ?_
                    (try simp only [Act.put, List.setIfInBounds_toArray, List.set_cons_zero, List.set_cons_succ])
                    refine wpAnyH_take (i := 23) (oi := { dst := some 77, op := Op.fieldAddr 30 (Operand.tmp 4) 3, type := 0, pos := "ref.go:174", after := #[{ on := 19, ground := Ground.guard }], guard := some (19, false) }) (v := undef) rfl (by kernel_rfl) (by kernel_rfl) (by kernel_rfl) (fun _ _ _ h => h) (Or.inr ⟨by kernel_rfl, rfl⟩) (by assumption) ?_
                    (try simp only [Act.put, List.setIfInBounds_toArray, List.set_cons_zero, List.set_cons_succ])
                    refine wpAnyH_take (i := 24) (oi := { dst := some 78, op := Op.fieldAddr 25 (Operand.tmp 77) 1, type := 0, pos := "ref.go:174", after := #[{ on := 23, ground := Ground.data }, { on := 19, ground := Ground.guard }], guard := some (19, false) }) (v := undef) rfl (by kernel_rfl) (by kernel_rfl) (by kernel_rfl) (fun _ _ _ h => h) (Or.inr ⟨by kernel_rfl, rfl⟩) (by assumption) ?_
                    (try simp only [Act.put, List.setIfInBounds_toArray, List.set_cons_zero, List.set_cons_succ])
                    refine wpAnyH_take (i := 25) (oi := { dst := some 79, op := Op.load 3 (Operand.tmp 78), type := 3, pos := "ref.go:174", after := #[{ on := 24, ground := Ground.data }, { on := 19, ground := Ground.guard }], guard := some (19, false) }) (v := undef) rfl (by kernel_rfl) (by kernel_rfl) (by kernel_rfl) (fun _ _ _ h => h) (Or.inr ⟨by kernel_rfl, rfl⟩) (by assumption) ?_
                    (try simp only [Act.put, List.setIfInBounds_toArray, List.set_cons_zero, List.set_cons_succ])
                    refine wpAnyH_take (i := 26) (oi := { dst := some 80, op := Op.binOp BinOp.gtr 3 (Operand.tmp 76) (Operand.tmp 79) 3, type := 4, pos := "ref.go:174", after := #[{ on := 22, ground := Ground.data }, { on := 25, ground := Ground.data }, { on := 19, ground := Ground.guard }], guard := some (19, false) }) (v := undef) rfl (by kernel_rfl) (by kernel_rfl) (by kernel_rfl) (fun _ _ _ h => h) (Or.inr ⟨by kernel_rfl, rfl⟩) (by assumption) ?_
                    (try simp only [Act.put, List.setIfInBounds_toArray, List.set_cons_zero, List.set_cons_succ])
                    refine wpAnyH_take (i := 27) (oi := { dst := some 81, op := Op.pick (Operand.tmp 73) (Operand.const (Value.bool true)) (Operand.tmp 80), type := 4, pos := "ref.go:174", after := #[{ on := 19, ground := Ground.data }, { on := 26, ground := Ground.data }, { on := 2, ground := Ground.guard }], guard := some (2, true) }) (v := undef) rfl (by kernel_rfl) (by kernel_rfl) (by kernel_rfl) (fun _ _ _ h => h) (Or.inr ⟨by kernel_rfl, rfl⟩) (by assumption) ?_
                    (try simp only [Act.put, List.setIfInBounds_toArray, List.set_cons_zero, List.set_cons_succ])
                    refine wpAnyH_take (i := 28) (oi := { dst := some 82, op := Op.pick (Operand.tmp 56) (Operand.tmp 81) (Operand.const (Value.bool false)), type := 4, pos := "ref.go:174", after := #[{ on := 2, ground := Ground.data }, { on := 27, ground := Ground.data }], guard := none }) (v := ?_) rfl (by kernel_rfl) (by kernel_rfl) (by kernel_rfl) (fun _ _ _ h => h) (Or.inl ⟨by kernel_rfl, ?_⟩) (by assumption) ?_
                    rotate_left
                    · intro w hSw
                      (try dsimp only at hSw)
                      go_simp
                      all_goals (with_reducible rfl)
                    (try simp only [Act.put, List.setIfInBounds_toArray, List.set_cons_zero, List.set_cons_succ])
                    refine wpAnyH_take (i := 29) (oi := { dst := some 83, op := Op.move (Operand.tmp 82), type := 4, pos := "ref.go:174", after := #[{ on := 28, ground := Ground.data }, { on := 19, ground := Ground.chain }], guard := none }) (v := ?_) rfl (by kernel_rfl) (by kernel_rfl) (by kernel_rfl) (fun _ _ _ h => h) (Or.inl ⟨by kernel_rfl, ?_⟩) (by assumption) ?_
                    rotate_left
                    · intro w hSw
                      (try dsimp only at hSw)
                      go_simp
                      all_goals (with_reducible rfl)
                    (try simp only [Act.put, List.setIfInBounds_toArray, List.set_cons_zero, List.set_cons_succ])
                    refine wpAnyH_take (i := 30) (oi := { dst := some 84, op := Op.move (Operand.tmp 3), type := 3, pos := "ref.go:174", after := #[{ on := 29, ground := Ground.guard }], guard := some (29, false) }) (v := ?_) rfl (by kernel_rfl) (by kernel_rfl) (by kernel_rfl) (fun _ _ _ h => h) (Or.inl ⟨by kernel_rfl, ?_⟩) (by assumption) ?_
                    rotate_left
                    · intro w hSw
                      (try dsimp only at hSw)
                      go_simp
                      all_goals (with_reducible rfl)
                    (try simp only [Act.put, List.setIfInBounds_toArray, List.set_cons_zero, List.set_cons_succ])
                    refine wpAnyH_take (i := 31) (oi := { dst := some 85, op := Op.binOp BinOp.gtr 3 (Operand.tmp 84) (Operand.const (Value.int IntKind.i64 0)) 3, type := 4, pos := "ref.go:174", after := #[{ on := 30, ground := Ground.data }, { on := 29, ground := Ground.guard }], guard := some (29, false) }) (v := ?_) rfl (by kernel_rfl) (by kernel_rfl) (by kernel_rfl) (fun _ _ _ h => h) (Or.inl ⟨by kernel_rfl, ?_⟩) (by assumption) ?_
                    rotate_left
                    · intro w hSw
                      (try dsimp only at hSw)
                      go_simp
                      all_goals (with_reducible rfl)
                    (try simp only [Act.put, List.setIfInBounds_toArray, List.set_cons_zero, List.set_cons_succ])
                    refine wpAnyH_take (i := 32) (oi := { dst := some 86, op := Op.move (Operand.tmp 85), type := 4, pos := "ref.go:174", after := #[{ on := 31, ground := Ground.data }, { on := 29, ground := Ground.chain }, { on := 29, ground := Ground.guard }], guard := some (29, false) }) (v := ?_) rfl (by kernel_rfl) (by kernel_rfl) (by kernel_rfl) (fun _ _ _ h => h) (Or.inl ⟨by kernel_rfl, ?_⟩) (by assumption) ?_
                    rotate_left
                    · intro w hSw
                      (try dsimp only at hSw)
                      go_simp
                      all_goals (with_reducible rfl)
                    (try simp only [Act.put, List.setIfInBounds_toArray, List.set_cons_zero, List.set_cons_succ])
                    refine wpAnyH_take (i := 33) (oi := { dst := some 87, op := Op.load 30 (Operand.tmp 4), type := 30, pos := "ref.go:174", after := #[{ on := 32, ground := Ground.guard }], guard := some (32, true) }) (v := ?_) rfl (by kernel_rfl) (by kernel_rfl) (by kernel_rfl) (fun _ _ _ h => h) (Or.inl ⟨by kernel_rfl, ?_⟩) (by assumption) ?_
                    rotate_left
                    · intro w hSw
                      (try dsimp only at hSw)
                      go_simp
                      all_goals (with_reducible rfl)
                    (try simp only [Act.put, List.setIfInBounds_toArray, List.set_cons_zero, List.set_cons_succ])
                    refine wpAnyH_take (i := 34) (oi := { dst := some 88, op := Op.move (Operand.tmp 0), type := 32, pos := "ref.go:174", after := #[{ on := 32, ground := Ground.guard }], guard := some (32, true) }) (v := ?_) rfl (by kernel_rfl) (by kernel_rfl) (by kernel_rfl) (fun _ _ _ h => h) (Or.inl ⟨by kernel_rfl, ?_⟩) (by assumption) ?_
                    rotate_left
                    · intro w hSw
                      (try dsimp only at hSw)
                      go_simp
                      all_goals (with_reducible rfl)
                    (try simp only [Act.put, List.setIfInBounds_toArray, List.set_cons_zero, List.set_cons_succ])
                    refine wpAnyH_take (i := 35) (oi := { dst := some 89, op := Op.move (Operand.tmp 3), type := 3, pos := "ref.go:174", after := #[{ on := 32, ground := Ground.guard }], guard := some (32, true) }) (v := ?_) rfl (by kernel_rfl) (by kernel_rfl) (by kernel_rfl) (fun _ _ _ h => h) (Or.inl ⟨by kernel_rfl, ?_⟩) (by assumption) ?_
                    rotate_left
                    · intro w hSw
                      (try dsimp only at hSw)
                      go_simp
                      all_goals (with_reducible rfl)
                    (try simp only [Act.put, List.setIfInBounds_toArray, List.set_cons_zero, List.set_cons_succ])
                    refine wpAnyH_take (i := 36) (oi := { dst := some 90, op := Op.binOp BinOp.sub 3 (Operand.tmp 89) (Operand.const (Value.int IntKind.i64 1)) 3, type := 3, pos := "ref.go:174", after := #[{ on := 35, ground := Ground.data }, { on := 32, ground := Ground.guard }], guard := some (32, true) }) (v := ?_) rfl (by kernel_rfl) (by kernel_rfl) (by kernel_rfl) (fun _ _ _ h => h) (Or.inl ⟨by kernel_rfl, ?_⟩) (by assumption) ?_
                    rotate_left
                    · intro w hSw
                      (try dsimp only at hSw)
                      go_simp
                      all_goals (with_reducible rfl)
                    (try simp only [Act.put, List.setIfInBounds_toArray, List.set_cons_zero, List.set_cons_succ])
                    refine wpAnyH_take (i := 37) (oi := { dst := some 91, op := Op.indexAddr 32 (Operand.tmp 88) (Operand.tmp 90), type := 0, pos := "ref.go:174", after := #[{ on := 34, ground := Ground.data }, { on := 36, ground := Ground.data }, { on := 32, ground := Ground.guard }], guard := some (32, true) }) (v := ?_) rfl (by kernel_rfl) (by kernel_rfl) (by kernel_rfl) (fun _ _ _ h => h) (Or.inl ⟨by kernel_rfl, ?_⟩) (by assumption) ?_
                    rotate_left
                    · intro w hSw
                      (try dsimp only at hSw)
                      go_simp
                      all_goals (with_reducible rfl)
                    (try simp only [Act.put, List.setIfInBounds_toArray, List.set_cons_zero, List.set_cons_succ])
                    refine wpAnyH_take (i := 38) (oi := { dst := some 92, op := Op.load 30 (Operand.tmp 91), type := 30, pos := "ref.go:174", after := #[{ on := 37, ground := Ground.data }, { on := 32, ground := Ground.guard }], guard := some (32, true) }) (v := ?_) rfl (by kernel_rfl) (by kernel_rfl) (by kernel_rfl) (fun _ _ _ h => h) (Or.inl ⟨by kernel_rfl, ?_⟩) (by assumption) ?_
                    rotate_left
                    · intro w hSw
                      (try dsimp only at hSw)
                      go_simp
                      all_goals (with_reducible rfl)
                    (try simp only [Act.put, List.setIfInBounds_toArray, List.set_cons_zero, List.set_cons_succ])
                    refine wpAnyH_one1 (i := 39) (o := { dst := some 93, op := Op.call { callee := Callee.value (Operand.func 69), args := #[Operand.tmp 87, Operand.tmp 92], argTypes := #[30, 30] }, type := 4, pos := "ref.go:174", after := #[{ on := 33, ground := Ground.data }, { on := 38, ground := Ground.data }, { on := 32, ground := Ground.chain }, { on := 32, ground := Ground.guard }], guard := some (32, true) }) (by kernel_rfl) rfl (fun K hK => ?_)
                    go_simp
                    go_at_call 69
                    refine (HX.out _).mono ?_
                    rintro e wq ⟨rfl, hBq⟩
                    have hbq := hHeld.1.trans (hBq.mono hHeld.1.size)
                    refine hK.out _ _ ?_ (fun hHeld2 => ?_)
                    · exact ⟨hbq, HC.out _ hbq⟩
                    clear hHeld
                    have hHeld := hHeld2
                    clear hHeld2
                    clear hK K
                    (try simp only [Act.put, List.setIfInBounds_toArray, List.set_cons_zero, List.set_cons_succ])
                    refine wpAnyH_take (i := 40) (oi := { dst := some 94, op := Op.pick (Operand.tmp 86) (Operand.tmp 93) (Operand.const (Value.bool false)), type := 4, pos := "ref.go:174", after := #[{ on := 32, ground := Ground.data }, { on := 39, ground := Ground.data }, { on := 29, ground := Ground.guard }], guard := some (29, false) }) (v := ?_) rfl (by kernel_rfl) (by kernel_rfl) (by kernel_rfl) (fun _ _ _ h => h) (Or.inl ⟨by kernel_rfl, ?_⟩) (by assumption) ?_
                    rotate_left
                    · intro w hSw
                      (try dsimp only at hSw)
                      go_simp
                      all_goals (with_reducible rfl)
                    (try simp only [Act.put, List.setIfInBounds_toArray, List.set_cons_zero, List.set_cons_succ])
                    refine wpAnyH_take (i := 41) (oi := { dst := some 95, op := Op.pick (Operand.tmp 83) (Operand.const (Value.bool true)) (Operand.tmp 94), type := 4, pos := "ref.go:174", after := #[{ on := 29, ground := Ground.data }, { on := 40, ground := Ground.data }], guard := none }) (v := ?_) rfl (by kernel_rfl) (by kernel_rfl) (by kernel_rfl) (fun _ _ _ h => h) (Or.inl ⟨by kernel_rfl, ?_⟩) (by assumption) ?_
                    rotate_left
                    · intro w hSw
                      (try dsimp only at hSw)
                      go_simp
                      all_goals (with_reducible rfl)
                    (try simp only [Act.put, List.setIfInBounds_toArray, List.set_cons_zero, List.set_cons_succ])
                    refine wpAnyH_done (by kernel_rfl) ?_ _
                    refine NoPanic.normal ?_
                    have hX := hHeld.1
                    clear hHeld
                    go_wp2_with fail
                    go_meet
                    exact ⟨by rw [← HY3.out]; unfold bad3; rw [HPE.out, show k - 1 = m by have := HKM.out; omega, HQ.out, HY.out, HB2.out, decide_eq_true hk0]; simp, hX⟩
                  · obtain rfl : k = 0 := by omega
                    clear hk0
                    have HC := Lib.hid (fun W (hW : Below V.heap.size V W) => show W.cell? ⟨B, 0, none⟩ = some (.int .i64 p.sat) ∧ W.cell? ⟨B, 1, none⟩ = some (.int .i64 p.stn) ∧ W.cell? ⟨B, 2, none⟩ = some (.int .i64 p.sf) ∧ W.cell? ⟨B, 3, none⟩ = some (.int .i64 p.su) ∧ W.cell? ⟨B, 4, none⟩ = some (.int .i64 p.cf) ∧ W.cell? ⟨B, 5, none⟩ = some (.int .i64 p.cu) from ⟨(hW.cell (p := ⟨B, 0, none⟩) lB).trans k0, (hW.cell (p := ⟨B, 1, none⟩) lB).trans k1, (hW.cell (p := ⟨B, 2, none⟩) lB).trans k2, (hW.cell (p := ⟨B, 3, none⟩) lB).trans k3, (hW.cell (p := ⟨B, 4, none⟩) lB).trans k4, (hW.cell (p := ⟨B, 5, none⟩) lB).trans k5⟩)
                    refine wp_region_noPanic ?_
                    refine wp_region_held_drew (S := (fun w' => Below V.heap.size V w' ∧ w'.cell? ⟨B, 0, none⟩ = some (.int .i64 p.sat) ∧ w'.cell? ⟨B, 1, none⟩ = some (.int .i64 p.stn) ∧ w'.cell? ⟨B, 2, none⟩ = some (.int .i64 p.sf) ∧ w'.cell? ⟨B, 3, none⟩ = some (.int .i64 p.su) ∧ w'.cell? ⟨B, 4, none⟩ = some (.int .i64 p.cf) ∧ w'.cell? ⟨B, 5, none⟩ = some (.int .i64 p.cu))) (by kernel_rfl) ⟨(Below.refl _ _).drew, HC.out _ (Below.refl _ _).drew⟩ (fun hHeld => ?_)
                    refine wpAnyH_take (i := 0) (oi := { dst := some 54, op := Op.move (Operand.tmp 5), type := 4, pos := "ref.go:174", after := #[], guard := none }) (v := ?_) rfl (by kernel_rfl) (by kernel_rfl) (by kernel_rfl) (fun _ _ _ h => h) (Or.inl ⟨by kernel_rfl, ?_⟩) (by assumption) ?_
                    rotate_left
                    · intro w hSw
                      (try dsimp only at hSw)
                      go_simp
                      all_goals (with_reducible rfl)
                    (try simp only [Act.put, List.setIfInBounds_toArray, List.set_cons_zero, List.set_cons_succ])
                    refine wpAnyH_take (i := 1) (oi := { dst := some 55, op := Op.unOp UnOp.not 4 (Operand.tmp 54), type := 4, pos := "ref.go:174", after := #[{ on := 0, ground := Ground.data }], guard := none }) (v := ?_) rfl (by kernel_rfl) (by kernel_rfl) (by kernel_rfl) (fun _ _ _ h => h) (Or.inl ⟨by kernel_rfl, ?_⟩) (by assumption) ?_
                    rotate_left
                    · intro w hSw
                      (try dsimp only at hSw)
                      go_simp
                      all_goals (with_reducible rfl)
                    (try simp only [Act.put, List.setIfInBounds_toArray, List.set_cons_zero, List.set_cons_succ])
                    refine wpAnyH_take (i := 2) (oi := { dst := some 56, op := Op.move (Operand.tmp 55), type := 4, pos := "ref.go:174", after := #[{ on := 1, ground := Ground.data }], guard := none }) (v := ?_) rfl (by kernel_rfl) (by kernel_rfl) (by kernel_rfl) (fun _ _ _ h => h) (Or.inl ⟨by kernel_rfl, ?_⟩) (by assumption) ?_
                    rotate_left
                    · intro w hSw
                      (try dsimp only at hSw)
                      go_simp
                      all_goals (with_reducible rfl)
                    (try simp only [Act.put, List.setIfInBounds_toArray, List.set_cons_zero, List.set_cons_succ])
                    refine wpAnyH_take (i := 3) (oi := { dst := some 57, op := Op.fieldAddr 30 (Operand.tmp 4) 2, type := 0, pos := "ref.go:174", after := #[{ on := 2, ground := Ground.guard }], guard := some (2, true) }) (v := undef) rfl (by kernel_rfl) (by kernel_rfl) (by kernel_rfl) (fun _ _ _ h => h) (Or.inr ⟨by kernel_rfl, rfl⟩) (by assumption) ?_
                    (try simp only [Act.put, List.setIfInBounds_toArray, List.set_cons_zero, List.set_cons_succ])
                    refine wpAnyH_take (i := 4) (oi := { dst := some 58, op := Op.fieldAddr 25 (Operand.tmp 57) 0, type := 0, pos := "ref.go:174", after := #[{ on := 3, ground := Ground.data }, { on := 2, ground := Ground.guard }], guard := some (2, true) }) (v := undef) rfl (by kernel_rfl) (by kernel_rfl) (by kernel_rfl) (fun _ _ _ h => h) (Or.inr ⟨by kernel_rfl, rfl⟩) (by assumption) ?_
                    (try simp only [Act.put, List.setIfInBounds_toArray, List.set_cons_zero, List.set_cons_succ])
                    refine wpAnyH_take (i := 5) (oi := { dst := some 59, op := Op.load 3 (Operand.tmp 58), type := 3, pos := "ref.go:174", after := #[{ on := 4, ground := Ground.data }, { on := 2, ground := Ground.guard }], guard := some (2, true) }) (v := undef) rfl (by kernel_rfl) (by kernel_rfl) (by kernel_rfl) (fun _ _ _ h => h) (Or.inr ⟨by kernel_rfl, rfl⟩) (by assumption) ?_
                    (try simp only [Act.put, List.setIfInBounds_toArray, List.set_cons_zero, List.set_cons_succ])
                    refine wpAnyH_take (i := 6) (oi := { dst := some 60, op := Op.fieldAddr 30 (Operand.tmp 4) 3, type := 0, pos := "ref.go:174", after := #[{ on := 2, ground := Ground.guard }], guard := some (2, true) }) (v := undef) rfl (by kernel_rfl) (by kernel_rfl) (by kernel_rfl) (fun _ _ _ h => h) (Or.inr ⟨by kernel_rfl, rfl⟩) (by assumption) ?_
                    (try simp only [Act.put, List.setIfInBounds_toArray, List.set_cons_zero, List.set_cons_succ])
                    refine wpAnyH_take (i := 7) (oi := { dst := some 61, op := Op.fieldAddr 25 (Operand.tmp 60) 0, type := 0, pos := "ref.go:174", after := #[{ on := 6, ground := Ground.data }, { on := 2, ground := Ground.guard }], guard := some (2, true) }) (v := undef) rfl (by kernel_rfl) (by kernel_rfl) (by kernel_rfl) (fun _ _ _ h => h) (Or.inr ⟨by kernel_rfl, rfl⟩) (by assumption) ?_
                    (try simp only [Act.put, List.setIfInBounds_toArray, List.set_cons_zero, List.set_cons_succ])
                    refine wpAnyH_take (i := 8) (oi := { dst := some 62, op := Op.load 3 (Operand.tmp 61), type := 3, pos := "ref.go:174", after := #[{ on := 7, ground := Ground.data }, { on := 2, ground := Ground.guard }], guard := some (2, true) }) (v := undef) rfl (by kernel_rfl) (by kernel_rfl) (by kernel_rfl) (fun _ _ _ h => h) (Or.inr ⟨by kernel_rfl, rfl⟩) (by assumption) ?_
                    (try simp only [Act.put, List.setIfInBounds_toArray, List.set_cons_zero, List.set_cons_succ])
                    refine wpAnyH_take (i := 9) (oi := { dst := some 63, op := Op.binOp BinOp.lss 3 (Operand.tmp 59) (Operand.tmp 62) 3, type := 4, pos := "ref.go:174", after := #[{ on := 5, ground := Ground.data }, { on := 8, ground := Ground.data }, { on := 2, ground := Ground.guard }], guard := some (2, true) }) (v := undef) rfl (by kernel_rfl) (by kernel_rfl) (by kernel_rfl) (fun _ _ _ h => h) (Or.inr ⟨by kernel_rfl, rfl⟩) (by assumption) ?_
                    (try simp only [Act.put, List.setIfInBounds_toArray, List.set_cons_zero, List.set_cons_succ])
                    refine wpAnyH_take (i := 10) (oi := { dst := some 64, op := Op.move (Operand.tmp 63), type := 4, pos := "ref.go:174", after := #[{ on := 9, ground := Ground.data }, { on := 2, ground := Ground.chain }, { on := 2, ground := Ground.guard }], guard := some (2, true) }) (v := undef) rfl (by kernel_rfl) (by kernel_rfl) (by kernel_rfl) (fun _ _ _ h => h) (Or.inr ⟨by kernel_rfl, rfl⟩) (by assumption) ?_
                    (try simp only [Act.put, List.setIfInBounds_toArray, List.set_cons_zero, List.set_cons_succ])
                    refine wpAnyH_take (i := 11) (oi := { dst := some 65, op := Op.fieldAddr 30 (Operand.tmp 4) 2, type := 0, pos := "ref.go:174", after := #[{ on := 10, ground := Ground.guard }], guard := some (10, false) }) (v := undef) rfl (by kernel_rfl) (by kernel_rfl) (by kernel_rfl) (fun _ _ _ h => h) (Or.inr ⟨by kernel_rfl, rfl⟩) (by assumption) ?_
                    (try simp only [Act.put, List.setIfInBounds_toArray, List.set_cons_zero, List.set_cons_succ])
                    refine wpAnyH_take (i := 12) (oi := { dst := some 66, op := Op.fieldAddr 25 (Operand.tmp 65) 0, type := 0, pos := "ref.go:174", after := #[{ on := 11, ground := Ground.data }, { on := 10, ground := Ground.guard }], guard := some (10, false) }) (v := undef) rfl (by kernel_rfl) (by kernel_rfl) (by kernel_rfl) (fun _ _ _ h => h) (Or.inr ⟨by kernel_rfl, rfl⟩) (by assumption) ?_
                    (try simp only [Act.put, List.setIfInBounds_toArray, List.set_cons_zero, List.set_cons_succ])
                    refine wpAnyH_take (i := 13) (oi := { dst := some 67, op := Op.load 3 (Operand.tmp 66), type := 3, pos := "ref.go:174", after := #[{ on := 12, ground := Ground.data }, { on := 10, ground := Ground.guard }], guard := some (10, false) }) (v := undef) rfl (by kernel_rfl) (by kernel_rfl) (by kernel_rfl) (fun _ _ _ h => h) (Or.inr ⟨by kernel_rfl, rfl⟩) (by assumption) ?_
                    (try simp only [Act.put, List.setIfInBounds_toArray, List.set_cons_zero, List.set_cons_succ])
                    refine wpAnyH_take (i := 14) (oi := { dst := some 68, op := Op.fieldAddr 30 (Operand.tmp 4) 2, type := 0, pos := "ref.go:174", after := #[{ on := 10, ground := Ground.guard }], guard := some (10, false) }) (v := undef) rfl (by kernel_rfl) (by kernel_rfl) (by kernel_rfl) (fun _ _ _ h => h) (Or.inr ⟨by kernel_rfl, rfl⟩) (by assumption) ?_
                    (try simp only [Act.put, List.setIfInBounds_toArray, List.set_cons_zero, List.set_cons_succ])
                    refine wpAnyH_take (i := 15) (oi := { dst := some 69, op := Op.fieldAddr 25 (Operand.tmp 68) 1, type := 0, pos := "ref.go:174", after := #[{ on := 14, ground := Ground.data }, { on := 10, ground := Ground.guard }], guard := some (10, false) }) (v := undef) rfl (by kernel_rfl) (by kernel_rfl) (by kernel_rfl) (fun _ _ _ h => h) (Or.inr ⟨by kernel_rfl, rfl⟩) (by assumption) ?_
                    (try simp only [Act.put, List.setIfInBounds_toArray, List.set_cons_zero, List.set_cons_succ])
                    refine wpAnyH_take (i := 16) (oi := { dst := some 70, op := Op.load 3 (Operand.tmp 69), type := 3, pos := "ref.go:174", after := #[{ on := 15, ground := Ground.data }, { on := 10, ground := Ground.guard }], guard := some (10, false) }) (v := undef) rfl (by kernel_rfl) (by kernel_rfl) (by kernel_rfl) (fun _ _ _ h => h) (Or.inr ⟨by kernel_rfl, rfl⟩) (by assumption) ?_
                    (try simp only [Act.put, List.setIfInBounds_toArray, List.set_cons_zero, List.set_cons_succ])
                    refine wpAnyH_take (i := 17) (oi := { dst := some 71, op := Op.binOp BinOp.geq 3 (Operand.tmp 67) (Operand.tmp 70) 3, type := 4, pos := "ref.go:174", after := #[{ on := 13, ground := Ground.data }, { on := 16, ground := Ground.data }, { on := 10, ground := Ground.guard }], guard := some (10, false) }) (v := undef) rfl (by kernel_rfl) (by kernel_rfl) (by kernel_rfl) (fun _ _ _ h => h) (Or.inr ⟨by kernel_rfl, rfl⟩) (by assumption) ?_
                    (try simp only [Act.put, List.setIfInBounds_toArray, List.set_cons_zero, List.set_cons_succ])
                    refine wpAnyH_take (i := 18) (oi := { dst := some 72, op := Op.pick (Operand.tmp 64) (Operand.const (Value.bool true)) (Operand.tmp 71), type := 4, pos := "ref.go:174", after := #[{ on := 10, ground := Ground.data }, { on := 17, ground := Ground.data }, { on := 2, ground := Ground.guard }], guard := some (2, true) }) (v := undef) rfl (by kernel_rfl) (by kernel_rfl) (by kernel_rfl) (fun _ _ _ h => h) (Or.inr ⟨by kernel_rfl, rfl⟩) (by assumption) ?_
                    (try simp only [Act.put, List.setIfInBounds_toArray, List.set_cons_zero, List.set_cons_succ])
                    refine wpAnyH_take (i := 19) (oi := { dst := some 73, op := Op.move (Operand.tmp 72), type := 4, pos := "ref.go:174", after := #[{ on := 18, ground := Ground.data }, { on := 10, ground := Ground.chain }, { on := 2, ground := Ground.guard }], guard := some (2, true) }) (v := undef) rfl (by kernel_rfl) (by kernel_rfl) (by kernel_rfl) (fun _ _ _ h => h) (Or.inr ⟨by kernel_rfl, rfl⟩) (by assumption) ?_
                    (try simp only [Act.put, List.setIfInBounds_toArray, List.set_cons_zero, List.set_cons_succ])
                    refine wpAnyH_take (i := 20) (oi := { dst := some 74, op := Op.fieldAddr 30 (Operand.tmp 4) 2, type := 0, pos := "ref.go:174", after := #[{ on := 19, ground := Ground.guard }], guard := some (19, false) }) (v := undef) rfl (by kernel_rfl) (by kernel_rfl) (by kernel_rfl) (fun _ _ _ h => h) (Or.inr ⟨by kernel_rfl, rfl⟩) (by assumption) ?_
                    (try simp only [Act.put, List.setIfInBounds_toArray, List.set_cons_zero, List.set_cons_succ])
                    refine wpAnyH_take (i := 21) (oi := { dst := some 75, op := Op.fieldAddr 25 (Operand.tmp 74) 1, type := 0, pos := "ref.go:174", after := #[{ on := 20, ground := Ground.data }, { on := 19, ground := Ground.guard }], guard := some (19, false) }) (v := undef) rfl (by kernel_rfl) (by kernel_rfl) (by kernel_rfl) (fun _ _ _ h => h) (Or.inr ⟨by kernel_rfl, rfl⟩) (by assumption) ?_
                    (try simp only [Act.put, List.setIfInBounds_toArray, List.set_cons_zero, List.set_cons_succ])
                    refine wpAnyH_take (i := 22) (oi := { dst := some 76, op := Op.load 3 (Operand.tmp 75), type := 3, pos := "ref.go:174", after := #[{ on := 21, ground := Ground.data }, { on := 19, ground := Ground.guard }], guard := some (19, false) }) (v := undef) rfl (by kernel_rfl) (by kernel_rfl) (by kernel_rfl) (fun _ _ _ h => h) (Or.inr ⟨by kernel_rfl, rfl⟩) (by assumption) ?_
                    (try simp only [Act.put, List.setIfInBounds_toArray, List.set_cons_zero, List.set_cons_succ])
                    refine wpAnyH_take (i := 23) (oi := { dst := some 77, op := Op.fieldAddr 30 (Operand.tmp 4) 3, type := 0, pos := "ref.go:174", after := #[{ on := 19, ground := Ground.guard }], guard := some (19, false) }) (v := undef) rfl (by kernel_rfl) (by kernel_rfl) (by kernel_rfl) (fun _ _ _ h => h) (Or.inr ⟨by kernel_rfl, rfl⟩) (by assumption) ?_
                    (try simp only [Act.put, List.setIfInBounds_toArray, List.set_cons_zero, List.set_cons_succ])
                    refine wpAnyH_take (i := 24) (oi := { dst := some 78, op := Op.fieldAddr 25 (Operand.tmp 77) 1, type := 0, pos := "ref.go:174", after := #[{ on := 23, ground := Ground.data }, { on := 19, ground := Ground.guard }], guard := some (19, false) }) (v := undef) rfl (by kernel_rfl) (by kernel_rfl) (by kernel_rfl) (fun _ _ _ h => h) (Or.inr ⟨by kernel_rfl, rfl⟩) (by assumption) ?_
                    (try simp only [Act.put, List.setIfInBounds_toArray, List.set_cons_zero, List.set_cons_succ])
                    refine wpAnyH_take (i := 25) (oi := { dst := some 79, op := Op.load 3 (Operand.tmp 78), type := 3, pos := "ref.go:174", after := #[{ on := 24, ground := Ground.data }, { on := 19, ground := Ground.guard }], guard := some (19, false) }) (v := undef) rfl (by kernel_rfl) (by kernel_rfl) (by kernel_rfl) (fun _ _ _ h => h) (Or.inr ⟨by kernel_rfl, rfl⟩) (by assumption) ?_
                    (try simp only [Act.put, List.setIfInBounds_toArray, List.set_cons_zero, List.set_cons_succ])
                    refine wpAnyH_take (i := 26) (oi := { dst := some 80, op := Op.binOp BinOp.gtr 3 (Operand.tmp 76) (Operand.tmp 79) 3, type := 4, pos := "ref.go:174", after := #[{ on := 22, ground := Ground.data }, { on := 25, ground := Ground.data }, { on := 19, ground := Ground.guard }], guard := some (19, false) }) (v := undef) rfl (by kernel_rfl) (by kernel_rfl) (by kernel_rfl) (fun _ _ _ h => h) (Or.inr ⟨by kernel_rfl, rfl⟩) (by assumption) ?_
                    (try simp only [Act.put, List.setIfInBounds_toArray, List.set_cons_zero, List.set_cons_succ])
                    refine wpAnyH_take (i := 27) (oi := { dst := some 81, op := Op.pick (Operand.tmp 73) (Operand.const (Value.bool true)) (Operand.tmp 80), type := 4, pos := "ref.go:174", after := #[{ on := 19, ground := Ground.data }, { on := 26, ground := Ground.data }, { on := 2, ground := Ground.guard }], guard := some (2, true) }) (v := undef) rfl (by kernel_rfl) (by kernel_rfl) (by kernel_rfl) (fun _ _ _ h => h) (Or.inr ⟨by kernel_rfl, rfl⟩) (by assumption) ?_
                    (try simp only [Act.put, List.setIfInBounds_toArray, List.set_cons_zero, List.set_cons_succ])
                    refine wpAnyH_take (i := 28) (oi := { dst := some 82, op := Op.pick (Operand.tmp 56) (Operand.tmp 81) (Operand.const (Value.bool false)), type := 4, pos := "ref.go:174", after := #[{ on := 2, ground := Ground.data }, { on := 27, ground := Ground.data }], guard := none }) (v := ?_) rfl (by kernel_rfl) (by kernel_rfl) (by kernel_rfl) (fun _ _ _ h => h) (Or.inl ⟨by kernel_rfl, ?_⟩) (by assumption) ?_
                    rotate_left
                    · intro w hSw
                      (try dsimp only at hSw)
                      go_simp
                      all_goals (with_reducible rfl)
                    (try simp only [Act.put, List.setIfInBounds_toArray, List.set_cons_zero, List.set_cons_succ])
                    refine wpAnyH_take (i := 29) (oi := { dst := some 83, op := Op.move (Operand.tmp 82), type := 4, pos := "ref.go:174", after := #[{ on := 28, ground := Ground.data }, { on := 19, ground := Ground.chain }], guard := none }) (v := ?_) rfl (by kernel_rfl) (by kernel_rfl) (by kernel_rfl) (fun _ _ _ h => h) (Or.inl ⟨by kernel_rfl, ?_⟩) (by assumption) ?_
                    rotate_left
                    · intro w hSw
                      (try dsimp only at hSw)
                      go_simp
                      all_goals (with_reducible rfl)
                    (try simp only [Act.put, List.setIfInBounds_toArray, List.set_cons_zero, List.set_cons_succ])
                    refine wpAnyH_take (i := 30) (oi := { dst := some 84, op := Op.move (Operand.tmp 3), type := 3, pos := "ref.go:174", after := #[{ on := 29, ground := Ground.guard }], guard := some (29, false) }) (v := ?_) rfl (by kernel_rfl) (by kernel_rfl) (by kernel_rfl) (fun _ _ _ h => h) (Or.inl ⟨by kernel_rfl, ?_⟩) (by assumption) ?_
                    rotate_left
                    · intro w hSw
                      (try dsimp only at hSw)
                      go_simp
                      all_goals (with_reducible rfl)
                    (try simp only [Act.put, List.setIfInBounds_toArray, List.set_cons_zero, List.set_cons_succ])
                    refine wpAnyH_take (i := 31) (oi := { dst := some 85, op := Op.binOp BinOp.gtr 3 (Operand.tmp 84) (Operand.const (Value.int IntKind.i64 0)) 3, type := 4, pos := "ref.go:174", after := #[{ on := 30, ground := Ground.data }, { on := 29, ground := Ground.guard }], guard := some (29, false) }) (v := ?_) rfl (by kernel_rfl) (by kernel_rfl) (by kernel_rfl) (fun _ _ _ h => h) (Or.inl ⟨by kernel_rfl, ?_⟩) (by assumption) ?_
                    rotate_left
                    · intro w hSw
                      (try dsimp only at hSw)
                      go_simp
                      all_goals (with_reducible rfl)
                    (try simp only [Act.put, List.setIfInBounds_toArray, List.set_cons_zero, List.set_cons_succ])
                    refine wpAnyH_take (i := 32) (oi := { dst := some 86, op := Op.move (Operand.tmp 85), type := 4, pos := "ref.go:174", after := #[{ on := 31, ground := Ground.data }, { on := 29, ground := Ground.chain }, { on := 29, ground := Ground.guard }], guard := some (29, false) }) (v := ?_) rfl (by kernel_rfl) (by kernel_rfl) (by kernel_rfl) (fun _ _ _ h => h) (Or.inl ⟨by kernel_rfl, ?_⟩) (by assumption) ?_
                    rotate_left
                    · intro w hSw
                      (try dsimp only at hSw)
                      go_simp
                      all_goals (with_reducible rfl)
                    (try simp only [Act.put, List.setIfInBounds_toArray, List.set_cons_zero, List.set_cons_succ])
                    refine wpAnyH_take (i := 33) (oi := { dst := some 87, op := Op.load 30 (Operand.tmp 4), type := 30, pos := "ref.go:174", after := #[{ on := 32, ground := Ground.guard }], guard := some (32, true) }) (v := undef) rfl (by kernel_rfl) (by kernel_rfl) (by kernel_rfl) (fun _ _ _ h => h) (Or.inr ⟨by kernel_rfl, rfl⟩) (by assumption) ?_
                    (try simp only [Act.put, List.setIfInBounds_toArray, List.set_cons_zero, List.set_cons_succ])
                    refine wpAnyH_take (i := 34) (oi := { dst := some 88, op := Op.move (Operand.tmp 0), type := 32, pos := "ref.go:174", after := #[{ on := 32, ground := Ground.guard }], guard := some (32, true) }) (v := undef) rfl (by kernel_rfl) (by kernel_rfl) (by kernel_rfl) (fun _ _ _ h => h) (Or.inr ⟨by kernel_rfl, rfl⟩) (by assumption) ?_
                    (try simp only [Act.put, List.setIfInBounds_toArray, List.set_cons_zero, List.set_cons_succ])
                    refine wpAnyH_take (i := 35) (oi := { dst := some 89, op := Op.move (Operand.tmp 3), type := 3, pos := "ref.go:174", after := #[{ on := 32, ground := Ground.guard }], guard := some (32, true) }) (v := undef) rfl (by kernel_rfl) (by kernel_rfl) (by kernel_rfl) (fun _ _ _ h => h) (Or.inr ⟨by kernel_rfl, rfl⟩) (by assumption) ?_
                    (try simp only [Act.put, List.setIfInBounds_toArray, List.set_cons_zero, List.set_cons_succ])
                    refine wpAnyH_take (i := 36) (oi := { dst := some 90, op := Op.binOp BinOp.sub 3 (Operand.tmp 89) (Operand.const (Value.int IntKind.i64 1)) 3, type := 3, pos := "ref.go:174", after := #[{ on := 35, ground := Ground.data }, { on := 32, ground := Ground.guard }], guard := some (32, true) }) (v := undef) rfl (by kernel_rfl) (by kernel_rfl) (by kernel_rfl) (fun _ _ _ h => h) (Or.inr ⟨by kernel_rfl, rfl⟩) (by assumption) ?_
                    (try simp only [Act.put, List.setIfInBounds_toArray, List.set_cons_zero, List.set_cons_succ])
                    refine wpAnyH_take (i := 37) (oi := { dst := some 91, op := Op.indexAddr 32 (Operand.tmp 88) (Operand.tmp 90), type := 0, pos := "ref.go:174", after := #[{ on := 34, ground := Ground.data }, { on := 36, ground := Ground.data }, { on := 32, ground := Ground.guard }], guard := some (32, true) }) (v := undef) rfl (by kernel_rfl) (by kernel_rfl) (by kernel_rfl) (fun _ _ _ h => h) (Or.inr ⟨by kernel_rfl, rfl⟩) (by assumption) ?_
                    (try simp only [Act.put, List.setIfInBounds_toArray, List.set_cons_zero, List.set_cons_succ])
                    refine wpAnyH_take (i := 38) (oi := { dst := some 92, op := Op.load 30 (Operand.tmp 91), type := 30, pos := "ref.go:174", after := #[{ on := 37, ground := Ground.data }, { on := 32, ground := Ground.guard }], guard := some (32, true) }) (v := undef) rfl (by kernel_rfl) (by kernel_rfl) (by kernel_rfl) (fun _ _ _ h => h) (Or.inr ⟨by kernel_rfl, rfl⟩) (by assumption) ?_
                    (try simp only [Act.put, List.setIfInBounds_toArray, List.set_cons_zero, List.set_cons_succ])
                    refine wpAnyH_take (i := 39) (oi := { dst := some 93, op := Op.call { callee := Callee.value (Operand.func 69), args := #[Operand.tmp 87, Operand.tmp 92], argTypes := #[30, 30] }, type := 4, pos := "ref.go:174", after := #[{ on := 33, ground := Ground.data }, { on := 38, ground := Ground.data }, { on := 32, ground := Ground.chain }, { on := 32, ground := Ground.guard }], guard := some (32, true) }) (v := undef) rfl (by kernel_rfl) (by kernel_rfl) (by kernel_rfl) (fun _ _ _ h => h) (Or.inr ⟨by kernel_rfl, rfl⟩) (by assumption) ?_
                    (try simp only [Act.put, List.setIfInBounds_toArray, List.set_cons_zero, List.set_cons_succ])
                    refine wpAnyH_take (i := 40) (oi := { dst := some 94, op := Op.pick (Operand.tmp 86) (Operand.tmp 93) (Operand.const (Value.bool false)), type := 4, pos := "ref.go:174", after := #[{ on := 32, ground := Ground.data }, { on := 39, ground := Ground.data }, { on := 29, ground := Ground.guard }], guard := some (29, false) }) (v := ?_) rfl (by kernel_rfl) (by kernel_rfl) (by kernel_rfl) (fun _ _ _ h => h) (Or.inl ⟨by kernel_rfl, ?_⟩) (by assumption) ?_
                    rotate_left
                    · intro w hSw
                      (try dsimp only at hSw)
                      go_simp
                      all_goals (with_reducible rfl)
                    (try simp only [Act.put, List.setIfInBounds_toArray, List.set_cons_zero, List.set_cons_succ])
                    refine wpAnyH_take (i := 41) (oi := { dst := some 95, op := Op.pick (Operand.tmp 83) (Operand.const (Value.bool true)) (Operand.tmp 94), type := 4, pos := "ref.go:174", after := #[{ on := 29, ground := Ground.data }, { on := 40, ground := Ground.data }], guard := none }) (v := ?_) rfl (by kernel_rfl) (by kernel_rfl) (by kernel_rfl) (fun _ _ _ h => h) (Or.inl ⟨by kernel_rfl, ?_⟩) (by assumption) ?_
                    rotate_left
                    · intro w hSw
                      (try dsimp only at hSw)
                      go_simp
                      all_goals (with_reducible rfl)
                    (try simp only [Act.put, List.setIfInBounds_toArray, List.set_cons_zero, List.set_cons_succ])
                    refine wpAnyH_done (by kernel_rfl) ?_ _
                    refine NoPanic.normal ?_
                    have hX := hHeld.1
                    clear hHeld
                    go_wp2_with fail
                    go_meet
                    exact ⟨by rw [← HY3.out]; unfold bad3; rw [HPE.out, HB2.out]; rfl, hX⟩
                | false =>
                  by_cases hc0 : p.sf < p.cf
                  · skip
                    have e0 : decide (p.sf < p.cf) = true := decide_eq_true (by omega)
                    have hb2 : bad2 p = true := by unfold bad2; rw [HZ.out, e0]; rfl
                    have HB2 := Lib.hid hb2
                    clear hb2
                    have HC := Lib.hid (fun W (hW : Below V.heap.size V W) => show W.cell? ⟨B, 0, none⟩ = some (.int .i64 p.sat) ∧ W.cell? ⟨B, 1, none⟩ = some (.int .i64 p.stn) ∧ W.cell? ⟨B, 2, none⟩ = some (.int .i64 p.sf) ∧ W.cell? ⟨B, 3, none⟩ = some (.int .i64 p.su) ∧ W.cell? ⟨B, 4, none⟩ = some (.int .i64 p.cf) ∧ W.cell? ⟨B, 5, none⟩ = some (.int .i64 p.cu) from ⟨(hW.cell (p := ⟨B, 0, none⟩) lB).trans k0, (hW.cell (p := ⟨B, 1, none⟩) lB).trans k1, (hW.cell (p := ⟨B, 2, none⟩) lB).trans k2, (hW.cell (p := ⟨B, 3, none⟩) lB).trans k3, (hW.cell (p := ⟨B, 4, none⟩) lB).trans k4, (hW.cell (p := ⟨B, 5, none⟩) lB).trans k5⟩)
                    refine wp_region_noPanic ?_
                    refine wp_region_held_drew (S := (fun w' => Below V.heap.size V w' ∧ w'.cell? ⟨B, 0, none⟩ = some (.int .i64 p.sat) ∧ w'.cell? ⟨B, 1, none⟩ = some (.int .i64 p.stn) ∧ w'.cell? ⟨B, 2, none⟩ = some (.int .i64 p.sf) ∧ w'.cell? ⟨B, 3, none⟩ = some (.int .i64 p.su) ∧ w'.cell? ⟨B, 4, none⟩ = some (.int .i64 p.cf) ∧ w'.cell? ⟨B, 5, none⟩ = some (.int .i64 p.cu))) (by kernel_rfl) ⟨(Below.refl _ _).drew, HC.out _ (Below.refl _ _).drew⟩ (fun hHeld => ?_)
                    refine wpAnyH_take (i := 0) (oi := { dst := some 54, op := Op.move (Operand.tmp 5), type := 4, pos := "ref.go:174", after := #[], guard := none }) (v := ?_) rfl (by kernel_rfl) (by kernel_rfl) (by kernel_rfl) (fun _ _ _ h => h) (Or.inl ⟨by kernel_rfl, ?_⟩) (by assumption) ?_
                    rotate_left
                    · intro w hSw
                      (try dsimp only at hSw)
                      go_simp
                      all_goals (with_reducible rfl)
                    (try simp only [Act.put, List.setIfInBounds_toArray, List.set_cons_zero, List.set_cons_succ])
                    refine wpAnyH_take (i := 1) (oi := { dst := some 55, op := Op.unOp UnOp.not 4 (Operand.tmp 54), type := 4, pos := "ref.go:174", after := #[{ on := 0, ground := Ground.data }], guard := none }) (v := ?_) rfl (by kernel_rfl) (by kernel_rfl) (by kernel_rfl) (fun _ _ _ h => h) (Or.inl ⟨by kernel_rfl, ?_⟩) (by assumption) ?_
                    rotate_left
                    · intro w hSw
                      (try dsimp only at hSw)
                      go_simp
                      all_goals (with_reducible rfl)
                    (try simp only [Act.put, List.setIfInBounds_toArray, List.set_cons_zero, List.set_cons_succ])
                    refine wpAnyH_take (i := 2) (oi := { dst := some 56, op := Op.move (Operand.tmp 55), type := 4, pos := "ref.go:174", after := #[{ on := 1, ground := Ground.data }], guard := none }) (v := ?_) rfl (by kernel_rfl) (by kernel_rfl) (by kernel_rfl) (fun _ _ _ h => h) (Or.inl ⟨by kernel_rfl, ?_⟩) (by assumption) ?_
                    rotate_left
                    · intro w hSw
                      (try dsimp only at hSw)
                      go_simp
                      all_goals (with_reducible rfl)
                    (try simp only [Act.put, List.setIfInBounds_toArray, List.set_cons_zero, List.set_cons_succ])
                    refine wpAnyH_take (i := 3) (oi := { dst := some 57, op := Op.fieldAddr 30 (Operand.tmp 4) 2, type := 0, pos := "ref.go:174", after := #[{ on := 2, ground := Ground.guard }], guard := some (2, true) }) (v := ?_) rfl (by kernel_rfl) (by kernel_rfl) (by kernel_rfl) (fun _ _ _ h => h) (Or.inl ⟨by kernel_rfl, ?_⟩) (by assumption) ?_
                    rotate_left
                    · intro w hSw
                      (try dsimp only at hSw)
                      go_simp
                      all_goals (with_reducible rfl)
                    (try simp only [Act.put, List.setIfInBounds_toArray, List.set_cons_zero, List.set_cons_succ])
                    refine wpAnyH_take (i := 4) (oi := { dst := some 58, op := Op.fieldAddr 25 (Operand.tmp 57) 0, type := 0, pos := "ref.go:174", after := #[{ on := 3, ground := Ground.data }, { on := 2, ground := Ground.guard }], guard := some (2, true) }) (v := ?_) rfl (by kernel_rfl) (by kernel_rfl) (by kernel_rfl) (fun _ _ _ h => h) (Or.inl ⟨by kernel_rfl, ?_⟩) (by assumption) ?_
                    rotate_left
                    · intro w hSw
                      (try dsimp only at hSw)
                      go_simp
                      all_goals (with_reducible rfl)
                    (try simp only [Act.put, List.setIfInBounds_toArray, List.set_cons_zero, List.set_cons_succ])
                    refine wpAnyH_take (i := 5) (oi := { dst := some 59, op := Op.load 3 (Operand.tmp 58), type := 3, pos := "ref.go:174", after := #[{ on := 4, ground := Ground.data }, { on := 2, ground := Ground.guard }], guard := some (2, true) }) (v := ?_) rfl (by kernel_rfl) (by kernel_rfl) (by kernel_rfl) (fun _ _ _ h => h) (Or.inl ⟨by kernel_rfl, ?_⟩) (by assumption) ?_
                    rotate_left
                    · intro w hSw
                      (try dsimp only at hSw)
                      go_simp
                      all_goals (with_reducible rfl)
                    (try simp only [Act.put, List.setIfInBounds_toArray, List.set_cons_zero, List.set_cons_succ])
                    refine wpAnyH_take (i := 6) (oi := { dst := some 60, op := Op.fieldAddr 30 (Operand.tmp 4) 3, type := 0, pos := "ref.go:174", after := #[{ on := 2, ground := Ground.guard }], guard := some (2, true) }) (v := ?_) rfl (by kernel_rfl) (by kernel_rfl) (by kernel_rfl) (fun _ _ _ h => h) (Or.inl ⟨by kernel_rfl, ?_⟩) (by assumption) ?_
                    rotate_left
                    · intro w hSw
                      (try dsimp only at hSw)
                      go_simp
                      all_goals (with_reducible rfl)
                    (try simp only [Act.put, List.setIfInBounds_toArray, List.set_cons_zero, List.set_cons_succ])
                    refine wpAnyH_take (i := 7) (oi := { dst := some 61, op := Op.fieldAddr 25 (Operand.tmp 60) 0, type := 0, pos := "ref.go:174", after := #[{ on := 6, ground := Ground.data }, { on := 2, ground := Ground.guard }], guard := some (2, true) }) (v := ?_) rfl (by kernel_rfl) (by kernel_rfl) (by kernel_rfl) (fun _ _ _ h => h) (Or.inl ⟨by kernel_rfl, ?_⟩) (by assumption) ?_
                    rotate_left
                    · intro w hSw
                      (try dsimp only at hSw)
                      go_simp
                      all_goals (with_reducible rfl)
                    (try simp only [Act.put, List.setIfInBounds_toArray, List.set_cons_zero, List.set_cons_succ])
                    refine wpAnyH_take (i := 8) (oi := { dst := some 62, op := Op.load 3 (Operand.tmp 61), type := 3, pos := "ref.go:174", after := #[{ on := 7, ground := Ground.data }, { on := 2, ground := Ground.guard }], guard := some (2, true) }) (v := ?_) rfl (by kernel_rfl) (by kernel_rfl) (by kernel_rfl) (fun _ _ _ h => h) (Or.inl ⟨by kernel_rfl, ?_⟩) (by assumption) ?_
                    rotate_left
                    · intro w hSw
                      (try dsimp only at hSw)
                      go_simp
                      all_goals (with_reducible rfl)
                    (try simp only [Act.put, List.setIfInBounds_toArray, List.set_cons_zero, List.set_cons_succ])
                    refine wpAnyH_take (i := 9) (oi := { dst := some 63, op := Op.binOp BinOp.lss 3 (Operand.tmp 59) (Operand.tmp 62) 3, type := 4, pos := "ref.go:174", after := #[{ on := 5, ground := Ground.data }, { on := 8, ground := Ground.data }, { on := 2, ground := Ground.guard }], guard := some (2, true) }) (v := ?_) rfl (by kernel_rfl) (by kernel_rfl) (by kernel_rfl) (fun _ _ _ h => h) (Or.inl ⟨by kernel_rfl, ?_⟩) (by assumption) ?_
                    rotate_left
                    · intro w hSw
                      (try dsimp only at hSw)
                      go_simp
                      all_goals (with_reducible rfl)
                    (try simp only [Act.put, List.setIfInBounds_toArray, List.set_cons_zero, List.set_cons_succ])
                    refine wpAnyH_take (i := 10) (oi := { dst := some 64, op := Op.move (Operand.tmp 63), type := 4, pos := "ref.go:174", after := #[{ on := 9, ground := Ground.data }, { on := 2, ground := Ground.chain }, { on := 2, ground := Ground.guard }], guard := some (2, true) }) (v := ?_) rfl (by kernel_rfl) (by kernel_rfl) (by kernel_rfl) (fun _ _ _ h => h) (Or.inl ⟨by kernel_rfl, ?_⟩) (by assumption) ?_
                    rotate_left
                    · intro w hSw
                      (try dsimp only at hSw)
                      go_simp
                      all_goals (with_reducible rfl)
                    (try simp only [Act.put, List.setIfInBounds_toArray, List.set_cons_zero, List.set_cons_succ])
                    refine wpAnyH_take (i := 11) (oi := { dst := some 65, op := Op.fieldAddr 30 (Operand.tmp 4) 2, type := 0, pos := "ref.go:174", after := #[{ on := 10, ground := Ground.guard }], guard := some (10, false) }) (v := undef) rfl (by kernel_rfl) (by kernel_rfl) (by kernel_rfl) (fun _ _ _ h => h) (Or.inr ⟨by kernel_rfl, rfl⟩) (by assumption) ?_
                    (try simp only [Act.put, List.setIfInBounds_toArray, List.set_cons_zero, List.set_cons_succ])
                    refine wpAnyH_take (i := 12) (oi := { dst := some 66, op := Op.fieldAddr 25 (Operand.tmp 65) 0, type := 0, pos := "ref.go:174", after := #[{ on := 11, ground := Ground.data }, { on := 10, ground := Ground.guard }], guard := some (10, false) }) (v := undef) rfl (by kernel_rfl) (by kernel_rfl) (by kernel_rfl) (fun _ _ _ h => h) (Or.inr ⟨by kernel_rfl, rfl⟩) (by assumption) ?_
                    (try simp only [Act.put, List.setIfInBounds_toArray, List.set_cons_zero, List.set_cons_succ])
                    refine wpAnyH_take (i := 13) (oi := { dst := some 67, op := Op.load 3 (Operand.tmp 66), type := 3, pos := "ref.go:174", after := #[{ on := 12, ground := Ground.data }, { on := 10, ground := Ground.guard }], guard := some (10, false) }) (v := undef) rfl (by kernel_rfl) (by kernel_rfl) (by kernel_rfl) (fun _ _ _ h => h) (Or.inr ⟨by kernel_rfl, rfl⟩) (by assumption) ?_
                    (try simp only [Act.put, List.setIfInBounds_toArray, List.set_cons_zero, List.set_cons_succ])
                    refine wpAnyH_take (i := 14) (oi := { dst := some 68, op := Op.fieldAddr 30 (Operand.tmp 4) 2, type := 0, pos := "ref.go:174", after := #[{ on := 10, ground := Ground.guard }], guard := some (10, false) }) (v := undef) rfl (by kernel_rfl) (by kernel_rfl) (by kernel_rfl) (fun _ _ _ h => h) (Or.inr ⟨by kernel_rfl, rfl⟩) (by assumption) ?_
                    (try simp only [Act.put, List.setIfInBounds_toArray, List.set_cons_zero, List.set_cons_succ])
                    refine wpAnyH_take (i := 15) (oi := { dst := some 69, op := Op.fieldAddr 25 (Operand.tmp 68) 1, type := 0, pos := "ref.go:174", after := #[{ on := 14, ground := Ground.data }, { on := 10, ground := Ground.guard }], guard := some (10, false) }) (v := undef) rfl (by kernel_rfl) (by kernel_rfl) (by kernel_rfl) (fun _ _ _ h => h) (Or.inr ⟨by kernel_rfl, rfl⟩) (by assumption) ?_
                    (try simp only [Act.put, List.setIfInBounds_toArray, List.set_cons_zero, List.set_cons_succ])
                    refine wpAnyH_take (i := 16) (oi := { dst := some 70, op := Op.load 3 (Operand.tmp 69), type := 3, pos := "ref.go:174", after := #[{ on := 15, ground := Ground.data }, { on := 10, ground := Ground.guard }], guard := some (10, false) }) (v := undef) rfl (by kernel_rfl) (by kernel_rfl) (by kernel_rfl) (fun _ _ _ h => h) (Or.inr ⟨by kernel_rfl, rfl⟩) (by assumption) ?_
                    (try simp only [Act.put, List.setIfInBounds_toArray, List.set_cons_zero, List.set_cons_succ])
                    refine wpAnyH_take (i := 17) (oi := { dst := some 71, op := Op.binOp BinOp.geq 3 (Operand.tmp 67) (Operand.tmp 70) 3, type := 4, pos := "ref.go:174", after := #[{ on := 13, ground := Ground.data }, { on := 16, ground := Ground.data }, { on := 10, ground := Ground.guard }], guard := some (10, false) }) (v := undef) rfl (by kernel_rfl) (by kernel_rfl) (by kernel_rfl) (fun _ _ _ h => h) (Or.inr ⟨by kernel_rfl, rfl⟩) (by assumption) ?_
                    (try simp only [Act.put, List.setIfInBounds_toArray, List.set_cons_zero, List.set_cons_succ])
                    refine wpAnyH_take (i := 18) (oi := { dst := some 72, op := Op.pick (Operand.tmp 64) (Operand.const (Value.bool true)) (Operand.tmp 71), type := 4, pos := "ref.go:174", after := #[{ on := 10, ground := Ground.data }, { on := 17, ground := Ground.data }, { on := 2, ground := Ground.guard }], guard := some (2, true) }) (v := ?_) rfl (by kernel_rfl) (by kernel_rfl) (by kernel_rfl) (fun _ _ _ h => h) (Or.inl ⟨by kernel_rfl, ?_⟩) (by assumption) ?_
                    rotate_left
                    · intro w hSw
                      (try dsimp only at hSw)
                      go_simp
                      all_goals (with_reducible rfl)
                    (try simp only [Act.put, List.setIfInBounds_toArray, List.set_cons_zero, List.set_cons_succ])
                    refine wpAnyH_take (i := 19) (oi := { dst := some 73, op := Op.move (Operand.tmp 72), type := 4, pos := "ref.go:174", after := #[{ on := 18, ground := Ground.data }, { on := 10, ground := Ground.chain }, { on := 2, ground := Ground.guard }], guard := some (2, true) }) (v := ?_) rfl (by kernel_rfl) (by kernel_rfl) (by kernel_rfl) (fun _ _ _ h => h) (Or.inl ⟨by kernel_rfl, ?_⟩) (by assumption) ?_
                    rotate_left
                    · intro w hSw
                      (try dsimp only at hSw)
                      go_simp
                      all_goals (with_reducible rfl)
                    (try simp only [Act.put, List.setIfInBounds_toArray, List.set_cons_zero, List.set_cons_succ])
                    refine wpAnyH_take (i := 20) (oi := { dst := some 74, op := Op.fieldAddr 30 (Operand.tmp 4) 2, type := 0, pos := "ref.go:174", after := #[{ on := 19, ground := Ground.guard }], guard := some (19, false) }) (v := undef) rfl (by kernel_rfl) (by kernel_rfl) (by kernel_rfl) (fun _ _ _ h => h) (Or.inr ⟨by kernel_rfl, rfl⟩) (by assumption) ?_
                    (try simp only [Act.put, List.setIfInBounds_toArray, List.set_cons_zero, List.set_cons_succ])
                    refine wpAnyH_take (i := 21) (oi := { dst := some 75, op := Op.fieldAddr 25 (Operand.tmp 74) 1, type := 0, pos := "ref.go:174", after := #[{ on := 20, ground := Ground.data }, { on := 19, ground := Ground.guard }], guard := some (19, false) }) (v := undef) rfl (by kernel_rfl) (by kernel_rfl) (by kernel_rfl) (fun _ _ _ h => h) (Or.inr ⟨by kernel_rfl, rfl⟩) (by assumption) ?_
                    (try simp only [Act.put, List.setIfInBounds_toArray, List.set_cons_zero, List.set_cons_succ])
                    refine wpAnyH_take (i := 22) (oi := { dst := some 76, op := Op.load 3 (Operand.tmp 75), type := 3, pos := "ref.go:174", after := #[{ on := 21, ground := Ground.data }, { on := 19, ground := Ground.guard }], guard := some (19, false) }) (v := undef) rfl (by kernel_rfl) (by kernel_rfl) (by kernel_rfl) (fun _ _ _ h => h) (Or.inr ⟨by kernel_rfl, rfl⟩) (by assumption) ?_
                    (try simp only [Act.put, List.setIfInBounds_toArray, List.set_cons_zero, List.set_cons_succ])
                    refine wpAnyH_take (i := 23) (oi := { dst := some 77, op := Op.fieldAddr 30 (Operand.tmp 4) 3, type := 0, pos := "ref.go:174", after := #[{ on := 19, ground := Ground.guard }], guard := some (19, false) }) (v := undef) rfl (by kernel_rfl) (by kernel_rfl) (by kernel_rfl) (fun _ _ _ h => h) (Or.inr ⟨by kernel_rfl, rfl⟩) (by assumption) ?_
                    (try simp only [Act.put, List.setIfInBounds_toArray, List.set_cons_zero, List.set_cons_succ])
                    refine wpAnyH_take (i := 24) (oi := { dst := some 78, op := Op.fieldAddr 25 (Operand.tmp 77) 1, type := 0, pos := "ref.go:174", after := #[{ on := 23, ground := Ground.data }, { on := 19, ground := Ground.guard }], guard := some (19, false) }) (v := undef) rfl (by kernel_rfl) (by kernel_rfl) (by kernel_rfl) (fun _ _ _ h => h) (Or.inr ⟨by kernel_rfl, rfl⟩) (by assumption) ?_
                    (try simp only [Act.put, List.setIfInBounds_toArray, List.set_cons_zero, List.set_cons_succ])
                    refine wpAnyH_take (i := 25) (oi := { dst := some 79, op := Op.load 3 (Operand.tmp 78), type := 3, pos := "ref.go:174", after := #[{ on := 24, ground := Ground.data }, { on := 19, ground := Ground.guard }], guard := some (19, false) }) (v := undef) rfl (by kernel_rfl) (by kernel_rfl) (by kernel_rfl) (fun _ _ _ h => h) (Or.inr ⟨by kernel_rfl, rfl⟩) (by assumption) ?_
                    (try simp only [Act.put, List.setIfInBounds_toArray, List.set_cons_zero, List.set_cons_succ])
                    refine wpAnyH_take (i := 26) (oi := { dst := some 80, op := Op.binOp BinOp.gtr 3 (Operand.tmp 76) (Operand.tmp 79) 3, type := 4, pos := "ref.go:174", after := #[{ on := 22, ground := Ground.data }, { on := 25, ground := Ground.data }, { on := 19, ground := Ground.guard }], guard := some (19, false) }) (v := undef) rfl (by kernel_rfl) (by kernel_rfl) (by kernel_rfl) (fun _ _ _ h => h) (Or.inr ⟨by kernel_rfl, rfl⟩) (by assumption) ?_
                    (try simp only [Act.put, List.setIfInBounds_toArray, List.set_cons_zero, List.set_cons_succ])
                    refine wpAnyH_take (i := 27) (oi := { dst := some 81, op := Op.pick (Operand.tmp 73) (Operand.const (Value.bool true)) (Operand.tmp 80), type := 4, pos := "ref.go:174", after := #[{ on := 19, ground := Ground.data }, { on := 26, ground := Ground.data }, { on := 2, ground := Ground.guard }], guard := some (2, true) }) (v := ?_) rfl (by kernel_rfl) (by kernel_rfl) (by kernel_rfl) (fun _ _ _ h => h) (Or.inl ⟨by kernel_rfl, ?_⟩) (by assumption) ?_
                    rotate_left
                    · intro w hSw
                      (try dsimp only at hSw)
                      go_simp
                      all_goals (with_reducible rfl)
                    (try simp only [Act.put, List.setIfInBounds_toArray, List.set_cons_zero, List.set_cons_succ])
                    refine wpAnyH_take (i := 28) (oi := { dst := some 82, op := Op.pick (Operand.tmp 56) (Operand.tmp 81) (Operand.const (Value.bool false)), type := 4, pos := "ref.go:174", after := #[{ on := 2, ground := Ground.data }, { on := 27, ground := Ground.data }], guard := none }) (v := ?_) rfl (by kernel_rfl) (by kernel_rfl) (by kernel_rfl) (fun _ _ _ h => h) (Or.inl ⟨by kernel_rfl, ?_⟩) (by assumption) ?_
                    rotate_left
                    · intro w hSw
                      (try dsimp only at hSw)
                      go_simp
                      all_goals (with_reducible rfl)
                    (try simp only [Act.put, List.setIfInBounds_toArray, List.set_cons_zero, List.set_cons_succ])
                    refine wpAnyH_take (i := 29) (oi := { dst := some 83, op := Op.move (Operand.tmp 82), type := 4, pos := "ref.go:174", after := #[{ on := 28, ground := Ground.data }, { on := 19, ground := Ground.chain }], guard := none }) (v := ?_) rfl (by kernel_rfl) (by kernel_rfl) (by kernel_rfl) (fun _ _ _ h => h) (Or.inl ⟨by kernel_rfl, ?_⟩) (by assumption) ?_
                    rotate_left
                    · intro w hSw
                      (try dsimp only at hSw)
                      go_simp
                      all_goals (with_reducible rfl)
                    (try simp only [Act.put, List.setIfInBounds_toArray, List.set_cons_zero, List.set_cons_succ])
                    refine wpAnyH_take (i := 30) (oi := { dst := some 84, op := Op.move (Operand.tmp 3), type := 3, pos := "ref.go:174", after := #[{ on := 29, ground := Ground.guard }], guard := some (29, false) }) (v := undef) rfl (by kernel_rfl) (by kernel_rfl) (by kernel_rfl) (fun _ _ _ h => h) (Or.inr ⟨by kernel_rfl, rfl⟩) (by assumption) ?_
                    (try simp only [Act.put, List.setIfInBounds_toArray, List.set_cons_zero, List.set_cons_succ])
                    refine wpAnyH_take (i := 31) (oi := { dst := some 85, op := Op.binOp BinOp.gtr 3 (Operand.tmp 84) (Operand.const (Value.int IntKind.i64 0)) 3, type := 4, pos := "ref.go:174", after := #[{ on := 30, ground := Ground.data }, { on := 29, ground := Ground.guard }], guard := some (29, false) }) (v := undef) rfl (by kernel_rfl) (by kernel_rfl) (by kernel_rfl) (fun _ _ _ h => h) (Or.inr ⟨by kernel_rfl, rfl⟩) (by assumption) ?_
                    (try simp only [Act.put, List.setIfInBounds_toArray, List.set_cons_zero, List.set_cons_succ])
                    refine wpAnyH_take (i := 32) (oi := { dst := some 86, op := Op.move (Operand.tmp 85), type := 4, pos := "ref.go:174", after := #[{ on := 31, ground := Ground.data }, { on := 29, ground := Ground.chain }, { on := 29, ground := Ground.guard }], guard := some (29, false) }) (v := undef) rfl (by kernel_rfl) (by kernel_rfl) (by kernel_rfl) (fun _ _ _ h => h) (Or.inr ⟨by kernel_rfl, rfl⟩) (by assumption) ?_
                    (try simp only [Act.put, List.setIfInBounds_toArray, List.set_cons_zero, List.set_cons_succ])
                    refine wpAnyH_take (i := 33) (oi := { dst := some 87, op := Op.load 30 (Operand.tmp 4), type := 30, pos := "ref.go:174", after := #[{ on := 32, ground := Ground.guard }], guard := some (32, true) }) (v := undef) rfl (by kernel_rfl) (by kernel_rfl) (by kernel_rfl) (fun _ _ _ h => h) (Or.inr ⟨by kernel_rfl, rfl⟩) (by assumption) ?_
                    (try simp only [Act.put, List.setIfInBounds_toArray, List.set_cons_zero, List.set_cons_succ])
                    refine wpAnyH_take (i := 34) (oi := { dst := some 88, op := Op.move (Operand.tmp 0), type := 32, pos := "ref.go:174", after := #[{ on := 32, ground := Ground.guard }], guard := some (32, true) }) (v := undef) rfl (by kernel_rfl) (by kernel_rfl) (by kernel_rfl) (fun _ _ _ h => h) (Or.inr ⟨by kernel_rfl, rfl⟩) (by assumption) ?_
                    (try simp only [Act.put, List.setIfInBounds_toArray, List.set_cons_zero, List.set_cons_succ])
                    refine wpAnyH_take (i := 35) (oi := { dst := some 89, op := Op.move (Operand.tmp 3), type := 3, pos := "ref.go:174", after := #[{ on := 32, ground := Ground.guard }], guard := some (32, true) }) (v := undef) rfl (by kernel_rfl) (by kernel_rfl) (by kernel_rfl) (fun _ _ _ h => h) (Or.inr ⟨by kernel_rfl, rfl⟩) (by assumption) ?_
                    (try simp only [Act.put, List.setIfInBounds_toArray, List.set_cons_zero, List.set_cons_succ])
                    refine wpAnyH_take (i := 36) (oi := { dst := some 90, op := Op.binOp BinOp.sub 3 (Operand.tmp 89) (Operand.const (Value.int IntKind.i64 1)) 3, type := 3, pos := "ref.go:174", after := #[{ on := 35, ground := Ground.data }, { on := 32, ground := Ground.guard }], guard := some (32, true) }) (v := undef) rfl (by kernel_rfl) (by kernel_rfl) (by kernel_rfl) (fun _ _ _ h => h) (Or.inr ⟨by kernel_rfl, rfl⟩) (by assumption) ?_
                    (try simp only [Act.put, List.setIfInBounds_toArray, List.set_cons_zero, List.set_cons_succ])
                    refine wpAnyH_take (i := 37) (oi := { dst := some 91, op := Op.indexAddr 32 (Operand.tmp 88) (Operand.tmp 90), type := 0, pos := "ref.go:174", after := #[{ on := 34, ground := Ground.data }, { on := 36, ground := Ground.data }, { on := 32, ground := Ground.guard }], guard := some (32, true) }) (v := undef) rfl (by kernel_rfl) (by kernel_rfl) (by kernel_rfl) (fun _ _ _ h => h) (Or.inr ⟨by kernel_rfl, rfl⟩) (by assumption) ?_
                    (try simp only [Act.put, List.setIfInBounds_toArray, List.set_cons_zero, List.set_cons_succ])
                    refine wpAnyH_take (i := 38) (oi := { dst := some 92, op := Op.load 30 (Operand.tmp 91), type := 30, pos := "ref.go:174", after := #[{ on := 37, ground := Ground.data }, { on := 32, ground := Ground.guard }], guard := some (32, true) }) (v := undef) rfl (by kernel_rfl) (by kernel_rfl) (by kernel_rfl) (fun _ _ _ h => h) (Or.inr ⟨by kernel_rfl, rfl⟩) (by assumption) ?_
                    (try simp only [Act.put, List.setIfInBounds_toArray, List.set_cons_zero, List.set_cons_succ])
                    refine wpAnyH_take (i := 39) (oi := { dst := some 93, op := Op.call { callee := Callee.value (Operand.func 69), args := #[Operand.tmp 87, Operand.tmp 92], argTypes := #[30, 30] }, type := 4, pos := "ref.go:174", after := #[{ on := 33, ground := Ground.data }, { on := 38, ground := Ground.data }, { on := 32, ground := Ground.chain }, { on := 32, ground := Ground.guard }], guard := some (32, true) }) (v := undef) rfl (by kernel_rfl) (by kernel_rfl) (by kernel_rfl) (fun _ _ _ h => h) (Or.inr ⟨by kernel_rfl, rfl⟩) (by assumption) ?_
                    (try simp only [Act.put, List.setIfInBounds_toArray, List.set_cons_zero, List.set_cons_succ])
                    refine wpAnyH_take (i := 40) (oi := { dst := some 94, op := Op.pick (Operand.tmp 86) (Operand.tmp 93) (Operand.const (Value.bool false)), type := 4, pos := "ref.go:174", after := #[{ on := 32, ground := Ground.data }, { on := 39, ground := Ground.data }, { on := 29, ground := Ground.guard }], guard := some (29, false) }) (v := undef) rfl (by kernel_rfl) (by kernel_rfl) (by kernel_rfl) (fun _ _ _ h => h) (Or.inr ⟨by kernel_rfl, rfl⟩) (by assumption) ?_
                    (try simp only [Act.put, List.setIfInBounds_toArray, List.set_cons_zero, List.set_cons_succ])
                    refine wpAnyH_take (i := 41) (oi := { dst := some 95, op := Op.pick (Operand.tmp 83) (Operand.const (Value.bool true)) (Operand.tmp 94), type := 4, pos := "ref.go:174", after := #[{ on := 29, ground := Ground.data }, { on := 40, ground := Ground.data }], guard := none }) (v := ?_) rfl (by kernel_rfl) (by kernel_rfl) (by kernel_rfl) (fun _ _ _ h => h) (Or.inl ⟨by kernel_rfl, ?_⟩) (by assumption) ?_
                    rotate_left
                    · intro w hSw
                      (try dsimp only at hSw)
                      go_simp
                      all_goals (with_reducible rfl)
                    (try simp only [Act.put, List.setIfInBounds_toArray, List.set_cons_zero, List.set_cons_succ])
                    refine wpAnyH_done (by kernel_rfl) ?_ _
                    refine NoPanic.normal ?_
                    have hX := hHeld.1
                    clear hHeld
                    go_wp2_with fail
                    go_meet
                    exact ⟨by rw [← HY3.out]; unfold bad3; rw [HPE.out, HB2.out]; rfl, hX⟩
                  · skip
                    by_cases hc1 : p.su ≤ p.sf
                    · skip
                      have e0 : decide (p.sf < p.cf) = false := decide_eq_false (by omega)
                      have e1 : decide (p.su ≤ p.sf) = true := decide_eq_true (by omega)
                      have hb2 : bad2 p = true := by unfold bad2; rw [HZ.out, e0, e1]; rfl
                      have HB2 := Lib.hid hb2
                      clear hb2
                      have HC := Lib.hid (fun W (hW : Below V.heap.size V W) => show W.cell? ⟨B, 0, none⟩ = some (.int .i64 p.sat) ∧ W.cell? ⟨B, 1, none⟩ = some (.int .i64 p.stn) ∧ W.cell? ⟨B, 2, none⟩ = some (.int .i64 p.sf) ∧ W.cell? ⟨B, 3, none⟩ = some (.int .i64 p.su) ∧ W.cell? ⟨B, 4, none⟩ = some (.int .i64 p.cf) ∧ W.cell? ⟨B, 5, none⟩ = some (.int .i64 p.cu) from ⟨(hW.cell (p := ⟨B, 0, none⟩) lB).trans k0, (hW.cell (p := ⟨B, 1, none⟩) lB).trans k1, (hW.cell (p := ⟨B, 2, none⟩) lB).trans k2, (hW.cell (p := ⟨B, 3, none⟩) lB).trans k3, (hW.cell (p := ⟨B, 4, none⟩) lB).trans k4, (hW.cell (p := ⟨B, 5, none⟩) lB).trans k5⟩)
                      refine wp_region_noPanic ?_
                      refine wp_region_held_drew (S := (fun w' => Below V.heap.size V w' ∧ w'.cell? ⟨B, 0, none⟩ = some (.int .i64 p.sat) ∧ w'.cell? ⟨B, 1, none⟩ = some (.int .i64 p.stn) ∧ w'.cell? ⟨B, 2, none⟩ = some (.int .i64 p.sf) ∧ w'.cell? ⟨B, 3, none⟩ = some (.int .i64 p.su) ∧ w'.cell? ⟨B, 4, none⟩ = some (.int .i64 p.cf) ∧ w'.cell? ⟨B, 5, none⟩ = some (.int .i64 p.cu))) (by kernel_rfl) ⟨(Below.refl _ _).drew, HC.out _ (Below.refl _ _).drew⟩ (fun hHeld => ?_)
                      refine wpAnyH_take (i := 0) (oi := { dst := some 54, op := Op.move (Operand.tmp 5), type := 4, pos := "ref.go:174", after := #[], guard := none }) (v := ?_) rfl (by kernel_rfl) (by kernel_rfl) (by kernel_rfl) (fun _ _ _ h => h) (Or.inl ⟨by kernel_rfl, ?_⟩) (by assumption) ?_
                      rotate_left
                      · intro w hSw
                        (try dsimp only at hSw)
                        go_simp
                        all_goals (with_reducible rfl)
                      (try simp only [Act.put, List.setIfInBounds_toArray, List.set_cons_zero, List.set_cons_succ])
                      refine wpAnyH_take (i := 1) (oi := { dst := some 55, op := Op.unOp UnOp.not 4 (Operand.tmp 54), type := 4, pos := "ref.go:174", after := #[{ on := 0, ground := Ground.data }], guard := none }) (v := ?_) rfl (by kernel_rfl) (by kernel_rfl) (by kernel_rfl) (fun _ _ _ h => h) (Or.inl ⟨by kernel_rfl, ?_⟩) (by assumption) ?_
                      rotate_left
                      · intro w hSw
                        (try dsimp only at hSw)
                        go_simp
                        all_goals (with_reducible rfl)
                      (try simp only [Act.put, List.setIfInBounds_toArray, List.set_cons_zero, List.set_cons_succ])
                      refine wpAnyH_take (i := 2) (oi := { dst := some 56, op := Op.move (Operand.tmp 55), type := 4, pos := "ref.go:174", after := #[{ on := 1, ground := Ground.data }], guard := none }) (v := ?_) rfl (by kernel_rfl) (by kernel_rfl) (by kernel_rfl) (fun _ _ _ h => h) (Or.inl ⟨by kernel_rfl, ?_⟩) (by assumption) ?_
                      rotate_left
                      · intro w hSw
                        (try dsimp only at hSw)
                        go_simp
                        all_goals (with_reducible rfl)
                      (try simp only [Act.put, List.setIfInBounds_toArray, List.set_cons_zero, List.set_cons_succ])
                      refine wpAnyH_take (i := 3) (oi := { dst := some 57, op := Op.fieldAddr 30 (Operand.tmp 4) 2, type := 0, pos := "ref.go:174", after := #[{ on := 2, ground := Ground.guard }], guard := some (2, true) }) (v := ?_) rfl (by kernel_rfl) (by kernel_rfl) (by kernel_rfl) (fun _ _ _ h => h) (Or.inl ⟨by kernel_rfl, ?_⟩) (by assumption) ?_
                      rotate_left
                      · intro w hSw
                        (try dsimp only at hSw)
                        go_simp
                        all_goals (with_reducible rfl)
                      (try simp only [Act.put, List.setIfInBounds_toArray, List.set_cons_zero, List.set_cons_succ])
                      refine wpAnyH_take (i := 4) (oi := { dst := some 58, op := Op.fieldAddr 25 (Operand.tmp 57) 0, type := 0, pos := "ref.go:174", after := #[{ on := 3, ground := Ground.data }, { on := 2, ground := Ground.guard }], guard := some (2, true) }) (v := ?_) rfl (by kernel_rfl) (by kernel_rfl) (by kernel_rfl) (fun _ _ _ h => h) (Or.inl ⟨by kernel_rfl, ?_⟩) (by assumption) ?_
                      rotate_left
                      · intro w hSw
                        (try dsimp only at hSw)
                        go_simp
                        all_goals (with_reducible rfl)
                      (try simp only [Act.put, List.setIfInBounds_toArray, List.set_cons_zero, List.set_cons_succ])
                      refine wpAnyH_take (i := 5) (oi := { dst := some 59, op := Op.load 3 (Operand.tmp 58), type := 3, pos := "ref.go:174", after := #[{ on := 4, ground := Ground.data }, { on := 2, ground := Ground.guard }], guard := some (2, true) }) (v := ?_) rfl (by kernel_rfl) (by kernel_rfl) (by kernel_rfl) (fun _ _ _ h => h) (Or.inl ⟨by kernel_rfl, ?_⟩) (by assumption) ?_
                      rotate_left
                      · intro w hSw
                        (try dsimp only at hSw)
                        go_simp
                        all_goals (with_reducible rfl)
                      (try simp only [Act.put, List.setIfInBounds_toArray, List.set_cons_zero, List.set_cons_succ])
                      refine wpAnyH_take (i := 6) (oi := { dst := some 60, op := Op.fieldAddr 30 (Operand.tmp 4) 3, type := 0, pos := "ref.go:174", after := #[{ on := 2, ground := Ground.guard }], guard := some (2, true) }) (v := ?_) rfl (by kernel_rfl) (by kernel_rfl) (by kernel_rfl) (fun _ _ _ h => h) (Or.inl ⟨by kernel_rfl, ?_⟩) (by assumption) ?_
                      rotate_left
                      · intro w hSw
                        (try dsimp only at hSw)
                        go_simp
                        all_goals (with_reducible rfl)
                      (try simp only [Act.put, List.setIfInBounds_toArray, List.set_cons_zero, List.set_cons_succ])
                      refine wpAnyH_take (i := 7) (oi := { dst := some 61, op := Op.fieldAddr 25 (Operand.tmp 60) 0, type := 0, pos := "ref.go:174", after := #[{ on := 6, ground := Ground.data }, { on := 2, ground := Ground.guard }], guard := some (2, true) }) (v := ?_) rfl (by kernel_rfl) (by kernel_rfl) (by kernel_rfl) (fun _ _ _ h => h) (Or.inl ⟨by kernel_rfl, ?_⟩) (by assumption) ?_
                      rotate_left
                      · intro w hSw
                        (try dsimp only at hSw)
                        go_simp
                        all_goals (with_reducible rfl)
                      (try simp only [Act.put, List.setIfInBounds_toArray, List.set_cons_zero, List.set_cons_succ])
                      refine wpAnyH_take (i := 8) (oi := { dst := some 62, op := Op.load 3 (Operand.tmp 61), type := 3, pos := "ref.go:174", after := #[{ on := 7, ground := Ground.data }, { on := 2, ground := Ground.guard }], guard := some (2, true) }) (v := ?_) rfl (by kernel_rfl) (by kernel_rfl) (by kernel_rfl) (fun _ _ _ h => h) (Or.inl ⟨by kernel_rfl, ?_⟩) (by assumption) ?_
                      rotate_left
                      · intro w hSw
                        (try dsimp only at hSw)
                        go_simp
                        all_goals (with_reducible rfl)
                      (try simp only [Act.put, List.setIfInBounds_toArray, List.set_cons_zero, List.set_cons_succ])
                      refine wpAnyH_take (i := 9) (oi := { dst := some 63, op := Op.binOp BinOp.lss 3 (Operand.tmp 59) (Operand.tmp 62) 3, type := 4, pos := "ref.go:174", after := #[{ on := 5, ground := Ground.data }, { on := 8, ground := Ground.data }, { on := 2, ground := Ground.guard }], guard := some (2, true) }) (v := ?_) rfl (by kernel_rfl) (by kernel_rfl) (by kernel_rfl) (fun _ _ _ h => h) (Or.inl ⟨by kernel_rfl, ?_⟩) (by assumption) ?_
                      rotate_left
                      · intro w hSw
                        (try dsimp only at hSw)
                        go_simp
                        all_goals (with_reducible rfl)
                      (try simp only [Act.put, List.setIfInBounds_toArray, List.set_cons_zero, List.set_cons_succ])
                      refine wpAnyH_take (i := 10) (oi := { dst := some 64, op := Op.move (Operand.tmp 63), type := 4, pos := "ref.go:174", after := #[{ on := 9, ground := Ground.data }, { on := 2, ground := Ground.chain }, { on := 2, ground := Ground.guard }], guard := some (2, true) }) (v := ?_) rfl (by kernel_rfl) (by kernel_rfl) (by kernel_rfl) (fun _ _ _ h => h) (Or.inl ⟨by kernel_rfl, ?_⟩) (by assumption) ?_
                      rotate_left
                      · intro w hSw
                        (try dsimp only at hSw)
                        go_simp
                        all_goals (with_reducible rfl)
                      (try simp only [Act.put, List.setIfInBounds_toArray, List.set_cons_zero, List.set_cons_succ])
                      refine wpAnyH_take (i := 11) (oi := { dst := some 65, op := Op.fieldAddr 30 (Operand.tmp 4) 2, type := 0, pos := "ref.go:174", after := #[{ on := 10, ground := Ground.guard }], guard := some (10, false) }) (v := ?_) rfl (by kernel_rfl) (by kernel_rfl) (by kernel_rfl) (fun _ _ _ h => h) (Or.inl ⟨by kernel_rfl, ?_⟩) (by assumption) ?_
                      rotate_left
                      · intro w hSw
                        (try dsimp only at hSw)
                        go_simp
                        all_goals (with_reducible rfl)
                      (try simp only [Act.put, List.setIfInBounds_toArray, List.set_cons_zero, List.set_cons_succ])
                      refine wpAnyH_take (i := 12) (oi := { dst := some 66, op := Op.fieldAddr 25 (Operand.tmp 65) 0, type := 0, pos := "ref.go:174", after := #[{ on := 11, ground := Ground.data }, { on := 10, ground := Ground.guard }], guard := some (10, false) }) (v := ?_) rfl (by kernel_rfl) (by kernel_rfl) (by kernel_rfl) (fun _ _ _ h => h) (Or.inl ⟨by kernel_rfl, ?_⟩) (by assumption) ?_
                      rotate_left
                      · intro w hSw
                        (try dsimp only at hSw)
                        go_simp
                        all_goals (with_reducible rfl)
                      (try simp only [Act.put, List.setIfInBounds_toArray, List.set_cons_zero, List.set_cons_succ])
                      refine wpAnyH_take (i := 13) (oi := { dst := some 67, op := Op.load 3 (Operand.tmp 66), type := 3, pos := "ref.go:174", after := #[{ on := 12, ground := Ground.data }, { on := 10, ground := Ground.guard }], guard := some (10, false) }) (v := ?_) rfl (by kernel_rfl) (by kernel_rfl) (by kernel_rfl) (fun _ _ _ h => h) (Or.inl ⟨by kernel_rfl, ?_⟩) (by assumption) ?_
                      rotate_left
                      · intro w hSw
                        (try dsimp only at hSw)
                        go_simp
                        all_goals (with_reducible rfl)
                      (try simp only [Act.put, List.setIfInBounds_toArray, List.set_cons_zero, List.set_cons_succ])
                      refine wpAnyH_take (i := 14) (oi := { dst := some 68, op := Op.fieldAddr 30 (Operand.tmp 4) 2, type := 0, pos := "ref.go:174", after := #[{ on := 10, ground := Ground.guard }], guard := some (10, false) }) (v := ?_) rfl (by kernel_rfl) (by kernel_rfl) (by kernel_rfl) (fun _ _ _ h => h) (Or.inl ⟨by kernel_rfl, ?_⟩) (by assumption) ?_
                      rotate_left
                      · intro w hSw
                        (try dsimp only at hSw)
                        go_simp
                        all_goals (with_reducible rfl)
                      (try simp only [Act.put, List.setIfInBounds_toArray, List.set_cons_zero, List.set_cons_succ])
                      refine wpAnyH_take (i := 15) (oi := { dst := some 69, op := Op.fieldAddr 25 (Operand.tmp 68) 1, type := 0, pos := "ref.go:174", after := #[{ on := 14, ground := Ground.data }, { on := 10, ground := Ground.guard }], guard := some (10, false) }) (v := ?_) rfl (by kernel_rfl) (by kernel_rfl) (by kernel_rfl) (fun _ _ _ h => h) (Or.inl ⟨by kernel_rfl, ?_⟩) (by assumption) ?_
                      rotate_left
                      · intro w hSw
                        (try dsimp only at hSw)
                        go_simp
                        all_goals (with_reducible rfl)
                      (try simp only [Act.put, List.setIfInBounds_toArray, List.set_cons_zero, List.set_cons_succ])
                      refine wpAnyH_take (i := 16) (oi := { dst := some 70, op := Op.load 3 (Operand.tmp 69), type := 3, pos := "ref.go:174", after := #[{ on := 15, ground := Ground.data }, { on := 10, ground := Ground.guard }], guard := some (10, false) }) (v := ?_) rfl (by kernel_rfl) (by kernel_rfl) (by kernel_rfl) (fun _ _ _ h => h) (Or.inl ⟨by kernel_rfl, ?_⟩) (by assumption) ?_
                      rotate_left
                      · intro w hSw
                        (try dsimp only at hSw)
                        go_simp
                        all_goals (with_reducible rfl)
                      (try simp only [Act.put, List.setIfInBounds_toArray, List.set_cons_zero, List.set_cons_succ])
                      refine wpAnyH_take (i := 17) (oi := { dst := some 71, op := Op.binOp BinOp.geq 3 (Operand.tmp 67) (Operand.tmp 70) 3, type := 4, pos := "ref.go:174", after := #[{ on := 13, ground := Ground.data }, { on := 16, ground := Ground.data }, { on := 10, ground := Ground.guard }], guard := some (10, false) }) (v := ?_) rfl (by kernel_rfl) (by kernel_rfl) (by kernel_rfl) (fun _ _ _ h => h) (Or.inl ⟨by kernel_rfl, ?_⟩) (by assumption) ?_
                      rotate_left
                      · intro w hSw
                        (try dsimp only at hSw)
                        go_simp
                        all_goals (with_reducible rfl)
                      (try simp only [Act.put, List.setIfInBounds_toArray, List.set_cons_zero, List.set_cons_succ])
                      refine wpAnyH_take (i := 18) (oi := { dst := some 72, op := Op.pick (Operand.tmp 64) (Operand.const (Value.bool true)) (Operand.tmp 71), type := 4, pos := "ref.go:174", after := #[{ on := 10, ground := Ground.data }, { on := 17, ground := Ground.data }, { on := 2, ground := Ground.guard }], guard := some (2, true) }) (v := ?_) rfl (by kernel_rfl) (by kernel_rfl) (by kernel_rfl) (fun _ _ _ h => h) (Or.inl ⟨by kernel_rfl, ?_⟩) (by assumption) ?_
                      rotate_left
                      · intro w hSw
                        (try dsimp only at hSw)
                        go_simp
                        all_goals (with_reducible rfl)
                      (try simp only [Act.put, List.setIfInBounds_toArray, List.set_cons_zero, List.set_cons_succ])
                      refine wpAnyH_take (i := 19) (oi := { dst := some 73, op := Op.move (Operand.tmp 72), type := 4, pos := "ref.go:174", after := #[{ on := 18, ground := Ground.data }, { on := 10, ground := Ground.chain }, { on := 2, ground := Ground.guard }], guard := some (2, true) }) (v := ?_) rfl (by kernel_rfl) (by kernel_rfl) (by kernel_rfl) (fun _ _ _ h => h) (Or.inl ⟨by kernel_rfl, ?_⟩) (by assumption) ?_
                      rotate_left
                      · intro w hSw
                        (try dsimp only at hSw)
                        go_simp
                        all_goals (with_reducible rfl)
                      (try simp only [Act.put, List.setIfInBounds_toArray, List.set_cons_zero, List.set_cons_succ])
                      refine wpAnyH_take (i := 20) (oi := { dst := some 74, op := Op.fieldAddr 30 (Operand.tmp 4) 2, type := 0, pos := "ref.go:174", after := #[{ on := 19, ground := Ground.guard }], guard := some (19, false) }) (v := undef) rfl (by kernel_rfl) (by kernel_rfl) (by kernel_rfl) (fun _ _ _ h => h) (Or.inr ⟨by kernel_rfl, rfl⟩) (by assumption) ?_
                      (try simp only [Act.put, List.setIfInBounds_toArray, List.set_cons_zero, List.set_cons_succ])
                      refine wpAnyH_take (i := 21) (oi := { dst := some 75, op := Op.fieldAddr 25 (Operand.tmp 74) 1, type := 0, pos := "ref.go:174", after := #[{ on := 20, ground := Ground.data }, { on := 19, ground := Ground.guard }], guard := some (19, false) }) (v := undef) rfl (by kernel_rfl) (by kernel_rfl) (by kernel_rfl) (fun _ _ _ h => h) (Or.inr ⟨by kernel_rfl, rfl⟩) (by assumption) ?_
                      (try simp only [Act.put, List.setIfInBounds_toArray, List.set_cons_zero, List.set_cons_succ])
                      refine wpAnyH_take (i := 22) (oi := { dst := some 76, op := Op.load 3 (Operand.tmp 75), type := 3, pos := "ref.go:174", after := #[{ on := 21, ground := Ground.data }, { on := 19, ground := Ground.guard }], guard := some (19, false) }) (v := undef) rfl (by kernel_rfl) (by kernel_rfl) (by kernel_rfl) (fun _ _ _ h => h) (Or.inr ⟨by kernel_rfl, rfl⟩) (by assumption) ?_
                      (try simp only [Act.put, List.setIfInBounds_toArray, List.set_cons_zero, List.set_cons_succ])
                      refine wpAnyH_take (i := 23) (oi := { dst := some 77, op := Op.fieldAddr 30 (Operand.tmp 4) 3, type := 0, pos := "ref.go:174", after := #[{ on := 19, ground := Ground.guard }], guard := some (19, false) }) (v := undef) rfl (by kernel_rfl) (by kernel_rfl) (by kernel_rfl) (fun _ _ _ h => h) (Or.inr ⟨by kernel_rfl, rfl⟩) (by assumption) ?_
                      (try simp only [Act.put, List.setIfInBounds_toArray, List.set_cons_zero, List.set_cons_succ])
                      refine wpAnyH_take (i := 24) (oi := { dst := some 78, op := Op.fieldAddr 25 (Operand.tmp 77) 1, type := 0, pos := "ref.go:174", after := #[{ on := 23, ground := Ground.data }, { on := 19, ground := Ground.guard }], guard := some (19, false) }) (v := undef) rfl (by kernel_rfl) (by kernel_rfl) (by kernel_rfl) (fun _ _ _ h => h) (Or.inr ⟨by kernel_rfl, rfl⟩) (by assumption) ?_
                      (try simp only [Act.put, List.setIfInBounds_toArray, List.set_cons_zero, List.set_cons_succ])
                      refine wpAnyH_take (i := 25) (oi := { dst := some 79, op := Op.load 3 (Operand.tmp 78), type := 3, pos := "ref.go:174", after := #[{ on := 24, ground := Ground.data }, { on := 19, ground := Ground.guard }], guard := some (19, false) }) (v := undef) rfl (by kernel_rfl) (by kernel_rfl) (by kernel_rfl) (fun _ _ _ h => h) (Or.inr ⟨by kernel_rfl, rfl⟩) (by assumption) ?_
                      (try simp only [Act.put, List.setIfInBounds_toArray, List.set_cons_zero, List.set_cons_succ])
                      refine wpAnyH_take (i := 26) (oi := { dst := some 80, op := Op.binOp BinOp.gtr 3 (Operand.tmp 76) (Operand.tmp 79) 3, type := 4, pos := "ref.go:174", after := #[{ on := 22, ground := Ground.data }, { on := 25, ground := Ground.data }, { on := 19, ground := Ground.guard }], guard := some (19, false) }) (v := undef) rfl (by kernel_rfl) (by kernel_rfl) (by kernel_rfl) (fun _ _ _ h => h) (Or.inr ⟨by kernel_rfl, rfl⟩) (by assumption) ?_
                      (try simp only [Act.put, List.setIfInBounds_toArray, List.set_cons_zero, List.set_cons_succ])
                      refine wpAnyH_take (i := 27) (oi := { dst := some 81, op := Op.pick (Operand.tmp 73) (Operand.const (Value.bool true)) (Operand.tmp 80), type := 4, pos := "ref.go:174", after := #[{ on := 19, ground := Ground.data }, { on := 26, ground := Ground.data }, { on := 2, ground := Ground.guard }], guard := some (2, true) }) (v := ?_) rfl (by kernel_rfl) (by kernel_rfl) (by kernel_rfl) (fun _ _ _ h => h) (Or.inl ⟨by kernel_rfl, ?_⟩) (by assumption) ?_
                      rotate_left
                      · intro w hSw
                        (try dsimp only at hSw)
                        go_simp
                        all_goals (with_reducible rfl)
                      (try simp only [Act.put, List.setIfInBounds_toArray, List.set_cons_zero, List.set_cons_succ])
                      refine wpAnyH_take (i := 28) (oi := { dst := some 82, op := Op.pick (Operand.tmp 56) (Operand.tmp 81) (Operand.const (Value.bool false)), type := 4, pos := "ref.go:174", after := #[{ on := 2, ground := Ground.data }, { on := 27, ground := Ground.data }], guard := none }) (v := ?_) rfl (by kernel_rfl) (by kernel_rfl) (by kernel_rfl) (fun _ _ _ h => h) (Or.inl ⟨by kernel_rfl, ?_⟩) (by assumption) ?_
                      rotate_left
                      · intro w hSw
                        (try dsimp only at hSw)
                        go_simp
                        all_goals (with_reducible rfl)
                      (try simp only [Act.put, List.setIfInBounds_toArray, List.set_cons_zero, List.set_cons_succ])
                      refine wpAnyH_take (i := 29) (oi := { dst := some 83, op := Op.move (Operand.tmp 82), type := 4, pos := "ref.go:174", after := #[{ on := 28, ground := Ground.data }, { on := 19, ground := Ground.chain }], guard := none }) (v := ?_) rfl (by kernel_rfl) (by kernel_rfl) (by kernel_rfl) (fun _ _ _ h => h) (Or.inl ⟨by kernel_rfl, ?_⟩) (by assumption) ?_
                      rotate_left
                      · intro w hSw
                        (try dsimp only at hSw)
                        go_simp
                        all_goals (with_reducible rfl)
                      (try simp only [Act.put, List.setIfInBounds_toArray, List.set_cons_zero, List.set_cons_succ])
                      refine wpAnyH_take (i := 30) (oi := { dst := some 84, op := Op.move (Operand.tmp 3), type := 3, pos := "ref.go:174", after := #[{ on := 29, ground := Ground.guard }], guard := some (29, false) }) (v := undef) rfl (by kernel_rfl) (by kernel_rfl) (by kernel_rfl) (fun _ _ _ h => h) (Or.inr ⟨by kernel_rfl, rfl⟩) (by assumption) ?_
                      (try simp only [Act.put, List.setIfInBounds_toArray, List.set_cons_zero, List.set_cons_succ])
                      refine wpAnyH_take (i := 31) (oi := { dst := some 85, op := Op.binOp BinOp.gtr 3 (Operand.tmp 84) (Operand.const (Value.int IntKind.i64 0)) 3, type := 4, pos := "ref.go:174", after := #[{ on := 30, ground := Ground.data }, { on := 29, ground := Ground.guard }], guard := some (29, false) }) (v := undef) rfl (by kernel_rfl) (by kernel_rfl) (by kernel_rfl) (fun _ _ _ h => h) (Or.inr ⟨by kernel_rfl, rfl⟩) (by assumption) ?_
                      (try simp only [Act.put, List.setIfInBounds_toArray, List.set_cons_zero, List.set_cons_succ])
                      refine wpAnyH_take (i := 32) (oi := { dst := some 86, op := Op.move (Operand.tmp 85), type := 4, pos := "ref.go:174", after := #[{ on := 31, ground := Ground.data }, { on := 29, ground := Ground.chain }, { on := 29, ground := Ground.guard }], guard := some (29, false) }) (v := undef) rfl (by kernel_rfl) (by kernel_rfl) (by kernel_rfl) (fun _ _ _ h => h) (Or.inr ⟨by kernel_rfl, rfl⟩) (by assumption) ?_
                      (try simp only [Act.put, List.setIfInBounds_toArray, List.set_cons_zero, List.set_cons_succ])
                      refine wpAnyH_take (i := 33) (oi := { dst := some 87, op := Op.load 30 (Operand.tmp 4), type := 30, pos := "ref.go:174", after := #[{ on := 32, ground := Ground.guard }], guard := some (32, true) }) (v := undef) rfl (by kernel_rfl) (by kernel_rfl) (by kernel_rfl) (fun _ _ _ h => h) (Or.inr ⟨by kernel_rfl, rfl⟩) (by assumption) ?_
                      (try simp only [Act.put, List.setIfInBounds_toArray, List.set_cons_zero, List.set_cons_succ])
                      refine wpAnyH_take (i := 34) (oi := { dst := some 88, op := Op.move (Operand.tmp 0), type := 32, pos := "ref.go:174", after := #[{ on := 32, ground := Ground.guard }], guard := some (32, true) }) (v := undef) rfl (by kernel_rfl) (by kernel_rfl) (by kernel_rfl) (fun _ _ _ h => h) (Or.inr ⟨by kernel_rfl, rfl⟩) (by assumption) ?_
                      (try simp only [Act.put, List.setIfInBounds_toArray, List.set_cons_zero, List.set_cons_succ])
                      refine wpAnyH_take (i := 35) (oi := { dst := some 89, op := Op.move (Operand.tmp 3), type := 3, pos := "ref.go:174", after := #[{ on := 32, ground := Ground.guard }], guard := some (32, true) }) (v := undef) rfl (by kernel_rfl) (by kernel_rfl) (by kernel_rfl) (fun _ _ _ h => h) (Or.inr ⟨by kernel_rfl, rfl⟩) (by assumption) ?_
                      (try simp only [Act.put, List.setIfInBounds_toArray, List.set_cons_zero, List.set_cons_succ])
                      refine wpAnyH_take (i := 36) (oi := { dst := some 90, op := Op.binOp BinOp.sub 3 (Operand.tmp 89) (Operand.const (Value.int IntKind.i64 1)) 3, type := 3, pos := "ref.go:174", after := #[{ on := 35, ground := Ground.data }, { on := 32, ground := Ground.guard }], guard := some (32, true) }) (v := undef) rfl (by kernel_rfl) (by kernel_rfl) (by kernel_rfl) (fun _ _ _ h => h) (Or.inr ⟨by kernel_rfl, rfl⟩) (by assumption) ?_
                      (try simp only [Act.put, List.setIfInBounds_toArray, List.set_cons_zero, List.set_cons_succ])
                      refine wpAnyH_take (i := 37) (oi := { dst := some 91, op := Op.indexAddr 32 (Operand.tmp 88) (Operand.tmp 90), type := 0, pos := "ref.go:174", after := #[{ on := 34, ground := Ground.data }, { on := 36, ground := Ground.data }, { on := 32, ground := Ground.guard }], guard := some (32, true) }) (v := undef) rfl (by kernel_rfl) (by kernel_rfl) (by kernel_rfl) (fun _ _ _ h => h) (Or.inr ⟨by kernel_rfl, rfl⟩) (by assumption) ?_
                      (try simp only [Act.put, List.setIfInBounds_toArray, List.set_cons_zero, List.set_cons_succ])
                      refine wpAnyH_take (i := 38) (oi := { dst := some 92, op := Op.load 30 (Operand.tmp 91), type := 30, pos := "ref.go:174", after := #[{ on := 37, ground := Ground.data }, { on := 32, ground := Ground.guard }], guard := some (32, true) }) (v := undef) rfl (by kernel_rfl) (by kernel_rfl) (by kernel_rfl) (fun _ _ _ h => h) (Or.inr ⟨by kernel_rfl, rfl⟩) (by assumption) ?_
                      (try simp only [Act.put, List.setIfInBounds_toArray, List.set_cons_zero, List.set_cons_succ])
                      refine wpAnyH_take (i := 39) (oi := { dst := some 93, op := Op.call { callee := Callee.value (Operand.func 69), args := #[Operand.tmp 87, Operand.tmp 92], argTypes := #[30, 30] }, type := 4, pos := "ref.go:174", after := #[{ on := 33, ground := Ground.data }, { on := 38, ground := Ground.data }, { on := 32, ground := Ground.chain }, { on := 32, ground := Ground.guard }], guard := some (32, true) }) (v := undef) rfl (by kernel_rfl) (by kernel_rfl) (by kernel_rfl) (fun _ _ _ h => h) (Or.inr ⟨by kernel_rfl, rfl⟩) (by assumption) ?_
                      (try simp only [Act.put, List.setIfInBounds_toArray, List.set_cons_zero, List.set_cons_succ])
                      refine wpAnyH_take (i := 40) (oi := { dst := some 94, op := Op.pick (Operand.tmp 86) (Operand.tmp 93) (Operand.const (Value.bool false)), type := 4, pos := "ref.go:174", after := #[{ on := 32, ground := Ground.data }, { on := 39, ground := Ground.data }, { on := 29, ground := Ground.guard }], guard := some (29, false) }) (v := undef) rfl (by kernel_rfl) (by kernel_rfl) (by kernel_rfl) (fun _ _ _ h => h) (Or.inr ⟨by kernel_rfl, rfl⟩) (by assumption) ?_
                      (try simp only [Act.put, List.setIfInBounds_toArray, List.set_cons_zero, List.set_cons_succ])
                      refine wpAnyH_take (i := 41) (oi := { dst := some 95, op := Op.pick (Operand.tmp 83) (Operand.const (Value.bool true)) (Operand.tmp 94), type := 4, pos := "ref.go:174", after := #[{ on := 29, ground := Ground.data }, { on := 40, ground := Ground.data }], guard := none }) (v := ?_) rfl (by kernel_rfl) (by kernel_rfl) (by kernel_rfl) (fun _ _ _ h => h) (Or.inl ⟨by kernel_rfl, ?_⟩) (by assumption) ?_
                      rotate_left
                      · intro w hSw
                        (try dsimp only at hSw)
                        go_simp
                        all_goals (with_reducible rfl)
                      (try simp only [Act.put, List.setIfInBounds_toArray, List.set_cons_zero, List.set_cons_succ])
                      refine wpAnyH_done (by kernel_rfl) ?_ _
                      refine NoPanic.normal ?_
                      have hX := hHeld.1
                      clear hHeld
                      go_wp2_with fail
                      go_meet
                      exact ⟨by rw [← HY3.out]; unfold bad3; rw [HPE.out, HB2.out]; rfl, hX⟩
                    · skip
                      by_cases hc2 : p.cu < p.su
                      · skip
                        have e0 : decide (p.sf < p.cf) = false := decide_eq_false (by omega)
                        have e1 : decide (p.su ≤ p.sf) = false := decide_eq_false (by omega)
                        have e2 : decide (p.cu < p.su) = true := decide_eq_true (by omega)
                        have hb2 : bad2 p = true := by unfold bad2; rw [HZ.out, e0, e1, e2]; rfl
                        have HB2 := Lib.hid hb2
                        clear hb2
                        have HC := Lib.hid (fun W (hW : Below V.heap.size V W) => show W.cell? ⟨B, 0, none⟩ = some (.int .i64 p.sat) ∧ W.cell? ⟨B, 1, none⟩ = some (.int .i64 p.stn) ∧ W.cell? ⟨B, 2, none⟩ = some (.int .i64 p.sf) ∧ W.cell? ⟨B, 3, none⟩ = some (.int .i64 p.su) ∧ W.cell? ⟨B, 4, none⟩ = some (.int .i64 p.cf) ∧ W.cell? ⟨B, 5, none⟩ = some (.int .i64 p.cu) from ⟨(hW.cell (p := ⟨B, 0, none⟩) lB).trans k0, (hW.cell (p := ⟨B, 1, none⟩) lB).trans k1, (hW.cell (p := ⟨B, 2, none⟩) lB).trans k2, (hW.cell (p := ⟨B, 3, none⟩) lB).trans k3, (hW.cell (p := ⟨B, 4, none⟩) lB).trans k4, (hW.cell (p := ⟨B, 5, none⟩) lB).trans k5⟩)
                        refine wp_region_noPanic ?_
                        refine wp_region_held_drew (S := (fun w' => Below V.heap.size V w' ∧ w'.cell? ⟨B, 0, none⟩ = some (.int .i64 p.sat) ∧ w'.cell? ⟨B, 1, none⟩ = some (.int .i64 p.stn) ∧ w'.cell? ⟨B, 2, none⟩ = some (.int .i64 p.sf) ∧ w'.cell? ⟨B, 3, none⟩ = some (.int .i64 p.su) ∧ w'.cell? ⟨B, 4, none⟩ = some (.int .i64 p.cf) ∧ w'.cell? ⟨B, 5, none⟩ = some (.int .i64 p.cu))) (by kernel_rfl) ⟨(Below.refl _ _).drew, HC.out _ (Below.refl _ _).drew⟩ (fun hHeld => ?_)
                        refine wpAnyH_take (i := 0) (oi := { dst := some 54, op := Op.move (Operand.tmp 5), type := 4, pos := "ref.go:174", after := #[], guard := none }) (v := ?_) rfl (by kernel_rfl) (by kernel_rfl) (by kernel_rfl) (fun _ _ _ h => h) (Or.inl ⟨by kernel_rfl, ?_⟩) (by assumption) ?_
                        rotate_left
                        · intro w hSw
                          (try dsimp only at hSw)
                          go_simp
                          all_goals (with_reducible rfl)
                        (try simp only [Act.put, List.setIfInBounds_toArray, List.set_cons_zero, List.set_cons_succ])
                        refine wpAnyH_take (i := 1) (oi := { dst := some 55, op := Op.unOp UnOp.not 4 (Operand.tmp 54), type := 4, pos := "ref.go:174", after := #[{ on := 0, ground := Ground.data }], guard := none }) (v := ?_) rfl (by kernel_rfl) (by kernel_rfl) (by kernel_rfl) (fun _ _ _ h => h) (Or.inl ⟨by kernel_rfl, ?_⟩) (by assumption) ?_
                        rotate_left
                        · intro w hSw
                          (try dsimp only at hSw)
                          go_simp
                          all_goals (with_reducible rfl)
                        (try simp only [Act.put, List.setIfInBounds_toArray, List.set_cons_zero, List.set_cons_succ])
                        refine wpAnyH_take (i := 2) (oi := { dst := some 56, op := Op.move (Operand.tmp 55), type := 4, pos := "ref.go:174", after := #[{ on := 1, ground := Ground.data }], guard := none }) (v := ?_) rfl (by kernel_rfl) (by kernel_rfl) (by kernel_rfl) (fun _ _ _ h => h) (Or.inl ⟨by kernel_rfl, ?_⟩) (by assumption) ?_
                        rotate_left
                        · intro w hSw
                          (try dsimp only at hSw)
                          go_simp
                          all_goals (with_reducible rfl)
                        (try simp only [Act.put, List.setIfInBounds_toArray, List.set_cons_zero, List.set_cons_succ])
                        refine wpAnyH_take (i := 3) (oi := { dst := some 57, op := Op.fieldAddr 30 (Operand.tmp 4) 2, type := 0, pos := "ref.go:174", after := #[{ on := 2, ground := Ground.guard }], guard := some (2, true) }) (v := ?_) rfl (by kernel_rfl) (by kernel_rfl) (by kernel_rfl) (fun _ _ _ h => h) (Or.inl ⟨by kernel_rfl, ?_⟩) (by assumption) ?_
                        rotate_left
                        · intro w hSw
                          (try dsimp only at hSw)
                          go_simp
                          all_goals (with_reducible rfl)
                        (try simp only [Act.put, List.setIfInBounds_toArray, List.set_cons_zero, List.set_cons_succ])
                        refine wpAnyH_take (i := 4) (oi := { dst := some 58, op := Op.fieldAddr 25 (Operand.tmp 57) 0, type := 0, pos := "ref.go:174", after := #[{ on := 3, ground := Ground.data }, { on := 2, ground := Ground.guard }], guard := some (2, true) }) (v := ?_) rfl (by kernel_rfl) (by kernel_rfl) (by kernel_rfl) (fun _ _ _ h => h) (Or.inl ⟨by kernel_rfl, ?_⟩) (by assumption) ?_
                        rotate_left
                        · intro w hSw
                          (try dsimp only at hSw)
                          go_simp
                          all_goals (with_reducible rfl)
                        (try simp only [Act.put, List.setIfInBounds_toArray, List.set_cons_zero, List.set_cons_succ])
                        refine wpAnyH_take (i := 5) (oi := { dst := some 59, op := Op.load 3 (Operand.tmp 58), type := 3, pos := "ref.go:174", after := #[{ on := 4, ground := Ground.data }, { on := 2, ground := Ground.guard }], guard := some (2, true) }) (v := ?_) rfl (by kernel_rfl) (by kernel_rfl) (by kernel_rfl) (fun _ _ _ h => h) (Or.inl ⟨by kernel_rfl, ?_⟩) (by assumption) ?_
                        rotate_left
                        · intro w hSw
                          (try dsimp only at hSw)
                          go_simp
                          all_goals (with_reducible rfl)
                        (try simp only [Act.put, List.setIfInBounds_toArray, List.set_cons_zero, List.set_cons_succ])
                        refine wpAnyH_take (i := 6) (oi := { dst := some 60, op := Op.fieldAddr 30 (Operand.tmp 4) 3, type := 0, pos := "ref.go:174", after := #[{ on := 2, ground := Ground.guard }], guard := some (2, true) }) (v := ?_) rfl (by kernel_rfl) (by kernel_rfl) (by kernel_rfl) (fun _ _ _ h => h) (Or.inl ⟨by kernel_rfl, ?_⟩) (by assumption) ?_
                        rotate_left
                        · intro w hSw
                          (try dsimp only at hSw)
                          go_simp
                          all_goals (with_reducible rfl)
                        (try simp only [Act.put, List.setIfInBounds_toArray, List.set_cons_zero, List.set_cons_succ])
                        refine wpAnyH_take (i := 7) (oi := { dst := some 61, op := Op.fieldAddr 25 (Operand.tmp 60) 0, type := 0, pos := "ref.go:174", after := #[{ on := 6, ground := Ground.data }, { on := 2, ground := Ground.guard }], guard := some (2, true) }) (v := ?_) rfl (by kernel_rfl) (by kernel_rfl) (by kernel_rfl) (fun _ _ _ h => h) (Or.inl ⟨by kernel_rfl, ?_⟩) (by assumption) ?_
                        rotate_left
                        · intro w hSw
                          (try dsimp only at hSw)
                          go_simp
                          all_goals (with_reducible rfl)
                        (try simp only [Act.put, List.setIfInBounds_toArray, List.set_cons_zero, List.set_cons_succ])
                        refine wpAnyH_take (i := 8) (oi := { dst := some 62, op := Op.load 3 (Operand.tmp 61), type := 3, pos := "ref.go:174", after := #[{ on := 7, ground := Ground.data }, { on := 2, ground := Ground.guard }], guard := some (2, true) }) (v := ?_) rfl (by kernel_rfl) (by kernel_rfl) (by kernel_rfl) (fun _ _ _ h => h) (Or.inl ⟨by kernel_rfl, ?_⟩) (by assumption) ?_
                        rotate_left
                        · intro w hSw
                          (try dsimp only at hSw)
                          go_simp
                          all_goals (with_reducible rfl)
                        (try simp only [Act.put, List.setIfInBounds_toArray, List.set_cons_zero, List.set_cons_succ])
                        refine wpAnyH_take (i := 9) (oi := { dst := some 63, op := Op.binOp BinOp.lss 3 (Operand.tmp 59) (Operand.tmp 62) 3, type := 4, pos := "ref.go:174", after := #[{ on := 5, ground := Ground.data }, { on := 8, ground := Ground.data }, { on := 2, ground := Ground.guard }], guard := some (2, true) }) (v := ?_) rfl (by kernel_rfl) (by kernel_rfl) (by kernel_rfl) (fun _ _ _ h => h) (Or.inl ⟨by kernel_rfl, ?_⟩) (by assumption) ?_
                        rotate_left
                        · intro w hSw
                          (try dsimp only at hSw)
                          go_simp
                          all_goals (with_reducible rfl)
                        (try simp only [Act.put, List.setIfInBounds_toArray, List.set_cons_zero, List.set_cons_succ])
                        refine wpAnyH_take (i := 10) (oi := { dst := some 64, op := Op.move (Operand.tmp 63), type := 4, pos := "ref.go:174", after := #[{ on := 9, ground := Ground.data }, { on := 2, ground := Ground.chain }, { on := 2, ground := Ground.guard }], guard := some (2, true) }) (v := ?_) rfl (by kernel_rfl) (by kernel_rfl) (by kernel_rfl) (fun _ _ _ h => h) (Or.inl ⟨by kernel_rfl, ?_⟩) (by assumption) ?_
                        rotate_left
                        · intro w hSw
                          (try dsimp only at hSw)
                          go_simp
                          all_goals (with_reducible rfl)
                        (try simp only [Act.put, List.setIfInBounds_toArray, List.set_cons_zero, List.set_cons_succ])
                        refine wpAnyH_take (i := 11) (oi := { dst := some 65, op := Op.fieldAddr 30 (Operand.tmp 4) 2, type := 0, pos := "ref.go:174", after := #[{ on := 10, ground := Ground.guard }], guard := some (10, false) }) (v := ?_) rfl (by kernel_rfl) (by kernel_rfl) (by kernel_rfl) (fun _ _ _ h => h) (Or.inl ⟨by kernel_rfl, ?_⟩) (by assumption) ?_
                        rotate_left
                        · intro w hSw
                          (try dsimp only at hSw)
                          go_simp
                          all_goals (with_reducible rfl)
                        (try simp only [Act.put, List.setIfInBounds_toArray, List.set_cons_zero, List.set_cons_succ])
                        refine wpAnyH_take (i := 12) (oi := { dst := some 66, op := Op.fieldAddr 25 (Operand.tmp 65) 0, type := 0, pos := "ref.go:174", after := #[{ on := 11, ground := Ground.data }, { on := 10, ground := Ground.guard }], guard := some (10, false) }) (v := ?_) rfl (by kernel_rfl) (by kernel_rfl) (by kernel_rfl) (fun _ _ _ h => h) (Or.inl ⟨by kernel_rfl, ?_⟩) (by assumption) ?_
                        rotate_left
                        · intro w hSw
                          (try dsimp only at hSw)
                          go_simp
                          all_goals (with_reducible rfl)
                        (try simp only [Act.put, List.setIfInBounds_toArray, List.set_cons_zero, List.set_cons_succ])
                        refine wpAnyH_take (i := 13) (oi := { dst := some 67, op := Op.load 3 (Operand.tmp 66), type := 3, pos := "ref.go:174", after := #[{ on := 12, ground := Ground.data }, { on := 10, ground := Ground.guard }], guard := some (10, false) }) (v := ?_) rfl (by kernel_rfl) (by kernel_rfl) (by kernel_rfl) (fun _ _ _ h => h) (Or.inl ⟨by kernel_rfl, ?_⟩) (by assumption) ?_
                        rotate_left
                        · intro w hSw
                          (try dsimp only at hSw)
                          go_simp
                          all_goals (with_reducible rfl)
                        (try simp only [Act.put, List.setIfInBounds_toArray, List.set_cons_zero, List.set_cons_succ])
                        refine wpAnyH_take (i := 14) (oi := { dst := some 68, op := Op.fieldAddr 30 (Operand.tmp 4) 2, type := 0, pos := "ref.go:174", after := #[{ on := 10, ground := Ground.guard }], guard := some (10, false) }) (v := ?_) rfl (by kernel_rfl) (by kernel_rfl) (by kernel_rfl) (fun _ _ _ h => h) (Or.inl ⟨by kernel_rfl, ?_⟩) (by assumption) ?_
                        rotate_left
                        · intro w hSw
                          (try dsimp only at hSw)
                          go_simp
                          all_goals (with_reducible rfl)
                        (try simp only [Act.put, List.setIfInBounds_toArray, List.set_cons_zero, List.set_cons_succ])
                        refine wpAnyH_take (i := 15) (oi := { dst := some 69, op := Op.fieldAddr 25 (Operand.tmp 68) 1, type := 0, pos := "ref.go:174", after := #[{ on := 14, ground := Ground.data }, { on := 10, ground := Ground.guard }], guard := some (10, false) }) (v := ?_) rfl (by kernel_rfl) (by kernel_rfl) (by kernel_rfl) (fun _ _ _ h => h) (Or.inl ⟨by kernel_rfl, ?_⟩) (by assumption) ?_
                        rotate_left
                        · intro w hSw
                          (try dsimp only at hSw)
                          go_simp
                          all_goals (with_reducible rfl)
                        (try simp only [Act.put, List.setIfInBounds_toArray, List.set_cons_zero, List.set_cons_succ])
                        refine wpAnyH_take (i := 16) (oi := { dst := some 70, op := Op.load 3 (Operand.tmp 69), type := 3, pos := "ref.go:174", after := #[{ on := 15, ground := Ground.data }, { on := 10, ground := Ground.guard }], guard := some (10, false) }) (v := ?_) rfl (by kernel_rfl) (by kernel_rfl) (by kernel_rfl) (fun _ _ _ h => h) (Or.inl ⟨by kernel_rfl, ?_⟩) (by assumption) ?_
                        rotate_left
                        · intro w hSw
                          (try dsimp only at hSw)
                          go_simp
                          all_goals (with_reducible rfl)
                        (try simp only [Act.put, List.setIfInBounds_toArray, List.set_cons_zero, List.set_cons_succ])
                        refine wpAnyH_take (i := 17) (oi := { dst := some 71, op := Op.binOp BinOp.geq 3 (Operand.tmp 67) (Operand.tmp 70) 3, type := 4, pos := "ref.go:174", after := #[{ on := 13, ground := Ground.data }, { on := 16, ground := Ground.data }, { on := 10, ground := Ground.guard }], guard := some (10, false) }) (v := ?_) rfl (by kernel_rfl) (by kernel_rfl) (by kernel_rfl) (fun _ _ _ h => h) (Or.inl ⟨by kernel_rfl, ?_⟩) (by assumption) ?_
                        rotate_left
                        · intro w hSw
                          (try dsimp only at hSw)
                          go_simp
                          all_goals (with_reducible rfl)
                        (try simp only [Act.put, List.setIfInBounds_toArray, List.set_cons_zero, List.set_cons_succ])
                        refine wpAnyH_take (i := 18) (oi := { dst := some 72, op := Op.pick (Operand.tmp 64) (Operand.const (Value.bool true)) (Operand.tmp 71), type := 4, pos := "ref.go:174", after := #[{ on := 10, ground := Ground.data }, { on := 17, ground := Ground.data }, { on := 2, ground := Ground.guard }], guard := some (2, true) }) (v := ?_) rfl (by kernel_rfl) (by kernel_rfl) (by kernel_rfl) (fun _ _ _ h => h) (Or.inl ⟨by kernel_rfl, ?_⟩) (by assumption) ?_
                        rotate_left
                        · intro w hSw
                          (try dsimp only at hSw)
                          go_simp
                          all_goals (with_reducible rfl)
                        (try simp only [Act.put, List.setIfInBounds_toArray, List.set_cons_zero, List.set_cons_succ])
                        refine wpAnyH_take (i := 19) (oi := { dst := some 73, op := Op.move (Operand.tmp 72), type := 4, pos := "ref.go:174", after := #[{ on := 18, ground := Ground.data }, { on := 10, ground := Ground.chain }, { on := 2, ground := Ground.guard }], guard := some (2, true) }) (v := ?_) rfl (by kernel_rfl) (by kernel_rfl) (by kernel_rfl) (fun _ _ _ h => h) (Or.inl ⟨by kernel_rfl, ?_⟩) (by assumption) ?_
                        rotate_left
                        · intro w hSw
                          (try dsimp only at hSw)
                          go_simp
                          all_goals (with_reducible rfl)
                        (try simp only [Act.put, List.setIfInBounds_toArray, List.set_cons_zero, List.set_cons_succ])
                        refine wpAnyH_take (i := 20) (oi := { dst := some 74, op := Op.fieldAddr 30 (Operand.tmp 4) 2, type := 0, pos := "ref.go:174", after := #[{ on := 19, ground := Ground.guard }], guard := some (19, false) }) (v := ?_) rfl (by kernel_rfl) (by kernel_rfl) (by kernel_rfl) (fun _ _ _ h => h) (Or.inl ⟨by kernel_rfl, ?_⟩) (by assumption) ?_
                        rotate_left
                        · intro w hSw
                          (try dsimp only at hSw)
                          go_simp
                          all_goals (with_reducible rfl)
                        (try simp only [Act.put, List.setIfInBounds_toArray, List.set_cons_zero, List.set_cons_succ])
                        refine wpAnyH_take (i := 21) (oi := { dst := some 75, op := Op.fieldAddr 25 (Operand.tmp 74) 1, type := 0, pos := "ref.go:174", after := #[{ on := 20, ground := Ground.data }, { on := 19, ground := Ground.guard }], guard := some (19, false) }) (v := ?_) rfl (by kernel_rfl) (by kernel_rfl) (by kernel_rfl) (fun _ _ _ h => h) (Or.inl ⟨by kernel_rfl, ?_⟩) (by assumption) ?_
                        rotate_left
                        · intro w hSw
                          (try dsimp only at hSw)
                          go_simp
                          all_goals (with_reducible rfl)
                        (try simp only [Act.put, List.setIfInBounds_toArray, List.set_cons_zero, List.set_cons_succ])
                        refine wpAnyH_take (i := 22) (oi := { dst := some 76, op := Op.load 3 (Operand.tmp 75), type := 3, pos := "ref.go:174", after := #[{ on := 21, ground := Ground.data }, { on := 19, ground := Ground.guard }], guard := some (19, false) }) (v := ?_) rfl (by kernel_rfl) (by kernel_rfl) (by kernel_rfl) (fun _ _ _ h => h) (Or.inl ⟨by kernel_rfl, ?_⟩) (by assumption) ?_
                        rotate_left
                        · intro w hSw
                          (try dsimp only at hSw)
                          go_simp
                          all_goals (with_reducible rfl)
                        (try simp only [Act.put, List.setIfInBounds_toArray, List.set_cons_zero, List.set_cons_succ])
                        refine wpAnyH_take (i := 23) (oi := { dst := some 77, op := Op.fieldAddr 30 (Operand.tmp 4) 3, type := 0, pos := "ref.go:174", after := #[{ on := 19, ground := Ground.guard }], guard := some (19, false) }) (v := ?_) rfl (by kernel_rfl) (by kernel_rfl) (by kernel_rfl) (fun _ _ _ h => h) (Or.inl ⟨by kernel_rfl, ?_⟩) (by assumption) ?_
                        rotate_left
                        · intro w hSw
                          (try dsimp only at hSw)
                          go_simp
                          all_goals (with_reducible rfl)
                        (try simp only [Act.put, List.setIfInBounds_toArray, List.set_cons_zero, List.set_cons_succ])
                        refine wpAnyH_take (i := 24) (oi := { dst := some 78, op := Op.fieldAddr 25 (Operand.tmp 77) 1, type := 0, pos := "ref.go:174", after := #[{ on := 23, ground := Ground.data }, { on := 19, ground := Ground.guard }], guard := some (19, false) }) (v := ?_) rfl (by kernel_rfl) (by kernel_rfl) (by kernel_rfl) (fun _ _ _ h => h) (Or.inl ⟨by kernel_rfl, ?_⟩) (by assumption) ?_
                        rotate_left
                        · intro w hSw
                          (try dsimp only at hSw)
                          go_simp
                          all_goals (with_reducible rfl)
                        (try simp only [Act.put, List.setIfInBounds_toArray, List.set_cons_zero, List.set_cons_succ])
                        refine wpAnyH_take (i := 25) (oi := { dst := some 79, op := Op.load 3 (Operand.tmp 78), type := 3, pos := "ref.go:174", after := #[{ on := 24, ground := Ground.data }, { on := 19, ground := Ground.guard }], guard := some (19, false) }) (v := ?_) rfl (by kernel_rfl) (by kernel_rfl) (by kernel_rfl) (fun _ _ _ h => h) (Or.inl ⟨by kernel_rfl, ?_⟩) (by assumption) ?_
                        rotate_left
                        · intro w hSw
                          (try dsimp only at hSw)
                          go_simp
                          all_goals (with_reducible rfl)
                        (try simp only [Act.put, List.setIfInBounds_toArray, List.set_cons_zero, List.set_cons_succ])
                        refine wpAnyH_take (i := 26) (oi := { dst := some 80, op := Op.binOp BinOp.gtr 3 (Operand.tmp 76) (Operand.tmp 79) 3, type := 4, pos := "ref.go:174", after := #[{ on := 22, ground := Ground.data }, { on := 25, ground := Ground.data }, { on := 19, ground := Ground.guard }], guard := some (19, false) }) (v := ?_) rfl (by kernel_rfl) (by kernel_rfl) (by kernel_rfl) (fun _ _ _ h => h) (Or.inl ⟨by kernel_rfl, ?_⟩) (by assumption) ?_
                        rotate_left
                        · intro w hSw
                          (try dsimp only at hSw)
                          go_simp
                          all_goals (with_reducible rfl)
                        (try simp only [Act.put, List.setIfInBounds_toArray, List.set_cons_zero, List.set_cons_succ])
                        refine wpAnyH_take (i := 27) (oi := { dst := some 81, op := Op.pick (Operand.tmp 73) (Operand.const (Value.bool true)) (Operand.tmp 80), type := 4, pos := "ref.go:174", after := #[{ on := 19, ground := Ground.data }, { on := 26, ground := Ground.data }, { on := 2, ground := Ground.guard }], guard := some (2, true) }) (v := ?_) rfl (by kernel_rfl) (by kernel_rfl) (by kernel_rfl) (fun _ _ _ h => h) (Or.inl ⟨by kernel_rfl, ?_⟩) (by assumption) ?_
                        rotate_left
                        · intro w hSw
                          (try dsimp only at hSw)
                          go_simp
                          all_goals (with_reducible rfl)
                        (try simp only [Act.put, List.setIfInBounds_toArray, List.set_cons_zero, List.set_cons_succ])
                        refine wpAnyH_take (i := 28) (oi := { dst := some 82, op := Op.pick (Operand.tmp 56) (Operand.tmp 81) (Operand.const (Value.bool false)), type := 4, pos := "ref.go:174", after := #[{ on := 2, ground := Ground.data }, { on := 27, ground := Ground.data }], guard := none }) (v := ?_) rfl (by kernel_rfl) (by kernel_rfl) (by kernel_rfl) (fun _ _ _ h => h) (Or.inl ⟨by kernel_rfl, ?_⟩) (by assumption) ?_
                        rotate_left
                        · intro w hSw
                          (try dsimp only at hSw)
                          go_simp
                          all_goals (with_reducible rfl)
                        (try simp only [Act.put, List.setIfInBounds_toArray, List.set_cons_zero, List.set_cons_succ])
                        refine wpAnyH_take (i := 29) (oi := { dst := some 83, op := Op.move (Operand.tmp 82), type := 4, pos := "ref.go:174", after := #[{ on := 28, ground := Ground.data }, { on := 19, ground := Ground.chain }], guard := none }) (v := ?_) rfl (by kernel_rfl) (by kernel_rfl) (by kernel_rfl) (fun _ _ _ h => h) (Or.inl ⟨by kernel_rfl, ?_⟩) (by assumption) ?_
                        rotate_left
                        · intro w hSw
                          (try dsimp only at hSw)
                          go_simp
                          all_goals (with_reducible rfl)
                        (try simp only [Act.put, List.setIfInBounds_toArray, List.set_cons_zero, List.set_cons_succ])
                        refine wpAnyH_take (i := 30) (oi := { dst := some 84, op := Op.move (Operand.tmp 3), type := 3, pos := "ref.go:174", after := #[{ on := 29, ground := Ground.guard }], guard := some (29, false) }) (v := undef) rfl (by kernel_rfl) (by kernel_rfl) (by kernel_rfl) (fun _ _ _ h => h) (Or.inr ⟨by kernel_rfl, rfl⟩) (by assumption) ?_
                        (try simp only [Act.put, List.setIfInBounds_toArray, List.set_cons_zero, List.set_cons_succ])
                        refine wpAnyH_take (i := 31) (oi := { dst := some 85, op := Op.binOp BinOp.gtr 3 (Operand.tmp 84) (Operand.const (Value.int IntKind.i64 0)) 3, type := 4, pos := "ref.go:174", after := #[{ on := 30, ground := Ground.data }, { on := 29, ground := Ground.guard }], guard := some (29, false) }) (v := undef) rfl (by kernel_rfl) (by kernel_rfl) (by kernel_rfl) (fun _ _ _ h => h) (Or.inr ⟨by kernel_rfl, rfl⟩) (by assumption) ?_
                        (try simp only [Act.put, List.setIfInBounds_toArray, List.set_cons_zero, List.set_cons_succ])
                        refine wpAnyH_take (i := 32) (oi := { dst := some 86, op := Op.move (Operand.tmp 85), type := 4, pos := "ref.go:174", after := #[{ on := 31, ground := Ground.data }, { on := 29, ground := Ground.chain }, { on := 29, ground := Ground.guard }], guard := some (29, false) }) (v := undef) rfl (by kernel_rfl) (by kernel_rfl) (by kernel_rfl) (fun _ _ _ h => h) (Or.inr ⟨by kernel_rfl, rfl⟩) (by assumption) ?_
                        (try simp only [Act.put, List.setIfInBounds_toArray, List.set_cons_zero, List.set_cons_succ])
                        refine wpAnyH_take (i := 33) (oi := { dst := some 87, op := Op.load 30 (Operand.tmp 4), type := 30, pos := "ref.go:174", after := #[{ on := 32, ground := Ground.guard }], guard := some (32, true) }) (v := undef) rfl (by kernel_rfl) (by kernel_rfl) (by kernel_rfl) (fun _ _ _ h => h) (Or.inr ⟨by kernel_rfl, rfl⟩) (by assumption) ?_
                        (try simp only [Act.put, List.setIfInBounds_toArray, List.set_cons_zero, List.set_cons_succ])
                        refine wpAnyH_take (i := 34) (oi := { dst := some 88, op := Op.move (Operand.tmp 0), type := 32, pos := "ref.go:174", after := #[{ on := 32, ground := Ground.guard }], guard := some (32, true) }) (v := undef) rfl (by kernel_rfl) (by kernel_rfl) (by kernel_rfl) (fun _ _ _ h => h) (Or.inr ⟨by kernel_rfl, rfl⟩) (by assumption) ?_
                        (try simp only [Act.put, List.setIfInBounds_toArray, List.set_cons_zero, List.set_cons_succ])
                        refine wpAnyH_take (i := 35) (oi := { dst := some 89, op := Op.move (Operand.tmp 3), type := 3, pos := "ref.go:174", after := #[{ on := 32, ground := Ground.guard }], guard := some (32, true) }) (v := undef) rfl (by kernel_rfl) (by kernel_rfl) (by kernel_rfl) (fun _ _ _ h => h) (Or.inr ⟨by kernel_rfl, rfl⟩) (by assumption) ?_
                        (try simp only [Act.put, List.setIfInBounds_toArray, List.set_cons_zero, List.set_cons_succ])
                        refine wpAnyH_take (i := 36) (oi := { dst := some 90, op := Op.binOp BinOp.sub 3 (Operand.tmp 89) (Operand.const (Value.int IntKind.i64 1)) 3, type := 3, pos := "ref.go:174", after := #[{ on := 35, ground := Ground.data }, { on := 32, ground := Ground.guard }], guard := some (32, true) }) (v := undef) rfl (by kernel_rfl) (by kernel_rfl) (by kernel_rfl) (fun _ _ _ h => h) (Or.inr ⟨by kernel_rfl, rfl⟩) (by assumption) ?_
                        (try simp only [Act.put, List.setIfInBounds_toArray, List.set_cons_zero, List.set_cons_succ])
                        refine wpAnyH_take (i := 37) (oi := { dst := some 91, op := Op.indexAddr 32 (Operand.tmp 88) (Operand.tmp 90), type := 0, pos := "ref.go:174", after := #[{ on := 34, ground := Ground.data }, { on := 36, ground := Ground.data }, { on := 32, ground := Ground.guard }], guard := some (32, true) }) (v := undef) rfl (by kernel_rfl) (by kernel_rfl) (by kernel_rfl) (fun _ _ _ h => h) (Or.inr ⟨by kernel_rfl, rfl⟩) (by assumption) ?_
                        (try simp only [Act.put, List.setIfInBounds_toArray, List.set_cons_zero, List.set_cons_succ])
                        refine wpAnyH_take (i := 38) (oi := { dst := some 92, op := Op.load 30 (Operand.tmp 91), type := 30, pos := "ref.go:174", after := #[{ on := 37, ground := Ground.data }, { on := 32, ground := Ground.guard }], guard := some (32, true) }) (v := undef) rfl (by kernel_rfl) (by kernel_rfl) (by kernel_rfl) (fun _ _ _ h => h) (Or.inr ⟨by kernel_rfl, rfl⟩) (by assumption) ?_
                        (try simp only [Act.put, List.setIfInBounds_toArray, List.set_cons_zero, List.set_cons_succ])
                        refine wpAnyH_take (i := 39) (oi := { dst := some 93, op := Op.call { callee := Callee.value (Operand.func 69), args := #[Operand.tmp 87, Operand.tmp 92], argTypes := #[30, 30] }, type := 4, pos := "ref.go:174", after := #[{ on := 33, ground := Ground.data }, { on := 38, ground := Ground.data }, { on := 32, ground := Ground.chain }, { on := 32, ground := Ground.guard }], guard := some (32, true) }) (v := undef) rfl (by kernel_rfl) (by kernel_rfl) (by kernel_rfl) (fun _ _ _ h => h) (Or.inr ⟨by kernel_rfl, rfl⟩) (by assumption) ?_
                        (try simp only [Act.put, List.setIfInBounds_toArray, List.set_cons_zero, List.set_cons_succ])
                        refine wpAnyH_take (i := 40) (oi := { dst := some 94, op := Op.pick (Operand.tmp 86) (Operand.tmp 93) (Operand.const (Value.bool false)), type := 4, pos := "ref.go:174", after := #[{ on := 32, ground := Ground.data }, { on := 39, ground := Ground.data }, { on := 29, ground := Ground.guard }], guard := some (29, false) }) (v := undef) rfl (by kernel_rfl) (by kernel_rfl) (by kernel_rfl) (fun _ _ _ h => h) (Or.inr ⟨by kernel_rfl, rfl⟩) (by assumption) ?_
                        (try simp only [Act.put, List.setIfInBounds_toArray, List.set_cons_zero, List.set_cons_succ])
                        refine wpAnyH_take (i := 41) (oi := { dst := some 95, op := Op.pick (Operand.tmp 83) (Operand.const (Value.bool true)) (Operand.tmp 94), type := 4, pos := "ref.go:174", after := #[{ on := 29, ground := Ground.data }, { on := 40, ground := Ground.data }], guard := none }) (v := ?_) rfl (by kernel_rfl) (by kernel_rfl) (by kernel_rfl) (fun _ _ _ h => h) (Or.inl ⟨by kernel_rfl, ?_⟩) (by assumption) ?_
                        rotate_left
                        · intro w hSw
                          (try dsimp only at hSw)
                          go_simp
                          all_goals (with_reducible rfl)
                        (try simp only [Act.put, List.setIfInBounds_toArray, List.set_cons_zero, List.set_cons_succ])
                        refine wpAnyH_done (by kernel_rfl) ?_ _
                        refine NoPanic.normal ?_
                        have hX := hHeld.1
                        clear hHeld
                        go_wp2_with fail
                        go_meet
                        exact ⟨by rw [← HY3.out]; unfold bad3; rw [HPE.out, HB2.out]; rfl, hX⟩
                      · skip
                        have e0 : decide (p.sf < p.cf) = false := decide_eq_false (by omega)
                        have e1 : decide (p.su ≤ p.sf) = false := decide_eq_false (by omega)
                        have e2 : decide (p.cu < p.su) = false := decide_eq_false (by omega)
                        have hb2 : bad2 p = false := by unfold bad2; rw [HZ.out, e0, e1, e2]; rfl
                        have HB2 := Lib.hid hb2
                        clear hb2
                        by_cases hk0 : 0 < k
                        · obtain ⟨m, hkm⟩ : ∃ m, k = m + 1 := ⟨k - 1, by omega⟩
                          have hw1 : IntKind.i64.wrap ((k : Int) - 1) = (m : Int) := by rw [IntKind.wrap_i64]; omega
                          have i2 : (0 : Int) ≤ (m : Int) ∧ (m : Int) < (l.length : Int) := by omega
                          have i3 : decide ((0 : Int) < (k : Int)) = true := decide_eq_true (by omega)
                          obtain ⟨b', off', e2, d0, d1, d2, d3, d4, d5⟩ := (PassesAt.later HV.out hB1).get (getD_some noPass (show m < l.length by omega))
                          cases e2
                          have lb : b < V.heap.size := World.block_lt_of_cell? _ _ d0
                          have HX := Lib.hid (before69 p (l.getD m noPass))
                          generalize hq : l.getD m noPass = q at d0 d1 d2 d3 d4 d5 HX
                          have HQ := Lib.hid hq
                          have HKM := Lib.hid hkm
                          obtain ⟨y, hy⟩ : ∃ y, L18.beforeB p q = y := ⟨_, rfl⟩
                          rw [hy] at HX
                          have HY := Lib.hid hy
                          clear hq hkm hy
                          have HC := Lib.hid (fun W (hW : Below V.heap.size V W) => show W.cell? ⟨B, 0, none⟩ = some (.int .i64 p.sat) ∧ W.cell? ⟨B, 1, none⟩ = some (.int .i64 p.stn) ∧ W.cell? ⟨B, 2, none⟩ = some (.int .i64 p.sf) ∧ W.cell? ⟨B, 3, none⟩ = some (.int .i64 p.su) ∧ W.cell? ⟨B, 4, none⟩ = some (.int .i64 p.cf) ∧ W.cell? ⟨B, 5, none⟩ = some (.int .i64 p.cu) ∧ W.cell? ⟨b, off + m * 6, none⟩ = some (.int .i64 q.sat) ∧ W.cell? ⟨b, off + m * 6 + 1, none⟩ = some (.int .i64 q.stn) ∧ W.cell? ⟨b, off + m * 6 + 2, none⟩ = some (.int .i64 q.sf) ∧ W.cell? ⟨b, off + m * 6 + 3, none⟩ = some (.int .i64 q.su) ∧ W.cell? ⟨b, off + m * 6 + 4, none⟩ = some (.int .i64 q.cf) ∧ W.cell? ⟨b, off + m * 6 + 5, none⟩ = some (.int .i64 q.cu) from ⟨(hW.cell (p := ⟨B, 0, none⟩) lB).trans k0, (hW.cell (p := ⟨B, 1, none⟩) lB).trans k1, (hW.cell (p := ⟨B, 2, none⟩) lB).trans k2, (hW.cell (p := ⟨B, 3, none⟩) lB).trans k3, (hW.cell (p := ⟨B, 4, none⟩) lB).trans k4, (hW.cell (p := ⟨B, 5, none⟩) lB).trans k5, (hW.cell (p := ⟨b, off + m * 6, none⟩) lb).trans d0, (hW.cell (p := ⟨b, off + m * 6 + 1, none⟩) lb).trans d1, (hW.cell (p := ⟨b, off + m * 6 + 2, none⟩) lb).trans d2, (hW.cell (p := ⟨b, off + m * 6 + 3, none⟩) lb).trans d3, (hW.cell (p := ⟨b, off + m * 6 + 4, none⟩) lb).trans d4, (hW.cell (p := ⟨b, off + m * 6 + 5, none⟩) lb).trans d5⟩)
                          refine wp_region_noPanic ?_
                          refine wp_region_held_drew (S := (fun w' => Below V.heap.size V w' ∧ w'.cell? ⟨B, 0, none⟩ = some (.int .i64 p.sat) ∧ w'.cell? ⟨B, 1, none⟩ = some (.int .i64 p.stn) ∧ w'.cell? ⟨B, 2, none⟩ = some (.int .i64 p.sf) ∧ w'.cell? ⟨B, 3, none⟩ = some (.int .i64 p.su) ∧ w'.cell? ⟨B, 4, none⟩ = some (.int .i64 p.cf) ∧ w'.cell? ⟨B, 5, none⟩ = some (.int .i64 p.cu) ∧ w'.cell? ⟨b, off + m * 6, none⟩ = some (.int .i64 q.sat) ∧ w'.cell? ⟨b, off + m * 6 + 1, none⟩ = some (.int .i64 q.stn) ∧ w'.cell? ⟨b, off + m * 6 + 2, none⟩ = some (.int .i64 q.sf) ∧ w'.cell? ⟨b, off + m * 6 + 3, none⟩ = some (.int .i64 q.su) ∧ w'.cell? ⟨b, off + m * 6 + 4, none⟩ = some (.int .i64 q.cf) ∧ w'.cell? ⟨b, off + m * 6 + 5, none⟩ = some (.int .i64 q.cu))) (by kernel_rfl) ⟨(Below.refl _ _).drew, HC.out _ (Below.refl _ _).drew⟩ (fun hHeld => ?_)
                          refine wpAnyH_take (i := 0) (oi := { dst := some 54, op := Op.move (Operand.tmp 5), type := 4, pos := "ref.go:174", after := #[], guard := none }) (v := ?_) rfl (by kernel_rfl) (by kernel_rfl) (by kernel_rfl) (fun _ _ _ h => h) (Or.inl ⟨by kernel_rfl, ?_⟩) (by assumption) ?_
                          rotate_left
                          · intro w hSw
                            (try dsimp only at hSw)
                            go_simp
                            all_goals (with_reducible rfl)
                          (try simp only [Act.put, List.setIfInBounds_toArray, List.set_cons_zero, List.set_cons_succ])
                          refine wpAnyH_take (i := 1) (oi := { dst := some 55, op := Op.unOp UnOp.not 4 (Operand.tmp 54), type := 4, pos := "ref.go:174", after := #[{ on := 0, ground := Ground.data }], guard := none }) (v := ?_) rfl (by kernel_rfl) (by kernel_rfl) (by kernel_rfl) (fun _ _ _ h => h) (Or.inl ⟨by kernel_rfl, ?_⟩) (by assumption) ?_
                          rotate_left
                          · intro w hSw
                            (try dsimp only at hSw)
                            go_simp
                            all_goals (with_reducible rfl)
                          (try simp only [Act.put, List.setIfInBounds_toArray, List.set_cons_zero, List.set_cons_succ])
                          refine wpAnyH_take (i := 2) (oi := { dst := some 56, op := Op.move (Operand.tmp 55), type := 4, pos := "ref.go:174", after := #[{ on := 1, ground := Ground.data }], guard := none }) (v := ?_) rfl (by kernel_rfl) (by kernel_rfl) (by kernel_rfl) (fun _ _ _ h => h) (Or.inl ⟨by kernel_rfl, ?_⟩) (by assumption) ?_
                          rotate_left
                          · intro w hSw
                            (try dsimp only at hSw)
                            go_simp
                            all_goals (with_reducible rfl)
                          (try simp only [Act.put, List.setIfInBounds_toArray, List.set_cons_zero, List.set_cons_succ])
                          refine wpAnyH_take (i := 3) (oi := { dst := some 57, op := Op.fieldAddr 30 (Operand.tmp 4) 2, type := 0, pos := "ref.go:174", after := #[{ on := 2, ground := Ground.guard }], guard := some (2, true) }) (v := ?_) rfl (by kernel_rfl) (by kernel_rfl) (by kernel_rfl) (fun _ _ _ h => h) (Or.inl ⟨by kernel_rfl, ?_⟩) (by assumption) ?_
                          rotate_left
                          · intro w hSw
                            (try dsimp only at hSw)
                            go_simp
                            all_goals (with_reducible rfl)
                          (try simp only [Act.put, List.setIfInBounds_toArray, List.set_cons_zero, List.set_cons_succ])
                          refine wpAnyH_take (i := 4) (oi := { dst := some 58, op := Op.fieldAddr 25 (Operand.tmp 57) 0, type := 0, pos := "ref.go:174", after := #[{ on := 3, ground := Ground.data }, { on := 2, ground := Ground.guard }], guard := some (2, true) }) (v := ?_) rfl (by kernel_rfl) (by kernel_rfl) (by kernel_rfl) (fun _ _ _ h => h) (Or.inl ⟨by kernel_rfl, ?_⟩) (by assumption) ?_
                          rotate_left
                          · intro w hSw
                            (try dsimp only at hSw)
                            go_simp
                            all_goals (with_reducible rfl)
                          (try simp only [Act.put, List.setIfInBounds_toArray, List.set_cons_zero, List.set_cons_succ])
                          refine wpAnyH_take (i := 5) (oi := { dst := some 59, op := Op.load 3 (Operand.tmp 58), type := 3, pos := "ref.go:174", after := #[{ on := 4, ground := Ground.data }, { on := 2, ground := Ground.guard }], guard := some (2, true) }) (v := ?_) rfl (by kernel_rfl) (by kernel_rfl) (by kernel_rfl) (fun _ _ _ h => h) (Or.inl ⟨by kernel_rfl, ?_⟩) (by assumption) ?_
                          rotate_left
                          · intro w hSw
                            (try dsimp only at hSw)
                            go_simp
                            all_goals (with_reducible rfl)
                          (try simp only [Act.put, List.setIfInBounds_toArray, List.set_cons_zero, List.set_cons_succ])
                          refine wpAnyH_take (i := 6) (oi := { dst := some 60, op := Op.fieldAddr 30 (Operand.tmp 4) 3, type := 0, pos := "ref.go:174", after := #[{ on := 2, ground := Ground.guard }], guard := some (2, true) }) (v := ?_) rfl (by kernel_rfl) (by kernel_rfl) (by kernel_rfl) (fun _ _ _ h => h) (Or.inl ⟨by kernel_rfl, ?_⟩) (by assumption) ?_
                          rotate_left
                          · intro w hSw
                            (try dsimp only at hSw)
                            go_simp
                            all_goals (with_reducible rfl)
                          (try simp only [Act.put, List.setIfInBounds_toArray, List.set_cons_zero, List.set_cons_succ])
                          refine wpAnyH_take (i := 7) (oi := { dst := some 61, op := Op.fieldAddr 25 (Operand.tmp 60) 0, type := 0, pos := "ref.go:174", after := #[{ on := 6, ground := Ground.data }, { on := 2, ground := Ground.guard }], guard := some (2, true) }) (v := ?_) rfl (by kernel_rfl) (by kernel_rfl) (by kernel_rfl) (fun _ _ _ h => h) (Or.inl ⟨by kernel_rfl, ?_⟩) (by assumption) ?_
                          rotate_left
                          · intro w hSw
                            (try dsimp only at hSw)
                            go_simp
                            all_goals (with_reducible rfl)
                          (try simp only [Act.put, List.setIfInBounds_toArray, List.set_cons_zero, List.set_cons_succ])
                          refine wpAnyH_take (i := 8) (oi := { dst := some 62, op := Op.load 3 (Operand.tmp 61), type := 3, pos := "ref.go:174", after := #[{ on := 7, ground := Ground.data }, { on := 2, ground := Ground.guard }], guard := some (2, true) }) (v := ?_) rfl (by kernel_rfl) (by kernel_rfl) (by kernel_rfl) (fun _ _ _ h => h) (Or.inl ⟨by kernel_rfl, ?_⟩) (by assumption) ?_
                          rotate_left
                          · intro w hSw
                            (try dsimp only at hSw)
                            go_simp
                            all_goals (with_reducible rfl)
                          (try simp only [Act.put, List.setIfInBounds_toArray, List.set_cons_zero, List.set_cons_succ])
                          refine wpAnyH_take (i := 9) (oi := { dst := some 63, op := Op.binOp BinOp.lss 3 (Operand.tmp 59) (Operand.tmp 62) 3, type := 4, pos := "ref.go:174", after := #[{ on := 5, ground := Ground.data }, { on := 8, ground := Ground.data }, { on := 2, ground := Ground.guard }], guard := some (2, true) }) (v := ?_) rfl (by kernel_rfl) (by kernel_rfl) (by kernel_rfl) (fun _ _ _ h => h) (Or.inl ⟨by kernel_rfl, ?_⟩) (by assumption) ?_
                          rotate_left
                          · intro w hSw
                            (try dsimp only at hSw)
                            go_simp
                            all_goals (with_reducible rfl)
                          (try simp only [Act.put, List.setIfInBounds_toArray, List.set_cons_zero, List.set_cons_succ])
                          refine wpAnyH_take (i := 10) (oi := { dst := some 64, op := Op.move (Operand.tmp 63), type := 4, pos := "ref.go:174", after := #[{ on := 9, ground := Ground.data }, { on := 2, ground := Ground.chain }, { on := 2, ground := Ground.guard }], guard := some (2, true) }) (v := ?_) rfl (by kernel_rfl) (by kernel_rfl) (by kernel_rfl) (fun _ _ _ h => h) (Or.inl ⟨by kernel_rfl, ?_⟩) (by assumption) ?_
                          rotate_left
                          · intro w hSw
                            (try dsimp only at hSw)
                            go_simp
                            all_goals (with_reducible rfl)
                          (try simp only [Act.put, List.setIfInBounds_toArray, List.set_cons_zero, List.set_cons_succ])
                          refine wpAnyH_take (i := 11) (oi := { dst := some 65, op := Op.fieldAddr 30 (Operand.tmp 4) 2, type := 0, pos := "ref.go:174", after := #[{ on := 10, ground := Ground.guard }], guard := some (10, false) }) (v := ?_) rfl (by kernel_rfl) (by kernel_rfl) (by kernel_rfl) (fun _ _ _ h => h) (Or.inl ⟨by kernel_rfl, ?_⟩) (by assumption) ?_
                          rotate_left
                          · intro w hSw
                            (try dsimp only at hSw)
                            go_simp
                            all_goals (with_reducible rfl)
                          (try simp only [Act.put, List.setIfInBounds_toArray, List.set_cons_zero, List.set_cons_succ])
                          refine wpAnyH_take (i := 12) (oi := { dst := some 66, op := Op.fieldAddr 25 (Operand.tmp 65) 0, type := 0, pos := "ref.go:174", after := #[{ on := 11, ground := Ground.data }, { on := 10, ground := Ground.guard }], guard := some (10, false) }) (v := ?_) rfl (by kernel_rfl) (by kernel_rfl) (by kernel_rfl) (fun _ _ _ h => h) (Or.inl ⟨by kernel_rfl, ?_⟩) (by assumption) ?_
                          rotate_left
                          · intro w hSw
                            (try dsimp only at hSw)
                            go_simp
                            all_goals (with_reducible rfl)
                          (try simp only [Act.put, List.setIfInBounds_toArray, List.set_cons_zero, List.set_cons_succ])
                          refine wpAnyH_take (i := 13) (oi := { dst := some 67, op := Op.load 3 (Operand.tmp 66), type := 3, pos := "ref.go:174", after := #[{ on := 12, ground := Ground.data }, { on := 10, ground := Ground.guard }], guard := some (10, false) }) (v := ?_) rfl (by kernel_rfl) (by kernel_rfl) (by kernel_rfl) (fun _ _ _ h => h) (Or.inl ⟨by kernel_rfl, ?_⟩) (by assumption) ?_
                          rotate_left
                          · intro w hSw
                            (try dsimp only at hSw)
                            go_simp
                            all_goals (with_reducible rfl)
                          (try simp only [Act.put, List.setIfInBounds_toArray, List.set_cons_zero, List.set_cons_succ])
                          refine wpAnyH_take (i := 14) (oi := { dst := some 68, op := Op.fieldAddr 30 (Operand.tmp 4) 2, type := 0, pos := "ref.go:174", after := #[{ on := 10, ground := Ground.guard }], guard := some (10, false) }) (v := ?_) rfl (by kernel_rfl) (by kernel_rfl) (by kernel_rfl) (fun _ _ _ h => h) (Or.inl ⟨by kernel_rfl, ?_⟩) (by assumption) ?_
                          rotate_left
                          · intro w hSw
                            (try dsimp only at hSw)
                            go_simp
                            all_goals (with_reducible rfl)
                          (try simp only [Act.put, List.setIfInBounds_toArray, List.set_cons_zero, List.set_cons_succ])
                          refine wpAnyH_take (i := 15) (oi := { dst := some 69, op := Op.fieldAddr 25 (Operand.tmp 68) 1, type := 0, pos := "ref.go:174", after := #[{ on := 14, ground := Ground.data }, { on := 10, ground := Ground.guard }], guard := some (10, false) }) (v := ?_) rfl (by kernel_rfl) (by kernel_rfl) (by kernel_rfl) (fun _ _ _ h => h) (Or.inl ⟨by kernel_rfl, ?_⟩) (by assumption) ?_
                          rotate_left
                          · intro w hSw
                            (try dsimp only at hSw)
                            go_simp
                            all_goals (with_reducible rfl)
                          (try simp only [Act.put, List.setIfInBounds_toArray, List.set_cons_zero, List.set_cons_succ])
                          refine wpAnyH_take (i := 16) (oi := { dst := some 70, op := Op.load 3 (Operand.tmp 69), type := 3, pos := "ref.go:174", after := #[{ on := 15, ground := Ground.data }, { on := 10, ground := Ground.guard }], guard := some (10, false) }) (v := ?_) rfl (by kernel_rfl) (by kernel_rfl) (by kernel_rfl) (fun _ _ _ h => h) (Or.inl ⟨by kernel_rfl, ?_⟩) (by assumption) ?_
                          rotate_left
                          · intro w hSw
                            (try dsimp only at hSw)
                            go_simp
                            all_goals (with_reducible rfl)
                          (try simp only [Act.put, List.setIfInBounds_toArray, List.set_cons_zero, List.set_cons_succ])
                          refine wpAnyH_take (i := 17) (oi := { dst := some 71, op := Op.binOp BinOp.geq 3 (Operand.tmp 67) (Operand.tmp 70) 3, type := 4, pos := "ref.go:174", after := #[{ on := 13, ground := Ground.data }, { on := 16, ground := Ground.data }, { on := 10, ground := Ground.guard }], guard := some (10, false) }) (v := ?_) rfl (by kernel_rfl) (by kernel_rfl) (by kernel_rfl) (fun _ _ _ h => h) (Or.inl ⟨by kernel_rfl, ?_⟩) (by assumption) ?_
                          rotate_left
                          · intro w hSw
                            (try dsimp only at hSw)
                            go_simp
                            all_goals (with_reducible rfl)
                          (try simp only [Act.put, List.setIfInBounds_toArray, List.set_cons_zero, List.set_cons_succ])
                          refine wpAnyH_take (i := 18) (oi := { dst := some 72, op := Op.pick (Operand.tmp 64) (Operand.const (Value.bool true)) (Operand.tmp 71), type := 4, pos := "ref.go:174", after := #[{ on := 10, ground := Ground.data }, { on := 17, ground := Ground.data }, { on := 2, ground := Ground.guard }], guard := some (2, true) }) (v := ?_) rfl (by kernel_rfl) (by kernel_rfl) (by kernel_rfl) (fun _ _ _ h => h) (Or.inl ⟨by kernel_rfl, ?_⟩) (by assumption) ?_
                          rotate_left
                          · intro w hSw
                            (try dsimp only at hSw)
                            go_simp
                            all_goals (with_reducible rfl)
                          (try simp only [Act.put, List.setIfInBounds_toArray, List.set_cons_zero, List.set_cons_succ])
                          refine wpAnyH_take (i := 19) (oi := { dst := some 73, op := Op.move (Operand.tmp 72), type := 4, pos := "ref.go:174", after := #[{ on := 18, ground := Ground.data }, { on := 10, ground := Ground.chain }, { on := 2, ground := Ground.guard }], guard := some (2, true) }) (v := ?_) rfl (by kernel_rfl) (by kernel_rfl) (by kernel_rfl) (fun _ _ _ h => h) (Or.inl ⟨by kernel_rfl, ?_⟩) (by assumption) ?_
                          rotate_left
                          · intro w hSw
                            (try dsimp only at hSw)
                            go_simp
                            all_goals (with_reducible rfl)
                          (try simp only [Act.put, List.setIfInBounds_toArray, List.set_cons_zero, List.set_cons_succ])
                          refine wpAnyH_take (i := 20) (oi := { dst := some 74, op := Op.fieldAddr 30 (Operand.tmp 4) 2, type := 0, pos := "ref.go:174", after := #[{ on := 19, ground := Ground.guard }], guard := some (19, false) }) (v := ?_) rfl (by kernel_rfl) (by kernel_rfl) (by kernel_rfl) (fun _ _ _ h => h) (Or.inl ⟨by kernel_rfl, ?_⟩) (by assumption) ?_
                          rotate_left
                          · intro w hSw
                            (try dsimp only at hSw)
                            go_simp
                            all_goals (with_reducible rfl)
                          (try simp only [Act.put, List.setIfInBounds_toArray, List.set_cons_zero, List.set_cons_succ])
                          refine wpAnyH_take (i := 21) (oi := { dst := some 75, op := Op.fieldAddr 25 (Operand.tmp 74) 1, type := 0, pos := "ref.go:174", after := #[{ on := 20, ground := Ground.data }, { on := 19, ground := Ground.guard }], guard := some (19, false) }) (v := ?_) rfl (by kernel_rfl) (by kernel_rfl) (by kernel_rfl) (fun _ _ _ h => h) (Or.inl ⟨by kernel_rfl, ?_⟩) (by assumption) ?_
                          rotate_left
                          · intro w hSw
                            (try dsimp only at hSw)
                            go_simp
                            all_goals (with_reducible rfl)
                          (try simp only [Act.put, List.setIfInBounds_toArray, List.set_cons_zero, List.set_cons_succ])
                          refine wpAnyH_take (i := 22) (oi := { dst := some 76, op := Op.load 3 (Operand.tmp 75), type := 3, pos := "ref.go:174", after := #[{ on := 21, ground := Ground.data }, { on := 19, ground := Ground.guard }], guard := some (19, false) }) (v := ?_) rfl (by kernel_rfl) (by kernel_rfl) (by kernel_rfl) (fun _ _ _ h => h) (Or.inl ⟨by kernel_rfl, ?_⟩) (by assumption) ?_
                          rotate_left
                          · intro w hSw
                            (try dsimp only at hSw)
                            go_simp
                            all_goals (with_reducible rfl)
                          (try simp only [Act.put, List.setIfInBounds_toArray, List.set_cons_zero, List.set_cons_succ])
                          refine wpAnyH_take (i := 23) (oi := { dst := some 77, op := Op.fieldAddr 30 (Operand.tmp 4) 3, type := 0, pos := "ref.go:174", after := #[{ on := 19, ground := Ground.guard }], guard := some (19, false) }) (v := ?_) rfl (by kernel_rfl) (by kernel_rfl) (by kernel_rfl) (fun _ _ _ h => h) (Or.inl ⟨by kernel_rfl, ?_⟩) (by assumption) ?_
                          rotate_left
                          · intro w hSw
                            (try dsimp only at hSw)
                            go_simp
                            all_goals (with_reducible rfl)
                          (try simp only [Act.put, List.setIfInBounds_toArray, List.set_cons_zero, List.set_cons_succ])
                          refine wpAnyH_take (i := 24) (oi := { dst := some 78, op := Op.fieldAddr 25 (Operand.tmp 77) 1, type := 0, pos := "ref.go:174", after := #[{ on := 23, ground := Ground.data }, { on := 19, ground := Ground.guard }], guard := some (19, false) }) (v := ?_) rfl (by kernel_rfl) (by kernel_rfl) (by kernel_rfl) (fun _ _ _ h => h) (Or.inl ⟨by kernel_rfl, ?_⟩) (by assumption) ?_
                          rotate_left
                          · intro w hSw
                            (try dsimp only at hSw)
                            go_simp
                            all_goals (with_reducible rfl)
                          (try simp only [Act.put, List.setIfInBounds_toArray, List.set_cons_zero, List.set_cons_succ])
                          refine wpAnyH_take (i := 25) (oi := { dst := some 79, op := Op.load 3 (Operand.tmp 78), type := 3, pos := "ref.go:174", after := #[{ on := 24, ground := Ground.data }, { on := 19, ground := Ground.guard }], guard := some (19, false) }) (v := ?_) rfl (by kernel_rfl) (by kernel_rfl) (by kernel_rfl) (fun _ _ _ h => h) (Or.inl ⟨by kernel_rfl, ?_⟩) (by assumption) ?_
                          rotate_left
                          · intro w hSw
                            (try dsimp only at hSw)
                            go_simp
                            all_goals (with_reducible rfl)
                          (try simp only [Act.put, List.setIfInBounds_toArray, List.set_cons_zero, List.set_cons_succ])
                          refine wpAnyH_take (i := 26) (oi := { dst := some 80, op := Op.binOp BinOp.gtr 3 (Operand.tmp 76) (Operand.tmp 79) 3, type := 4, pos := "ref.go:174", after := #[{ on := 22, ground := Ground.data }, { on := 25, ground := Ground.data }, { on := 19, ground := Ground.guard }], guard := some (19, false) }) (v := ?_) rfl (by kernel_rfl) (by kernel_rfl) (by kernel_rfl) (fun _ _ _ h => h) (Or.inl ⟨by kernel_rfl, ?_⟩) (by assumption) ?_
                          rotate_left
                          · intro w hSw
                            (try dsimp only at hSw)
                            go_simp
                            all_goals (with_reducible rfl)
                          (try simp only [Act.put, List.setIfInBounds_toArray, List.set_cons_zero, List.set_cons_succ])
                          refine wpAnyH_take (i := 27) (oi := { dst := some 81, op := Op.pick (Operand.tmp 73) (Operand.const (Value.bool true)) (Operand.tmp 80), type := 4, pos := "ref.go:174", after := #[{ on := 19, ground := Ground.data }, { on := 26, ground := Ground.data }, { on := 2, ground := Ground.guard }], guard := some (2, true) }) (v := ?_) rfl (by kernel_rfl) (by kernel_rfl) (by kernel_rfl) (fun _ _ _ h => h) (Or.inl ⟨by kernel_rfl, ?_⟩) (by assumption) ?_
                          rotate_left
                          · intro w hSw
                            (try dsimp only at hSw)
                            go_simp
                            all_goals (with_reducible rfl)
                          (try simp only [Act.put, List.setIfInBounds_toArray, List.set_cons_zero, List.set_cons_succ])
                          refine wpAnyH_take (i := 28) (oi := { dst := some 82, op := Op.pick (Operand.tmp 56) (Operand.tmp 81) (Operand.const (Value.bool false)), type := 4, pos := "ref.go:174", after := #[{ on := 2, ground := Ground.data }, { on := 27, ground := Ground.data }], guard := none }) (v := ?_) rfl (by kernel_rfl) (by kernel_rfl) (by kernel_rfl) (fun _ _ _ h => h) (Or.inl ⟨by kernel_rfl, ?_⟩) (by assumption) ?_
                          rotate_left
                          · intro w hSw
                            (try dsimp only at hSw)
                            go_simp
                            all_goals (with_reducible rfl)
                          (try simp only [Act.put, List.setIfInBounds_toArray, List.set_cons_zero, List.set_cons_succ])
                          refine wpAnyH_take (i := 29) (oi := { dst := some 83, op := Op.move (Operand.tmp 82), type := 4, pos := "ref.go:174", after := #[{ on := 28, ground := Ground.data }, { on := 19, ground := Ground.chain }], guard := none }) (v := ?_) rfl (by kernel_rfl) (by kernel_rfl) (by kernel_rfl) (fun _ _ _ h => h) (Or.inl ⟨by kernel_rfl, ?_⟩) (by assumption) ?_
                          rotate_left
                          · intro w hSw
                            (try dsimp only at hSw)
                            go_simp
                            all_goals (with_reducible rfl)
                          (try simp only [Act.put, List.setIfInBounds_toArray, List.set_cons_zero, List.set_cons_succ])
                          refine wpAnyH_take (i := 30) (oi := { dst := some 84, op := Op.move (Operand.tmp 3), type := 3, pos := "ref.go:174", after := #[{ on := 29, ground := Ground.guard }], guard := some (29, false) }) (v := ?_) rfl (by kernel_rfl) (by kernel_rfl) (by kernel_rfl) (fun _ _ _ h => h) (Or.inl ⟨by kernel_rfl, ?_⟩) (by assumption) ?_
                          rotate_left
                          · intro w hSw
                            (try dsimp only at hSw)
                            go_simp
                            all_goals (with_reducible rfl)
                          (try simp only [Act.put, List.setIfInBounds_toArray, List.set_cons_zero, List.set_cons_succ])
                          refine wpAnyH_take (i := 31) (oi := { dst := some 85, op := Op.binOp BinOp.gtr 3 (Operand.tmp 84) (Operand.const (Value.int IntKind.i64 0)) 3, type := 4, pos := "ref.go:174", after := #[{ on := 30, ground := Ground.data }, { on := 29, ground := Ground.guard }], guard := some (29, false) }) (v := ?_) rfl (by kernel_rfl) (by kernel_rfl) (by kernel_rfl) (fun _ _ _ h => h) (Or.inl ⟨by kernel_rfl, ?_⟩) (by assumption) ?_
                          rotate_left
                          · intro w hSw
                            (try dsimp only at hSw)
                            go_simp
                            all_goals (with_reducible rfl)
                          (try simp only [Act.put, List.setIfInBounds_toArray, List.set_cons_zero, List.set_cons_succ])
                          refine wpAnyH_take (i := 32) (oi := { dst := some 86, op := Op.move (Operand.tmp 85), type := 4, pos := "ref.go:174", after := #[{ on := 31, ground := Ground.data }, { on := 29, ground := Ground.chain }, { on := 29, ground := Ground.guard }], guard := some (29, false) }) (v := ?_) rfl (by kernel_rfl) (by kernel_rfl) (by kernel_rfl) (fun _ _ _ h => h) (Or.inl ⟨by kernel_rfl, ?_⟩) (by assumption) ?_
                          rotate_left
                          · intro w hSw
                            (try dsimp only at hSw)
                            go_simp
                            all_goals (with_reducible rfl)
                          (try simp only [Act.put, List.setIfInBounds_toArray, List.set_cons_zero, List.set_cons_succ])
                          refine wpAnyH_take (i := 33) (oi := { dst := some 87, op := Op.load 30 (Operand.tmp 4), type := 30, pos := "ref.go:174", after := #[{ on := 32, ground := Ground.guard }], guard := some (32, true) }) (v := ?_) rfl (by kernel_rfl) (by kernel_rfl) (by kernel_rfl) (fun _ _ _ h => h) (Or.inl ⟨by kernel_rfl, ?_⟩) (by assumption) ?_
                          rotate_left
                          · intro w hSw
                            (try dsimp only at hSw)
                            go_simp
                            all_goals (with_reducible rfl)
                          (try simp only [Act.put, List.setIfInBounds_toArray, List.set_cons_zero, List.set_cons_succ])
                          refine wpAnyH_take (i := 34) (oi := { dst := some 88, op := Op.move (Operand.tmp 0), type := 32, pos := "ref.go:174", after := #[{ on := 32, ground := Ground.guard }], guard := some (32, true) }) (v := ?_) rfl (by kernel_rfl) (by kernel_rfl) (by kernel_rfl) (fun _ _ _ h => h) (Or.inl ⟨by kernel_rfl, ?_⟩) (by assumption) ?_
                          rotate_left
                          · intro w hSw
                            (try dsimp only at hSw)
                            go_simp
                            all_goals (with_reducible rfl)
                          (try simp only [Act.put, List.setIfInBounds_toArray, List.set_cons_zero, List.set_cons_succ])
                          refine wpAnyH_take (i := 35) (oi := { dst := some 89, op := Op.move (Operand.tmp 3), type := 3, pos := "ref.go:174", after := #[{ on := 32, ground := Ground.guard }], guard := some (32, true) }) (v := ?_) rfl (by kernel_rfl) (by kernel_rfl) (by kernel_rfl) (fun _ _ _ h => h) (Or.inl ⟨by kernel_rfl, ?_⟩) (by assumption) ?_
                          rotate_left
                          · intro w hSw
                            (try dsimp only at hSw)
                            go_simp
                            all_goals (with_reducible rfl)
                          (try simp only [Act.put, List.setIfInBounds_toArray, List.set_cons_zero, List.set_cons_succ])
                          refine wpAnyH_take (i := 36) (oi := { dst := some 90, op := Op.binOp BinOp.sub 3 (Operand.tmp 89) (Operand.const (Value.int IntKind.i64 1)) 3, type := 3, pos := "ref.go:174", after := #[{ on := 35, ground := Ground.data }, { on := 32, ground := Ground.guard }], guard := some (32, true) }) (v := ?_) rfl (by kernel_rfl) (by kernel_rfl) (by kernel_rfl) (fun _ _ _ h => h) (Or.inl ⟨by kernel_rfl, ?_⟩) (by assumption) ?_
                          rotate_left
                          · intro w hSw
                            (try dsimp only at hSw)
                            go_simp
                            all_goals (with_reducible rfl)
                          (try simp only [Act.put, List.setIfInBounds_toArray, List.set_cons_zero, List.set_cons_succ])
                          refine wpAnyH_take (i := 37) (oi := { dst := some 91, op := Op.indexAddr 32 (Operand.tmp 88) (Operand.tmp 90), type := 0, pos := "ref.go:174", after := #[{ on := 34, ground := Ground.data }, { on := 36, ground := Ground.data }, { on := 32, ground := Ground.guard }], guard := some (32, true) }) (v := ?_) rfl (by kernel_rfl) (by kernel_rfl) (by kernel_rfl) (fun _ _ _ h => h) (Or.inl ⟨by kernel_rfl, ?_⟩) (by assumption) ?_
                          rotate_left
                          · intro w hSw
                            (try dsimp only at hSw)
                            go_simp
                            all_goals (with_reducible rfl)
                          (try simp only [Act.put, List.setIfInBounds_toArray, List.set_cons_zero, List.set_cons_succ])
                          refine wpAnyH_take (i := 38) (oi := { dst := some 92, op := Op.load 30 (Operand.tmp 91), type := 30, pos := "ref.go:174", after := #[{ on := 37, ground := Ground.data }, { on := 32, ground := Ground.guard }], guard := some (32, true) }) (v := ?_) rfl (by kernel_rfl) (by kernel_rfl) (by kernel_rfl) (fun _ _ _ h => h) (Or.inl ⟨by kernel_rfl, ?_⟩) (by assumption) ?_
                          rotate_left
                          · intro w hSw
                            (try dsimp only at hSw)
                            go_simp
                            all_goals (with_reducible rfl)
                          (try simp only [Act.put, List.setIfInBounds_toArray, List.set_cons_zero, List.set_cons_succ])
                          refine wpAnyH_one1 (i := 39) (o := { dst := some 93, op := Op.call { callee := Callee.value (Operand.func 69), args := #[Operand.tmp 87, Operand.tmp 92], argTypes := #[30, 30] }, type := 4, pos := "ref.go:174", after := #[{ on := 33, ground := Ground.data }, { on := 38, ground := Ground.data }, { on := 32, ground := Ground.chain }, { on := 32, ground := Ground.guard }], guard := some (32, true) }) (by kernel_rfl) rfl (fun K hK => ?_)
                          go_simp
                          go_at_call 69
                          refine (HX.out _).mono ?_
                          rintro e wq ⟨rfl, hBq⟩
                          have hbq := hHeld.1.trans (hBq.mono hHeld.1.size)
                          refine hK.out _ _ ?_ (fun hHeld2 => ?_)
                          · exact ⟨hbq, HC.out _ hbq⟩
                          clear hHeld
                          have hHeld := hHeld2
                          clear hHeld2
                          clear hK K
                          (try simp only [Act.put, List.setIfInBounds_toArray, List.set_cons_zero, List.set_cons_succ])
                          refine wpAnyH_take (i := 40) (oi := { dst := some 94, op := Op.pick (Operand.tmp 86) (Operand.tmp 93) (Operand.const (Value.bool false)), type := 4, pos := "ref.go:174", after := #[{ on := 32, ground := Ground.data }, { on := 39, ground := Ground.data }, { on := 29, ground := Ground.guard }], guard := some (29, false) }) (v := ?_) rfl (by kernel_rfl) (by kernel_rfl) (by kernel_rfl) (fun _ _ _ h => h) (Or.inl ⟨by kernel_rfl, ?_⟩) (by assumption) ?_
                          rotate_left
                          · intro w hSw
                            (try dsimp only at hSw)
                            go_simp
                            all_goals (with_reducible rfl)
                          (try simp only [Act.put, List.setIfInBounds_toArray, List.set_cons_zero, List.set_cons_succ])
                          refine wpAnyH_take (i := 41) (oi := { dst := some 95, op := Op.pick (Operand.tmp 83) (Operand.const (Value.bool true)) (Operand.tmp 94), type := 4, pos := "ref.go:174", after := #[{ on := 29, ground := Ground.data }, { on := 40, ground := Ground.data }], guard := none }) (v := ?_) rfl (by kernel_rfl) (by kernel_rfl) (by kernel_rfl) (fun _ _ _ h => h) (Or.inl ⟨by kernel_rfl, ?_⟩) (by assumption) ?_
                          rotate_left
                          · intro w hSw
                            (try dsimp only at hSw)
                            go_simp
                            all_goals (with_reducible rfl)
                          (try simp only [Act.put, List.setIfInBounds_toArray, List.set_cons_zero, List.set_cons_succ])
                          refine wpAnyH_done (by kernel_rfl) ?_ _
                          refine NoPanic.normal ?_
                          have hX := hHeld.1
                          clear hHeld
                          go_wp2_with fail
                          go_meet
                          exact ⟨by rw [← HY3.out]; unfold bad3; rw [HPE.out, show k - 1 = m by have := HKM.out; omega, HQ.out, HY.out, HB2.out, decide_eq_true hk0]; simp, hX⟩
                        · obtain rfl : k = 0 := by omega
                          clear hk0
                          have HC := Lib.hid (fun W (hW : Below V.heap.size V W) => show W.cell? ⟨B, 0, none⟩ = some (.int .i64 p.sat) ∧ W.cell? ⟨B, 1, none⟩ = some (.int .i64 p.stn) ∧ W.cell? ⟨B, 2, none⟩ = some (.int .i64 p.sf) ∧ W.cell? ⟨B, 3, none⟩ = some (.int .i64 p.su) ∧ W.cell? ⟨B, 4, none⟩ = some (.int .i64 p.cf) ∧ W.cell? ⟨B, 5, none⟩ = some (.int .i64 p.cu) from ⟨(hW.cell (p := ⟨B, 0, none⟩) lB).trans k0, (hW.cell (p := ⟨B, 1, none⟩) lB).trans k1, (hW.cell (p := ⟨B, 2, none⟩) lB).trans k2, (hW.cell (p := ⟨B, 3, none⟩) lB).trans k3, (hW.cell (p := ⟨B, 4, none⟩) lB).trans k4, (hW.cell (p := ⟨B, 5, none⟩) lB).trans k5⟩)
                          refine wp_region_noPanic ?_
                          refine wp_region_held_drew (S := (fun w' => Below V.heap.size V w' ∧ w'.cell? ⟨B, 0, none⟩ = some (.int .i64 p.sat) ∧ w'.cell? ⟨B, 1, none⟩ = some (.int .i64 p.stn) ∧ w'.cell? ⟨B, 2, none⟩ = some (.int .i64 p.sf) ∧ w'.cell? ⟨B, 3, none⟩ = some (.int .i64 p.su) ∧ w'.cell? ⟨B, 4, none⟩ = some (.int .i64 p.cf) ∧ w'.cell? ⟨B, 5, none⟩ = some (.int .i64 p.cu))) (by kernel_rfl) ⟨(Below.refl _ _).drew, HC.out _ (Below.refl _ _).drew⟩ (fun hHeld => ?_)
                          refine wpAnyH_take (i := 0) (oi := { dst := some 54, op := Op.move (Operand.tmp 5), type := 4, pos := "ref.go:174", after := #[], guard := none }) (v := ?_) rfl (by kernel_rfl) (by kernel_rfl) (by kernel_rfl) (fun _ _ _ h => h) (Or.inl ⟨by kernel_rfl, ?_⟩) (by assumption) ?_
                          rotate_left
                          · intro w hSw
                            (try dsimp only at hSw)
                            go_simp
                            all_goals (with_reducible rfl)
                          (try simp only [Act.put, List.setIfInBounds_toArray, List.set_cons_zero, List.set_cons_succ])
                          refine wpAnyH_take (i := 1) (oi := { dst := some 55, op := Op.unOp UnOp.not 4 (Operand.tmp 54), type := 4, pos := "ref.go:174", after := #[{ on := 0, ground := Ground.data }], guard := none }) (v := ?_) rfl (by kernel_rfl) (by kernel_rfl) (by kernel_rfl) (fun _ _ _ h => h) (Or.inl ⟨by kernel_rfl, ?_⟩) (by assumption) ?_
                          rotate_left
                          · intro w hSw
                            (try dsimp only at hSw)
                            go_simp
                            all_goals (with_reducible rfl)
                          (try simp only [Act.put, List.setIfInBounds_toArray, List.set_cons_zero, List.set_cons_succ])
                          refine wpAnyH_take (i := 2) (oi := { dst := some 56, op := Op.move (Operand.tmp 55), type := 4, pos := "ref.go:174", after := #[{ on := 1, ground := Ground.data }], guard := none }) (v := ?_) rfl (by kernel_rfl) (by kernel_rfl) (by kernel_rfl) (fun _ _ _ h => h) (Or.inl ⟨by kernel_rfl, ?_⟩) (by assumption) ?_
                          rotate_left
                          · intro w hSw
                            (try dsimp only at hSw)
                            go_simp
                            all_goals (with_reducible rfl)
                          (try simp only [Act.put, List.setIfInBounds_toArray, List.set_cons_zero, List.set_cons_succ])
                          refine wpAnyH_take (i := 3) (oi := { dst := some 57, op := Op.fieldAddr 30 (Operand.tmp 4) 2, type := 0, pos := "ref.go:174", after := #[{ on := 2, ground := Ground.guard }], guard := some (2, true) }) (v := ?_) rfl (by kernel_rfl) (by kernel_rfl) (by kernel_rfl) (fun _ _ _ h => h) (Or.inl ⟨by kernel_rfl, ?_⟩) (by assumption) ?_
                          rotate_left
                          · intro w hSw
                            (try dsimp only at hSw)
                            go_simp
                            all_goals (with_reducible rfl)
                          (try simp only [Act.put, List.setIfInBounds_toArray, List.set_cons_zero, List.set_cons_succ])
                          refine wpAnyH_take (i := 4) (oi := { dst := some 58, op := Op.fieldAddr 25 (Operand.tmp 57) 0, type := 0, pos := "ref.go:174", after := #[{ on := 3, ground := Ground.data }, { on := 2, ground := Ground.guard }], guard := some (2, true) }) (v := ?_) rfl (by kernel_rfl) (by kernel_rfl) (by kernel_rfl) (fun _ _ _ h => h) (Or.inl ⟨by kernel_rfl, ?_⟩) (by assumption) ?_
                          rotate_left
                          · intro w hSw
                            (try dsimp only at hSw)
                            go_simp
                            all_goals (with_reducible rfl)
                          (try simp only [Act.put, List.setIfInBounds_toArray, List.set_cons_zero, List.set_cons_succ])
                          refine wpAnyH_take (i := 5) (oi := { dst := some 59, op := Op.load 3 (Operand.tmp 58), type := 3, pos := "ref.go:174", after := #[{ on := 4, ground := Ground.data }, { on := 2, ground := Ground.guard }], guard := some (2, true) }) (v := ?_) rfl (by kernel_rfl) (by kernel_rfl) (by kernel_rfl) (fun _ _ _ h => h) (Or.inl ⟨by kernel_rfl, ?_⟩) (by assumption) ?_
                          rotate_left
                          · intro w hSw
                            (try dsimp only at hSw)
                            go_simp
                            all_goals (with_reducible rfl)
                          (try simp only [Act.put, List.setIfInBounds_toArray, List.set_cons_zero, List.set_cons_succ])
                          refine wpAnyH_take (i := 6) (oi := { dst := some 60, op := Op.fieldAddr 30 (Operand.tmp 4) 3, type := 0, pos := "ref.go:174", after := #[{ on := 2, ground := Ground.guard }], guard := some (2, true) }) (v := ?_) rfl (by kernel_rfl) (by kernel_rfl) (by kernel_rfl) (fun _ _ _ h => h) (Or.inl ⟨by kernel_rfl, ?_⟩) (by assumption) ?_
                          rotate_left
                          · intro w hSw
                            (try dsimp only at hSw)
                            go_simp
                            all_goals (with_reducible rfl)
                          (try simp only [Act.put, List.setIfInBounds_toArray, List.set_cons_zero, List.set_cons_succ])
                          refine wpAnyH_take (i := 7) (oi := { dst := some 61, op := Op.fieldAddr 25 (Operand.tmp 60) 0, type := 0, pos := "ref.go:174", after := #[{ on := 6, ground := Ground.data }, { on := 2, ground := Ground.guard }], guard := some (2, true) }) (v := ?_) rfl (by kernel_rfl) (by kernel_rfl) (by kernel_rfl) (fun _ _ _ h => h) (Or.inl ⟨by kernel_rfl, ?_⟩) (by assumption) ?_
                          rotate_left
                          · intro w hSw
                            (try dsimp only at hSw)
                            go_simp
                            all_goals (with_reducible rfl)
                          (try simp only [Act.put, List.setIfInBounds_toArray, List.set_cons_zero, List.set_cons_succ])
                          refine wpAnyH_take (i := 8) (oi := { dst := some 62, op := Op.load 3 (Operand.tmp 61), type := 3, pos := "ref.go:174", after := #[{ on := 7, ground := Ground.data }, { on := 2, ground := Ground.guard }], guard := some (2, true) }) (v := ?_) rfl (by kernel_rfl) (by kernel_rfl) (by kernel_rfl) (fun _ _ _ h => h) (Or.inl ⟨by kernel_rfl, ?_⟩) (by assumption) ?_
                          rotate_left
                          · intro w hSw
                            (try dsimp only at hSw)
                            go_simp
                            all_goals (with_reducible rfl)
                          (try simp only [Act.put, List.setIfInBounds_toArray, List.set_cons_zero, List.set_cons_succ])
                          refine wpAnyH_take (i := 9) (oi := { dst := some 63, op := Op.binOp BinOp.lss 3 (Operand.tmp 59) (Operand.tmp 62) 3, type := 4, pos := "ref.go:174", after := #[{ on := 5, ground := Ground.data }, { on := 8, ground := Ground.data }, { on := 2, ground := Ground.guard }], guard := some (2, true) }) (v := ?_) rfl (by kernel_rfl) (by kernel_rfl) (by kernel_rfl) (fun _ _ _ h => h) (Or.inl ⟨by kernel_rfl, ?_⟩) (by assumption) ?_
                          rotate_left
                          · intro w hSw
                            (try dsimp only at hSw)
                            go_simp
                            all_goals (with_reducible rfl)
                          (try simp only [Act.put, List.setIfInBounds_toArray, List.set_cons_zero, List.set_cons_succ])
                          refine wpAnyH_take (i := 10) (oi := { dst := some 64, op := Op.move (Operand.tmp 63), type := 4, pos := "ref.go:174", after := #[{ on := 9, ground := Ground.data }, { on := 2, ground := Ground.chain }, { on := 2, ground := Ground.guard }], guard := some (2, true) }) (v := ?_) rfl (by kernel_rfl) (by kernel_rfl) (by kernel_rfl) (fun _ _ _ h => h) (Or.inl ⟨by kernel_rfl, ?_⟩) (by assumption) ?_
                          rotate_left
                          · intro w hSw
                            (try dsimp only at hSw)
                            go_simp
                            all_goals (with_reducible rfl)
                          (try simp only [Act.put, List.setIfInBounds_toArray, List.set_cons_zero, List.set_cons_succ])
                          refine wpAnyH_take (i := 11) (oi := { dst := some 65, op := Op.fieldAddr 30 (Operand.tmp 4) 2, type := 0, pos := "ref.go:174", after := #[{ on := 10, ground := Ground.guard }], guard := some (10, false) }) (v := ?_) rfl (by kernel_rfl) (by kernel_rfl) (by kernel_rfl) (fun _ _ _ h => h) (Or.inl ⟨by kernel_rfl, ?_⟩) (by assumption) ?_
                          rotate_left
                          · intro w hSw
                            (try dsimp only at hSw)
                            go_simp
                            all_goals (with_reducible rfl)
                          (try simp only [Act.put, List.setIfInBounds_toArray, List.set_cons_zero, List.set_cons_succ])
                          refine wpAnyH_take (i := 12) (oi := { dst := some 66, op := Op.fieldAddr 25 (Operand.tmp 65) 0, type := 0, pos := "ref.go:174", after := #[{ on := 11, ground := Ground.data }, { on := 10, ground := Ground.guard }], guard := some (10, false) }) (v := ?_) rfl (by kernel_rfl) (by kernel_rfl) (by kernel_rfl) (fun _ _ _ h => h) (Or.inl ⟨by kernel_rfl, ?_⟩) (by assumption) ?_
                          rotate_left
                          · intro w hSw
                            (try dsimp only at hSw)
                            go_simp
                            all_goals (with_reducible rfl)
                          (try simp only [Act.put, List.setIfInBounds_toArray, List.set_cons_zero, List.set_cons_succ])
                          refine wpAnyH_take (i := 13) (oi := { dst := some 67, op := Op.load 3 (Operand.tmp 66), type := 3, pos := "ref.go:174", after := #[{ on := 12, ground := Ground.data }, { on := 10, ground := Ground.guard }], guard := some (10, false) }) (v := ?_) rfl (by kernel_rfl) (by kernel_rfl) (by kernel_rfl) (fun _ _ _ h => h) (Or.inl ⟨by kernel_rfl, ?_⟩) (by assumption) ?_
                          rotate_left
                          · intro w hSw
                            (try dsimp only at hSw)
                            go_simp
                            all_goals (with_reducible rfl)
                          (try simp only [Act.put, List.setIfInBounds_toArray, List.set_cons_zero, List.set_cons_succ])
                          refine wpAnyH_take (i := 14) (oi := { dst := some 68, op := Op.fieldAddr 30 (Operand.tmp 4) 2, type := 0, pos := "ref.go:174", after := #[{ on := 10, ground := Ground.guard }], guard := some (10, false) }) (v := ?_) rfl (by kernel_rfl) (by kernel_rfl) (by kernel_rfl) (fun _ _ _ h => h) (Or.inl ⟨by kernel_rfl, ?_⟩) (by assumption) ?_
                          rotate_left
                          · intro w hSw
                            (try dsimp only at hSw)
                            go_simp
                            all_goals (with_reducible rfl)
                          (try simp only [Act.put, List.setIfInBounds_toArray, List.set_cons_zero, List.set_cons_succ])
                          refine wpAnyH_take (i := 15) (oi := { dst := some 69, op := Op.fieldAddr 25 (Operand.tmp 68) 1, type := 0, pos := "ref.go:174", after := #[{ on := 14, ground := Ground.data }, { on := 10, ground := Ground.guard }], guard := some (10, false) }) (v := ?_) rfl (by kernel_rfl) (by kernel_rfl) (by kernel_rfl) (fun _ _ _ h => h) (Or.inl ⟨by kernel_rfl, ?_⟩) (by assumption) ?_
                          rotate_left
                          · intro w hSw
                            (try dsimp only at hSw)
                            go_simp
                            all_goals (with_reducible rfl)
                          (try simp only [Act.put, List.setIfInBounds_toArray, List.set_cons_zero, List.set_cons_succ])
                          refine wpAnyH_take (i := 16) (oi := { dst := some 70, op := Op.load 3 (Operand.tmp 69), type := 3, pos := "ref.go:174", after := #[{ on := 15, ground := Ground.data }, { on := 10, ground := Ground.guard }], guard := some (10, false) }) (v := ?_) rfl (by kernel_rfl) (by kernel_rfl) (by kernel_rfl) (fun _ _ _ h => h) (Or.inl ⟨by kernel_rfl, ?_⟩) (by assumption) ?_
                          rotate_left
                          · intro w hSw
                            (try dsimp only at hSw)
                            go_simp
                            all_goals (with_reducible rfl)
                          (try simp only [Act.put, List.setIfInBounds_toArray, List.set_cons_zero, List.set_cons_succ])
                          refine wpAnyH_take (i := 17) (oi := { dst := some 71, op := Op.binOp BinOp.geq 3 (Operand.tmp 67) (Operand.tmp 70) 3, type := 4, pos := "ref.go:174", after := #[{ on := 13, ground := Ground.data }, { on := 16, ground := Ground.data }, { on := 10, ground := Ground.guard }], guard := some (10, false) }) (v := ?_) rfl (by kernel_rfl) (by kernel_rfl) (by kernel_rfl) (fun _ _ _ h => h) (Or.inl ⟨by kernel_rfl, ?_⟩) (by assumption) ?_
                          rotate_left
                          · intro w hSw
                            (try dsimp only at hSw)
                            go_simp
                            all_goals (with_reducible rfl)
                          (try simp only [Act.put, List.setIfInBounds_toArray, List.set_cons_zero, List.set_cons_succ])
                          refine wpAnyH_take (i := 18) (oi := { dst := some 72, op := Op.pick (Operand.tmp 64) (Operand.const (Value.bool true)) (Operand.tmp 71), type := 4, pos := "ref.go:174", after := #[{ on := 10, ground := Ground.data }, { on := 17, ground := Ground.data }, { on := 2, ground := Ground.guard }], guard := some (2, true) }) (v := ?_) rfl (by kernel_rfl) (by kernel_rfl) (by kernel_rfl) (fun _ _ _ h => h) (Or.inl ⟨by kernel_rfl, ?_⟩) (by assumption) ?_
                          rotate_left
                          · intro w hSw
                            (try dsimp only at hSw)
                            go_simp
                            all_goals (with_reducible rfl)
                          (try simp only [Act.put, List.setIfInBounds_toArray, List.set_cons_zero, List.set_cons_succ])
                          refine wpAnyH_take (i := 19) (oi := { dst := some 73, op := Op.move (Operand.tmp 72), type := 4, pos := "ref.go:174", after := #[{ on := 18, ground := Ground.data }, { on := 10, ground := Ground.chain }, { on := 2, ground := Ground.guard }], guard := some (2, true) }) (v := ?_) rfl (by kernel_rfl) (by kernel_rfl) (by kernel_rfl) (fun _ _ _ h => h) (Or.inl ⟨by kernel_rfl, ?_⟩) (by assumption) ?_
                          rotate_left
                          · intro w hSw
                            (try dsimp only at hSw)
                            go_simp
                            all_goals (with_reducible rfl)
                          (try simp only [Act.put, List.setIfInBounds_toArray, List.set_cons_zero, List.set_cons_succ])
                          refine wpAnyH_take (i := 20) (oi := { dst := some 74, op := Op.fieldAddr 30 (Operand.tmp 4) 2, type := 0, pos := "ref.go:174", after := #[{ on := 19, ground := Ground.guard }], guard := some (19, false) }) (v := ?_) rfl (by kernel_rfl) (by kernel_rfl) (by kernel_rfl) (fun _ _ _ h => h) (Or.inl ⟨by kernel_rfl, ?_⟩) (by assumption) ?_
                          rotate_left
                          · intro w hSw
                            (try dsimp only at hSw)
                            go_simp
                            all_goals (with_reducible rfl)
                          (try simp only [Act.put, List.setIfInBounds_toArray, List.set_cons_zero, List.set_cons_succ])
                          refine wpAnyH_take (i := 21) (oi := { dst := some 75, op := Op.fieldAddr 25 (Operand.tmp 74) 1, type := 0, pos := "ref.go:174", after := #[{ on := 20, ground := Ground.data }, { on := 19, ground := Ground.guard }], guard := some (19, false) }) (v := ?_) rfl (by kernel_rfl) (by kernel_rfl) (by kernel_rfl) (fun _ _ _ h => h) (Or.inl ⟨by kernel_rfl, ?_⟩) (by assumption) ?_
                          rotate_left
                          · intro w hSw
                            (try dsimp only at hSw)
                            go_simp
                            all_goals (with_reducible rfl)
                          (try simp only [Act.put, List.setIfInBounds_toArray, List.set_cons_zero, List.set_cons_succ])
                          refine wpAnyH_take (i := 22) (oi := { dst := some 76, op := Op.load 3 (Operand.tmp 75), type := 3, pos := "ref.go:174", after := #[{ on := 21, ground := Ground.data }, { on := 19, ground := Ground.guard }], guard := some (19, false) }) (v := ?_) rfl (by kernel_rfl) (by kernel_rfl) (by kernel_rfl) (fun _ _ _ h => h) (Or.inl ⟨by kernel_rfl, ?_⟩) (by assumption) ?_
                          rotate_left
                          · intro w hSw
                            (try dsimp only at hSw)
                            go_simp
                            all_goals (with_reducible rfl)
                          (try simp only [Act.put, List.setIfInBounds_toArray, List.set_cons_zero, List.set_cons_succ])
                          refine wpAnyH_take (i := 23) (oi := { dst := some 77, op := Op.fieldAddr 30 (Operand.tmp 4) 3, type := 0, pos := "ref.go:174", after := #[{ on := 19, ground := Ground.guard }], guard := some (19, false) }) (v := ?_) rfl (by kernel_rfl) (by kernel_rfl) (by kernel_rfl) (fun _ _ _ h => h) (Or.inl ⟨by kernel_rfl, ?_⟩) (by assumption) ?_
                          rotate_left
                          · intro w hSw
                            (try dsimp only at hSw)
                            go_simp
                            all_goals (with_reducible rfl)
                          (try simp only [Act.put, List.setIfInBounds_toArray, List.set_cons_zero, List.set_cons_succ])
                          refine wpAnyH_take (i := 24) (oi := { dst := some 78, op := Op.fieldAddr 25 (Operand.tmp 77) 1, type := 0, pos := "ref.go:174", after := #[{ on := 23, ground := Ground.data }, { on := 19, ground := Ground.guard }], guard := some (19, false) }) (v := ?_) rfl (by kernel_rfl) (by kernel_rfl) (by kernel_rfl) (fun _ _ _ h => h) (Or.inl ⟨by kernel_rfl, ?_⟩) (by assumption) ?_
                          rotate_left
                          · intro w hSw
                            (try dsimp only at hSw)
                            go_simp
                            all_goals (with_reducible rfl)
                          (try simp only [Act.put, List.setIfInBounds_toArray, List.set_cons_zero, List.set_cons_succ])
                          refine wpAnyH_take (i := 25) (oi := { dst := some 79, op := Op.load 3 (Operand.tmp 78), type := 3, pos := "ref.go:174", after := #[{ on := 24, ground := Ground.data }, { on := 19, ground := Ground.guard }], guard := some (19, false) }) (v := ?_) rfl (by kernel_rfl) (by kernel_rfl) (by kernel_rfl) (fun _ _ _ h => h) (Or.inl ⟨by kernel_rfl, ?_⟩) (by assumption) ?_
                          rotate_left
                          · intro w hSw
                            (try dsimp only at hSw)
                            go_simp
                            all_goals (with_reducible rfl)
                          (try simp only [Act.put, List.setIfInBounds_toArray, List.set_cons_zero, List.set_cons_succ])
                          refine wpAnyH_take (i := 26) (oi := { dst := some 80, op := Op.binOp BinOp.gtr 3 (Operand.tmp 76) (Operand.tmp 79) 3, type := 4, pos := "ref.go:174", after := #[{ on := 22, ground := Ground.data }, { on := 25, ground := Ground.data }, { on := 19, ground := Ground.guard }], guard := some (19, false) }) (v := ?_) rfl (by kernel_rfl) (by kernel_rfl) (by kernel_rfl) (fun _ _ _ h => h) (Or.inl ⟨by kernel_rfl, ?_⟩) (by assumption) ?_
                          rotate_left
                          · intro w hSw
                            (try dsimp only at hSw)
                            go_simp
                            all_goals (with_reducible rfl)
                          (try simp only [Act.put, List.setIfInBounds_toArray, List.set_cons_zero, List.set_cons_succ])
                          refine wpAnyH_take (i := 27) (oi := { dst := some 81, op := Op.pick (Operand.tmp 73) (Operand.const (Value.bool true)) (Operand.tmp 80), type := 4, pos := "ref.go:174", after := #[{ on := 19, ground := Ground.data }, { on := 26, ground := Ground.data }, { on := 2, ground := Ground.guard }], guard := some (2, true) }) (v := ?_) rfl (by kernel_rfl) (by kernel_rfl) (by kernel_rfl) (fun _ _ _ h => h) (Or.inl ⟨by kernel_rfl, ?_⟩) (by assumption) ?_
                          rotate_left
                          · intro w hSw
                            (try dsimp only at hSw)
                            go_simp
                            all_goals (with_reducible rfl)
                          (try simp only [Act.put, List.setIfInBounds_toArray, List.set_cons_zero, List.set_cons_succ])
                          refine wpAnyH_take (i := 28) (oi := { dst := some 82, op := Op.pick (Operand.tmp 56) (Operand.tmp 81) (Operand.const (Value.bool false)), type := 4, pos := "ref.go:174", after := #[{ on := 2, ground := Ground.data }, { on := 27, ground := Ground.data }], guard := none }) (v := ?_) rfl (by kernel_rfl) (by kernel_rfl) (by kernel_rfl) (fun _ _ _ h => h) (Or.inl ⟨by kernel_rfl, ?_⟩) (by assumption) ?_
                          rotate_left
                          · intro w hSw
                            (try dsimp only at hSw)
                            go_simp
                            all_goals (with_reducible rfl)
                          (try simp only [Act.put, List.setIfInBounds_toArray, List.set_cons_zero, List.set_cons_succ])
                          refine wpAnyH_take (i := 29) (oi := { dst := some 83, op := Op.move (Operand.tmp 82), type := 4, pos := "ref.go:174", after := #[{ on := 28, ground := Ground.data }, { on := 19, ground := Ground.chain }], guard := none }) (v := ?_) rfl (by kernel_rfl) (by kernel_rfl) (by kernel_rfl) (fun _ _ _ h => h) (Or.inl ⟨by kernel_rfl, ?_⟩) (by assumption) ?_
                          rotate_left
                          · intro w hSw
                            (try dsimp only at hSw)
                            go_simp
                            all_goals (with_reducible rfl)
                          (try simp only [Act.put, List.setIfInBounds_toArray, List.set_cons_zero, List.set_cons_succ])
                          refine wpAnyH_take (i := 30) (oi := { dst := some 84, op := Op.move (Operand.tmp 3), type := 3, pos := "ref.go:174", after := #[{ on := 29, ground := Ground.guard }], guard := some (29, false) }) (v := ?_) rfl (by kernel_rfl) (by kernel_rfl) (by kernel_rfl) (fun _ _ _ h => h) (Or.inl ⟨by kernel_rfl, ?_⟩) (by assumption) ?_
                          rotate_left
                          · intro w hSw
                            (try dsimp only at hSw)
                            go_simp
                            all_goals (with_reducible rfl)
                          (try simp only [Act.put, List.setIfInBounds_toArray, List.set_cons_zero, List.set_cons_succ])
                          refine wpAnyH_take (i := 31) (oi := { dst := some 85, op := Op.binOp BinOp.gtr 3 (Operand.tmp 84) (Operand.const (Value.int IntKind.i64 0)) 3, type := 4, pos := "ref.go:174", after := #[{ on := 30, ground := Ground.data }, { on := 29, ground := Ground.guard }], guard := some (29, false) }) (v := ?_) rfl (by kernel_rfl) (by kernel_rfl) (by kernel_rfl) (fun _ _ _ h => h) (Or.inl ⟨by kernel_rfl, ?_⟩) (by assumption) ?_
                          rotate_left
                          · intro w hSw
                            (try dsimp only at hSw)
                            go_simp
                            all_goals (with_reducible rfl)
                          (try simp only [Act.put, List.setIfInBounds_toArray, List.set_cons_zero, List.set_cons_succ])
                          refine wpAnyH_take (i := 32) (oi := { dst := some 86, op := Op.move (Operand.tmp 85), type := 4, pos := "ref.go:174", after := #[{ on := 31, ground := Ground.data }, { on := 29, ground := Ground.chain }, { on := 29, ground := Ground.guard }], guard := some (29, false) }) (v := ?_) rfl (by kernel_rfl) (by kernel_rfl) (by kernel_rfl) (fun _ _ _ h => h) (Or.inl ⟨by kernel_rfl, ?_⟩) (by assumption) ?_
                          rotate_left
                          · intro w hSw
                            (try dsimp only at hSw)
                            go_simp
                            all_goals (with_reducible rfl)
                          (try simp only [Act.put, List.setIfInBounds_toArray, List.set_cons_zero, List.set_cons_succ])
                          refine wpAnyH_take (i := 33) (oi := { dst := some 87, op := Op.load 30 (Operand.tmp 4), type := 30, pos := "ref.go:174", after := #[{ on := 32, ground := Ground.guard }], guard := some (32, true) }) (v := undef) rfl (by kernel_rfl) (by kernel_rfl) (by kernel_rfl) (fun _ _ _ h => h) (Or.inr ⟨by kernel_rfl, rfl⟩) (by assumption) ?_
                          (try simp only [Act.put, List.setIfInBounds_toArray, List.set_cons_zero, List.set_cons_succ])
                          refine wpAnyH_take (i := 34) (oi := { dst := some 88, op := Op.move (Operand.tmp 0), type := 32, pos := "ref.go:174", after := #[{ on := 32, ground := Ground.guard }], guard := some (32, true) }) (v := undef) rfl (by kernel_rfl) (by kernel_rfl) (by kernel_rfl) (fun _ _ _ h => h) (Or.inr ⟨by kernel_rfl, rfl⟩) (by assumption) ?_
                          (try simp only [Act.put, List.setIfInBounds_toArray, List.set_cons_zero, List.set_cons_succ])
                          refine wpAnyH_take (i := 35) (oi := { dst := some 89, op := Op.move (Operand.tmp 3), type := 3, pos := "ref.go:174", after := #[{ on := 32, ground := Ground.guard }], guard := some (32, true) }) (v := undef) rfl (by kernel_rfl) (by kernel_rfl) (by kernel_rfl) (fun _ _ _ h => h) (Or.inr ⟨by kernel_rfl, rfl⟩) (by assumption) ?_
                          (try simp only [Act.put, List.setIfInBounds_toArray, List.set_cons_zero, List.set_cons_succ])
                          refine wpAnyH_take (i := 36) (oi := { dst := some 90, op := Op.binOp BinOp.sub 3 (Operand.tmp 89) (Operand.const (Value.int IntKind.i64 1)) 3, type := 3, pos := "ref.go:174", after := #[{ on := 35, ground := Ground.data }, { on := 32, ground := Ground.guard }], guard := some (32, true) }) (v := undef) rfl (by kernel_rfl) (by kernel_rfl) (by kernel_rfl) (fun _ _ _ h => h) (Or.inr ⟨by kernel_rfl, rfl⟩) (by assumption) ?_
                          (try simp only [Act.put, List.setIfInBounds_toArray, List.set_cons_zero, List.set_cons_succ])
                          refine wpAnyH_take (i := 37) (oi := { dst := some 91, op := Op.indexAddr 32 (Operand.tmp 88) (Operand.tmp 90), type := 0, pos := "ref.go:174", after := #[{ on := 34, ground := Ground.data }, { on := 36, ground := Ground.data }, { on := 32, ground := Ground.guard }], guard := some (32, true) }) (v := undef) rfl (by kernel_rfl) (by kernel_rfl) (by kernel_rfl) (fun _ _ _ h => h) (Or.inr ⟨by kernel_rfl, rfl⟩) (by assumption) ?_
                          (try simp only [Act.put, List.setIfInBounds_toArray, List.set_cons_zero, List.set_cons_succ])
                          refine wpAnyH_take (i := 38) (oi := { dst := some 92, op := Op.load 30 (Operand.tmp 91), type := 30, pos := "ref.go:174", after := #[{ on := 37, ground := Ground.data }, { on := 32, ground := Ground.guard }], guard := some (32, true) }) (v := undef) rfl (by kernel_rfl) (by kernel_rfl) (by kernel_rfl) (fun _ _ _ h => h) (Or.inr ⟨by kernel_rfl, rfl⟩) (by assumption) ?_
                          (try simp only [Act.put, List.setIfInBounds_toArray, List.set_cons_zero, List.set_cons_succ])
                          refine wpAnyH_take (i := 39) (oi := { dst := some 93, op := Op.call { callee := Callee.value (Operand.func 69), args := #[Operand.tmp 87, Operand.tmp 92], argTypes := #[30, 30] }, type := 4, pos := "ref.go:174", after := #[{ on := 33, ground := Ground.data }, { on := 38, ground := Ground.data }, { on := 32, ground := Ground.chain }, { on := 32, ground := Ground.guard }], guard := some (32, true) }) (v := undef) rfl (by kernel_rfl) (by kernel_rfl) (by kernel_rfl) (fun _ _ _ h => h) (Or.inr ⟨by kernel_rfl, rfl⟩) (by assumption) ?_
                          (try simp only [Act.put, List.setIfInBounds_toArray, List.set_cons_zero, List.set_cons_succ])
                          refine wpAnyH_take (i := 40) (oi := { dst := some 94, op := Op.pick (Operand.tmp 86) (Operand.tmp 93) (Operand.const (Value.bool false)), type := 4, pos := "ref.go:174", after := #[{ on := 32, ground := Ground.data }, { on := 39, ground := Ground.data }, { on := 29, ground := Ground.guard }], guard := some (29, false) }) (v := ?_) rfl (by kernel_rfl) (by kernel_rfl) (by kernel_rfl) (fun _ _ _ h => h) (Or.inl ⟨by kernel_rfl, ?_⟩) (by assumption) ?_
                          rotate_left
                          · intro w hSw
                            (try dsimp only at hSw)
                            go_simp
                            all_goals (with_reducible rfl)
                          (try simp only [Act.put, List.setIfInBounds_toArray, List.set_cons_zero, List.set_cons_succ])
                          refine wpAnyH_take (i := 41) (oi := { dst := some 95, op := Op.pick (Operand.tmp 83) (Operand.const (Value.bool true)) (Operand.tmp 94), type := 4, pos := "ref.go:174", after := #[{ on := 29, ground := Ground.data }, { on := 40, ground := Ground.data }], guard := none }) (v := ?_) rfl (by kernel_rfl) (by kernel_rfl) (by kernel_rfl) (fun _ _ _ h => h) (Or.inl ⟨by kernel_rfl, ?_⟩) (by assumption) ?_
                          rotate_left
                          · intro w hSw
                            (try dsimp only at hSw)
                            go_simp
                            all_goals (with_reducible rfl)
                          (try simp only [Act.put, List.setIfInBounds_toArray, List.set_cons_zero, List.set_cons_succ])
                          refine wpAnyH_done (by kernel_rfl) ?_ _
                          refine NoPanic.normal ?_
                          have hX := hHeld.1
                          clear hHeld
                          go_wp2_with fail
                          go_meet
                          exact ⟨by rw [← HY3.out]; unfold bad3; rw [HPE.out, HB2.out]; rfl, hX⟩
              case rest =>
                rename World => wy
                obtain ⟨rfl, hBy⟩ := hcut
                cases y3 with
                | true =>
                  have HR := Lib.hid (HN.out fun h => by have := (HI.out.1 h).2; cases this)
                  go_wp2_with fail
                  go_ret
                  exact ⟨by rw [HR.out]; rfl, hB1.trans (hBy.mono hB1.size)⟩
                | false =>
                  go_wp2_with fail
                  go_roundw
                  case rel => exact ⟨k + 1, by omega, by go_num, fun j hj => by
                    by_cases hjk : j < k
                    · exact HP.out j hjk
                    · obtain rfl : j = k := by omega
                      exact HI.out.2 ⟨rfl, rfl⟩, hB1.trans (hBy.mono hB1.size)⟩
                  case measure => simp [intOf]; omega
      · have HR := Lib.hid (proper_yes hl fun j hj => HP.out j (by omega))
        go_wp2
        go_ret
        exact ⟨by rw [HR.out]; rfl, hBr⟩
  · have hl2 : decide ((64 : Int) < (l.length : Int)) = true := decide_eq_true (by omega)
    rw [proper_long hl]
    go_enter Try.func44, Try.ntmps44
    go_wp2
    go_ret
    exact ⟨rfl, Below.refl _ _⟩
end Go.Proofs.Ytmajkagmcdlncaa

/- program.Sum, Gain. -/
import Derived.Test.YtblmpmapcdpaiaaP5
namespace Go.Proofs.Ytblmpmapcdpaiaa
open Go.RowKit Lib

def sumB (r : RowD) (set : Int) : Bool := rightB r r.coef.length && inB set 0 (2 ^ r.coef.length - 1)
def sumV (r : RowD) (set : Int) : Int := if r.coef.length ≤ 12 ∧ sumB r set = true then ch r.coef set.toNat else 0
def gainV (p : ProgD) (set : Int) : Int := if choiceB p set = true then ch p.gain set.toNat else 0

set_option maxRecDepth 100000 in
set_option maxHeartbeats 1000000 in
theorem sum_all (v : Value) (r : RowD) (set : Int) (w : World) (hv : RowV w v r) :
    Calls Try.prog 34 #[v, .int .i64 set] w fun e w' => e = .returned (.int .i64 (sumV r set)) ∧ Below w.heap.size w w' := by
  obtain ⟨vc, rfl, hvc⟩ := hv
  have hlen := (show SlicesLen vc r.coef.length from hvc.len)
  obtain ⟨ca, cc, rfl, hr1, hr2⟩ := hlen
  unfold maxLen at hr2
  have hB0 : Below w.heap.size w (w.alloc (.cells #[.int .i64 r.kind, .int .i64 r.a, .int .i64 r.b, .int .i64 r.at_, .slice ca r.coef.length cc, .int .i64 r.most] 26)) := (Below.refl _ _).alloc (Nat.le_refl _) _
  have hx := right_all _ r r.coef.length _ ⟨_, rfl, hvc.below hB0⟩
  have HV := Lib.hid hvc
  clear hvc
  by_cases h12 : r.coef.length ≤ 12
  · have hd : decide ((r.coef.length : Int) > 12) = false := by simp; omega
    have hp := pow12 h12
    cases hri : rightB r r.coef.length with
    | false =>
      have hs : sumV r set = 0 := by unfold sumV sumB; rw [hri, if_neg (by simp)]
      rw [hs]
      rw [hri] at hx
      clear hri hs
      go_enter Try.func34, Try.ntmps34
      go_wp2_with fail
      refine hx.mono ?_
      rintro e w' ⟨rfl, hB⟩
      go_wp2
      go_ret
      exact ⟨rfl, hB0.trans (hB.mono hB0.size)⟩
    | true =>
      rw [hri] at hx
      cases hin : inB set 0 (2 ^ r.coef.length - 1) with
      | false =>
        have hs : sumV r set = 0 := by unfold sumV sumB; rw [hri, hin, if_neg (by simp)]
        rw [hs]
        have H1 := Lib.hid hin
        clear hri hs hin
        go_enter Try.func34, Try.ntmps34
        go_wp2_with fail
        refine hx.mono ?_
        rintro e w' ⟨rfl, hB⟩
        go_wp2_with fail
        refine (isIn_any _ _ _ _).mono ?_
        rw [H1.out]
        rintro e w2 ⟨rfl, rfl⟩
        go_wp2
        go_ret
        exact ⟨rfl, hB0.trans (hB.mono hB0.size)⟩
      | true =>
        have hs : sumV r set = ch r.coef set.toNat := by unfold sumV sumB; rw [hri, hin, if_pos ⟨h12, rfl⟩]
        rw [hs]
        obtain ⟨-, hco, -⟩ := rightB_true hri
        have hset : ∃ s : Nat, set = s ∧ s < 4096 := by
          unfold inB at hin
          simp only [Bool.and_eq_true, decide_eq_true_eq] at hin
          exact ⟨set.toNat, by omega, by omega⟩
        obtain ⟨s, rfl, hs2⟩ := hset
        have H1 := Lib.hid hin
        have H2 := Lib.hid hco
        clear hri hs hin hco
        go_enter Try.func34, Try.ntmps34
        go_wp2_with fail
        refine hx.mono ?_
        rintro e w' ⟨rfl, hB⟩
        have k4 : w'.cell? ⟨w.heap.size, 4, none⟩ = some (.slice ca r.coef.length cc) := (hB.cell (by simp)).trans (World.cell?_alloc_at _ _ _ _ rfl)
        go_wp2_with fail
        refine (isIn_any _ _ _ _).mono ?_
        rw [H1.out]
        rintro e w2 ⟨rfl, rfl⟩
        have hB1 := hB0.trans (hB.mono hB0.size)
        go_wp2_with fail
        refine (chosen_any _ r.coef s _ (HV.out.below hB1) (by omega) H2.out (by omega)).mono ?_
        rintro e w2 ⟨rfl, rfl⟩
        go_wp2
        go_ret
        exact ⟨rfl, hB1⟩
  · have hd : decide ((r.coef.length : Int) > 12) = true := by simp; omega
    have hs : sumV r set = 0 := if_neg fun h => h12 h.1
    rw [hs]
    go_enter Try.func34, Try.ntmps34
    go_wp2
    go_ret
    exact ⟨rfl, hB0⟩

set_option maxRecDepth 100000 in
theorem gain_all (v : Value) (p : ProgD) (set : Int) (w : World) (hv : ProgV w v p) :
    Calls Try.prog 30 #[v, .int .i64 set] w fun e w' => e = .returned (.int .i64 (gainV p set)) ∧ Below w.heap.size w w' := by
  obtain ⟨vr, vg, rfl, hvr, hvg⟩ := hv
  have hB0 : Below w.heap.size w (w.alloc (.cells #[.int .i64 p.vars, vr, vg] 29)) := (Below.refl _ _).alloc (Nat.le_refl _) _
  have hx := isChoice_all _ p set _ ⟨vr, vg, rfl, hvr.below hB0, hvg.below hB0⟩
  have HG := Lib.hid hvg
  clear hvr hvg
  cases hch : choiceB p set with
  | false =>
    have hs : gainV p set = 0 := if_neg (by rw [hch]; decide)
    rw [hs]
    rw [hch] at hx
    clear hch hs
    go_enter Try.func30, Try.ntmps30
    go_wp2_with fail
    refine hx.mono ?_
    rintro e w' ⟨rfl, hB⟩
    go_wp2
    go_ret
    exact ⟨rfl, hB0.trans (hB.mono hB0.size)⟩
  | true =>
    have hs : gainV p set = ch p.gain set.toNat := if_pos hch
    rw [hs]
    rw [hch] at hx
    obtain ⟨hval, s, rfl, hs1, hs2⟩ := choiceB_true hch
    obtain ⟨-, g2, -, -, g3, g4⟩ := validB_true hval
    clear hch hs hval
    go_enter Try.func30, Try.ntmps30
    go_wp2_with fail
    refine hx.mono ?_
    rintro e w' ⟨rfl, hB⟩
    have k2 : w'.cell? ⟨w.heap.size, 2, none⟩ = some vg := (hB.cell (by simp)).trans (World.cell?_alloc_at _ _ _ _ rfl)
    have hB1 := hB0.trans (hB.mono hB0.size)
    go_wp2_with fail
    refine (chosen_any _ p.gain s _ (HG.out.below hB1) (by omega) g4 (by omega)).mono ?_
    rintro e w2 ⟨rfl, rfl⟩
    go_wp2
    go_ret
    exact ⟨rfl, hB1⟩
end Go.Proofs.Ytblmpmapcdpaiaa

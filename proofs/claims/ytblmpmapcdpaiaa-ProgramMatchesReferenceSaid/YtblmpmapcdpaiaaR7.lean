/- nadirref23: All. -/
import Derived.Test.YtblmpmapcdpaiaaM4
namespace Go.Proofs.Ytblmpmapcdpaiaa
open Go.RowKit Lib

set_option maxRecDepth 100000 in
set_option maxHeartbeats 4000000 in
theorem all_ref (v : Value) (p : ProgD) (w : World) (hv : ProgV w v p) :
    Calls Try.prog 23 #[v] w fun e w' => ∃ v', e = .returned (.tuple #[v', .int .i64 (errV p)]) ∧ IntsAt w' v' (allV p) ∧ Below w.heap.size w w' := by
  obtain ⟨vr, vg, rfl, hvr, hvg⟩ := hv
  have hB0 : Below w.heap.size w (w.alloc (.cells #[.int .i64 p.vars, vr, vg] 29)) := (Below.refl _ _).alloc (Nat.le_refl _) _
  have hx := valid_ref _ p _ ⟨_, _, rfl, hvr.below hB0, hvg.below hB0⟩
  have kp := Blk.new w #[.int .i64 p.vars, vr, vg] 29
  have HVR := Lib.hid (hvr.below hB0)
  have HVG := Lib.hid (hvg.below hB0)
  obtain ⟨ra, rc, rfl, hr1, hr2⟩ := (show SlicesLen vr p.rows.length from hvr.len)
  obtain ⟨ga, gc, rfl, -, -⟩ := hvg.len
  clear hvr hvg
  have hnil : ∀ W : World, IntsAt W (.slice none 0 0) [] := fun W => ⟨none, 0, rfl, by simp, by decide, fun h => by simp at h⟩
  unfold allV errV
  cases hval : validB p with
  | false =>
    rw [hval] at hx
    rw [if_neg (by decide), if_neg (by decide)]
    clear hval
    go_enter Try.func23, Try.ntmps23
    go_wp2_with fail
    refine hx.mono ?_
    rintro e w1 ⟨rfl, hB⟩
    go_wp2
    go_ret2
    exact ⟨_, rfl, hnil _, hB0.trans (hB.mono hB0.size)⟩
  | true =>
    rw [hval] at hx
    rw [if_pos rfl, if_pos rfl]
    obtain ⟨v1, v2, v3, -, -, -⟩ := validB_true hval
    have HROW := Lib.hid (fun r (hr : r ∈ p.rows) => by have := validB_row hval hr; exact (⟨by omega, this.2.2.1⟩ : r.coef.length ≤ 60 ∧ coefOK r.coef = true))
    obtain ⟨pv, rows, gn⟩ := p
    simp only at v1 v2 v3 hx kp HVR HVG hB0 HROW hr1 ⊢
    obtain ⟨m, rfl⟩ := Int.eq_ofNat_of_zero_le v1
    rw [Int.toNat_natCast]
    have hpw := pow12 (n := m) (by omega)
    have hpn : ((2 ^ m : Nat) : Int) = (2 : Int) ^ m := by simp
    have hm12 : m ≤ 12 := by omega
    clear hval
    go_enter Try.func23, Try.ntmps23
    go_wp2_with fail
    refine hx.mono ?_
    rintro e w1 ⟨rfl, hB⟩
    have hB1 := hB0.trans (hB.mono hB0.size)
    have kp1 := kp.below hB kp.lt
    have HV1 := Lib.hid (HVR.out.below hB)
    have HG1 := Lib.hid (HVG.out.below hB)
    clear hx
    go_wp2
    go_loopw [4, 5] (fun u4 u5 wr => ∃ k : Nat, k ≤ 2 ^ m ∧ u5 = .int .i64 k ∧ wr.ownsRow w1.heap.size 3 1 u4 (intL (chL rows k)).length ((intL (chL rows k)).map (Value.int .i64)) ∧ Below w1.heap.size w1 wr) (fun _ u5 _ => (2 ^ m - intOf u5).toNat)
    case atStart => exact ⟨0, by omega, rfl, World.ownsRow_nil _ _ _ _, Below.refl _ _⟩
    case round =>
      obtain ⟨k, hk, rfl, hown, hBk⟩ := hrel
      have kpk := kp1.below hBk kp1.lt
      have a0 := kpk.cell 0
      have a1 := kpk.cell 1
      have a2 := kpk.cell 2
      simp only [List.getElem?_toArray, List.getElem?_cons_succ, List.getElem?_cons_zero] at a0 a1 a2
      by_cases hkl : k < 2 ^ m
      · have hki : (k : Int) < (2 : Int) ^ m := by omega
        have hkr := keeps_ref (.agg #[.int .i64 m, .slice ra rows.length rc, .slice ga gn.length gc]) ⟨m, rows, gn⟩ k wr ⟨_, _, rfl, HV1.out.below hBk, HG1.out.below hBk⟩ HROW.out (by simp only; omega)
        have hch := chL_succ rows k
        have hcl := chL_len rows k
        simp only at hkr
        cases hkb : keepsB rows k with
        | false =>
          rw [hkb] at hkr hch
          have HN : Hid (chL rows (k + 1) = chL rows k) := Lib.hid (by rw [hch]; simp)
          clear hkb hch
          go_wp2_with fail
          refine hkr.mono ?_
          rintro e w6 ⟨rfl, hB6⟩
          go_wp2
          go_roundw
          case rel => exact ⟨k + 1, by omega, by go_num, by rw [HN.out]; exact owned_below hown hB6, hBk.trans (hB6.mono hBk.size)⟩
          case measure => simp [intOf]; omega
        | true =>
          rw [hkb] at hkr hch
          have HN : Hid (intL (chL rows (k + 1)) = intL (chL rows k) ++ [(k : Int)]) := Lib.hid (by rw [hch]; simp [intL])
          have hil : (intL (chL rows k)).length ≤ 4096 := by rw [intL_len]; omega
          clear hkb hch
          go_wp2_with fail
          refine hkr.mono ?_
          rintro e w6 ⟨rfl, hB6⟩
          have hown6 := owned_below hown hB6
          have hbs : w1.heap.size ≤ w6.heap.size := Nat.le_trans hBk.size hB6.size
          go_wp2_with (at_builtin; refine wpList_push E24 rfl _ _ rfl w1.heap.size hown6 rfl rfl rfl (by unfold maxLen; omega) (by omega) hbs ?_; intro v' w7 hown' hgrow hb1)
          go_roundw
          case rel => exact ⟨k + 1, by omega, by go_num, by rw [HN.out]; simpa using hown', (hBk.trans (hB6.mono hBk.size)).trans hb1⟩
          case measure => simp [intOf]; omega
      · obtain rfl : k = 2 ^ m := by omega
        have hki : ¬ (((2 ^ m : Nat) : Int) < (2 : Int) ^ m) := by omega
        go_wp2
        go_ret2
        exact ⟨_, rfl, owned_slice hown, hB1.trans (hBk.mono hB1.size)⟩
end Go.Proofs.Ytblmpmapcdpaiaa

/- nadirlaw23.ProgramBest: the walk. -/
import Derived.Test.YtblmpmapcdpaiaaL8
namespace Go.Proofs.Ytblmpmapcdpaiaa
open Go.RowKit Lib

theorem shr_bit (k i : Nat) : Int.tmod ((k : Int) / 2 ^ i) 2 = (if bitOn k i then 1 else 0) ∧ ((k : Int) / 2 ^ i) % 2 = (if bitOn k i then 1 else 0) ∧ (0 : Int) ≤ (k : Int) / 2 ^ i := by
  have h0 : (0 : Int) ≤ (k : Int) / 2 ^ i := by rw [pow_div]; exact Int.natCast_nonneg _
  have h1 : ((k : Int) / 2 ^ i) % 2 = (if bitOn k i then 1 else 0) := by
    rw [pow_div]
    unfold bitOn
    generalize k / 2 ^ i = q
    by_cases h : q % 2 = 1
    · rw [if_pos (by simpa using h)]; omega
    · rw [if_neg (by simpa using h)]; omega
  exact ⟨by rw [Int.tmod_eq_emod_of_nonneg h0]; exact h1, h1, h0⟩
def kpK (rows : List RowD) (set : Nat) : Nat → Bool
  | 0 => true
  | j + 1 => kpK rows set j && keptB (rows.getD j row0) set
theorem kpK_all (rows : List RowD) (set : Nat) : kpK rows set rows.length = keepsB rows set := by
  have h : ∀ n, n ≤ rows.length → kpK rows set n = (rows.take n).all fun r => keptB r set := by
    intro n
    induction n with
    | zero => intro _; rfl
    | succ n ih =>
      intro hn
      have hs : rows[n]? = some (rows.getD n row0) := getD_some row0 (by omega)
      rw [List.take_add_one, hs, kpK, ih (by omega)]
      simp [List.all_append]
  have := h rows.length (Nat.le_refl _)
  rw [List.take_length] at this
  exact this

set_option maxRecDepth 100000 in
set_option maxHeartbeats 8000000 in
theorem best_none (vars : Int) (vx : Value) (g0 g1 g2 g3 g4 g5 g6 g7 : Int) (m : Nat) (rows : List RowD) (gn : List Int) (w : World) (hG : GoodP ⟨(m : Int), rows, gn⟩ m) (ho : bestS ⟨(m : Int), rows, gn⟩ = none)
    (hmade : Hid (∀ W, Below w.heap.size w W → Calls Try.prog 17 #[.int .i64 vars, vx, .agg #[.int .i64 g0, .int .i64 g1, .int .i64 g2, .int .i64 g3, .int .i64 g4, .int .i64 g5, .int .i64 g6, .int .i64 g7]] W fun e w' => ∃ oB vk vg, e = .returned (.agg #[.int .i64 m, vk, vg]) ∧ OutP oB w' m vk vg rows gn ∧ W.heap.size ≤ oB ∧ Below W.heap.size W w')) :
    Calls Try.prog 4 #[.int .i64 vars, vx, .agg #[.int .i64 g0, .int .i64 g1, .int .i64 g2, .int .i64 g3, .int .i64 g4, .int .i64 g5, .int .i64 g6, .int .i64 g7]] w fun e w' => e = .returned (.bool true) ∧ Below w.heap.size w w' := by
  have hm8 := hG.m8
  have hpw := pow12 (n := m) (by omega)
  have hpn : ((2 ^ m : Nat) : Int) = (2 : Int) ^ m := by simp
  have hm4 : 2 ^ m ≤ 4096 := by omega
  have hval := hG.val
  have htn : (ProgD.vars ⟨(m : Int), rows, gn⟩).toNat = m := Int.toNat_natCast m
  have hn8 := hG.n8
  simp only at hn8
  have herr : errV ⟨(m : Int), rows, gn⟩ = 0 := by unfold errV; rw [hval]; rfl
  have hsv : ∃ pf, solveV ⟨(m : Int), rows, gn⟩ = ⟨false, 0, 0, pf⟩ := ⟨_, by unfold solveV; rw [hval, if_pos rfl, ho]⟩
  obtain ⟨pf, hsv⟩ := hsv
  have hbest := best_of ⟨(m : Int), rows, gn⟩
  rw [ho] at hbest
  have HBEST := Lib.hid hbest
  have hmem : Hid (∀ k : Nat, k < 2 ^ m → keepsB rows k = true → k ∈ allS ⟨(m : Int), rows, gn⟩) := fun k h1 h2 => chL_mem.2 ⟨by rw [htn]; exact h1, h2⟩
  obtain ⟨v1, v2, v3, v4, v5, v6⟩ := validB_true hval
  have hgl : gn.length = m := by simp only at v5; omega
  have hgc : coefOK gn = true := v6
  have HROW := Lib.hid (fun r (hr : r ∈ rows) => by have := validB_row hval hr; rw [htn] at this; exact this)
  have HVAL := Lib.hid hval
  have HK : Hid (∀ k : Nat, k < 2 ^ m → (choiceB ⟨(m : Int), rows, gn⟩ k && keepsB rows (k : Int).toNat) = keepsB rows k ∧ gainV ⟨(m : Int), rows, gn⟩ k = chK gn k m) := fun k hk => by
    have hc := choiceB_ok hval (s := k) (by rw [htn]; exact hk)
    refine ⟨by rw [hc, Bool.true_and, Int.toNat_natCast], ?_⟩
    unfold gainV ch
    rw [if_pos hc, Int.toNat_natCast, hgl]
  have HGL := Lib.hid hgl
  clear hG hval ho hbest v1 v2 v3 v4 v5 v6 htn hgl
  go_enter Try.func4, Try.ntmps4
  go_wp2_with fail
  refine (sane_true _).mono ?_
  rintro e w1 ⟨rfl, hBa⟩
  have hBw1 : Below w.heap.size w w1 := ((Below.refl _ _).alloc (Nat.le_refl _) _).trans (hBa.mono (by simp))
  have kg : Blk w1 w.heap.size #[.int .i64 g0, .int .i64 g1, .int .i64 g2, .int .i64 g3, .int .i64 g4, .int .i64 g5, .int .i64 g6, .int .i64 g7] 23 := (Blk.new w _ 23).below hBa (by simp)
  have i0 := kg.cell 0
  have i1 := kg.cell 1
  have i2 := kg.cell 2
  have i3 := kg.cell 3
  have i4 := kg.cell 4
  have i5 := kg.cell 5
  have i6 := kg.cell 6
  have i7 := kg.cell 7
  simp only [List.getElem?_toArray, List.getElem?_cons_succ, List.getElem?_cons_zero] at i0 i1 i2 i3 i4 i5 i6 i7
  go_wp2_with fail
  refine (hmade.out w1 hBw1).mono ?_
  rintro e w2 ⟨oB, vk, vg, rfl, hO, -, hB2⟩
  obtain ⟨vr', vg', e, hvr, hvg⟩ := hO.prog
  cases e
  simp only at hvr hvg
  obtain ⟨ra, rc, rfl, hr1, hr2⟩ := (show SlicesLen vk rows.length from hvr.len)
  obtain ⟨ga, gc, rfl, hg1, hg2⟩ := hvg.len
  unfold maxLen at hr2 hg2
  have hBw2 := hBw1.trans (hB2.mono hBw1.size)
  clear hO hB2 hBa hBw1 kg i0 i1 i2 i3 i4 i5 i6 i7 hmade
  have hA2 : Below w2.heap.size w2 (w2.alloc (.cells #[.int .i64 m, .slice ra rows.length rc, .slice ga gn.length gc] 29)) := (Below.refl _ _).alloc (Nat.le_refl _) _
  have kp := Blk.new w2 #[.int .i64 m, .slice ra rows.length rc, .slice ga gn.length gc] 29
  have hx := solve_all (.agg #[.int .i64 m, .slice ra rows.length rc, .slice ga gn.length gc]) ⟨m, rows, gn⟩ _ ⟨_, _, rfl, hvr.below hA2, hvg.below hA2⟩
  rw [hsv, herr] at hx
  go_wp2_with fail
  refine hx.mono ?_
  rintro e w3 ⟨v9, rfl, ⟨vp, rfl, hst⟩, hB3⟩
  obtain ⟨pa, pc, rfl, -, -⟩ := hst.len
  have hA3 := hA2.trans (hB3.mono hA2.size)
  have hA4 : Below w3.heap.size w3 (w3.alloc (.cells #[.bool false, .int .i64 0, .int .i64 0, .slice pa pf.length pc] 37)) := (Below.refl _ _).alloc (Nat.le_refl _) _
  have hA5 := hA3.trans (hA4.mono hA3.size)
  have hBw3 := hBw2.trans (hA5.mono hBw2.size)
  have kp0 : Blk w3 w2.heap.size #[.int .i64 m, .slice ra rows.length rc, .slice ga gn.length gc] 29 := kp.below hB3 kp.lt
  have kp3 : Blk (w3.alloc (.cells #[.bool false, .int .i64 0, .int .i64 0, .slice pa pf.length pc] 37)) w2.heap.size #[.int .i64 m, .slice ra rows.length rc, .slice ga gn.length gc] 29 := kp0.alloc _
  have ks3 := Blk.new w3 #[.bool false, .int .i64 0, .int .i64 0, .slice pa pf.length pc] 37
  have HVR := Lib.hid (hvr.below hA5)
  have HVG := Lib.hid (hvg.below hA5)
  have j0 := kp0.cell 0
  simp only [List.getElem?_toArray, List.getElem?_cons_zero] at j0
  have lp0 := kp0.lt
  clear hx hst hvr hvg hA2 hA3 hA4 hA5 hB3 kp
  go_wp2_with fail
  generalize w3.alloc (.cells #[.bool false, .int .i64 0, .int .i64 0, .slice pa pf.length pc] 37) = X at hBw3 kp3 ks3 HVR HVG ⊢
  clear j0 lp0 kp0
  have a0 := kp3.cell 0
  have b0 := ks3.cell 0
  have b1 := ks3.cell 1
  have b2 := ks3.cell 2
  simp only [List.getElem?_toArray, List.getElem?_cons_succ, List.getElem?_cons_zero] at a0 b0 b1 b2
  go_quiet (fail)
  clear a0 b0 b1 b2
  go_wp2
  go_loopw [11, 12] (fun u11 u12 wr => ∃ k : Nat, k ≤ 2 ^ m ∧ u12 = .int .i64 k ∧ u11 = .bool false ∧ Below X.heap.size X wr) (fun _ u12 _ => (2 ^ m - intOf u12).toNat)
  case atStart => exact ⟨0, by omega, rfl, rfl, by exact below_drewN (Below.refl _ _) _⟩
  case round =>
    obtain ⟨k, hk, rfl, rfl, hBk⟩ := hrel
    rename World => Wk
    have kpk := kp3.below hBk kp3.lt
    have a0 := kpk.cell 0
    simp only [List.getElem?_toArray, List.getElem?_cons_zero] at a0
    by_cases hkl : k < 2 ^ m
    · have hki : (k : Int) < (2 : Int) ^ m := by omega
      go_wp2
      go_loopw [14, 15] (fun u14 u15 wr => ∃ i : Nat, i ≤ m ∧ u15 = .int .i64 i ∧ u14 = .int .i64 (chK gn k i) ∧ Below X.heap.size X wr) (fun _ u15 _ => (m - intOf u15).toNat)
      case atStart => exact ⟨0, by omega, rfl, rfl, hBk⟩
      case round =>
        obtain ⟨i, hi, rfl, rfl, hBi⟩ := hrel
        rename World => Wi
        have kpi := kp3.below hBi kp3.lt
        have q0 := kpi.cell 0
        have q1 := kpi.cell 1
        have q2 := kpi.cell 2
        simp only [List.getElem?_toArray, List.getElem?_cons_succ, List.getElem?_cons_zero] at q0 q1 q2
        by_cases him : i < m
        · obtain ⟨gb, go, rfl, hcell⟩ := (HVG.out.below hBi).get (getD_some 0 (show i < gn.length by have := HGL.out; omega))
          obtain ⟨c0, c1⟩ := coefOK_get hgc i
          obtain ⟨s0, s1⟩ := chK_bd (M := 1000000000) (by omega) (coefOK_get hgc) k i
          have hi64 : (i : Int) < 64 := by omega
          have hii : (0 : Int) ≤ (i : Int) ∧ (i : Int) < (gn.length : Int) := by have := HGL.out; omega
          have HS : Hid (chK gn k (i + 1) = chK gn k i + if bitOn k i then gn.getD i 0 else 0) := rfl
          have hz := shr_bit k i
          generalize gn.getD i 0 = x at hcell c0 c1 HS
          generalize chK gn k i = sm at s0 s1 HS ⊢
          cases hb : bitOn k i with
          | true =>
            rw [hb] at hz HS
            obtain ⟨z1, z2, z3⟩ := hz
            have HS' : Hid (chK gn k (i + 1) = sm + x) := HS.out
            have hwx : IntKind.i64.wrap x = x := wrapS _ (by omega) (by omega)
            have hws : IntKind.i64.wrap (sm + x) = sm + x := wrapS _ (by omega) (by omega)
            clear hb HS
            go_wp2_with fail
            go_quiet (fail)
            go_wp2
            go_roundw
            case rel => exact ⟨i + 1, by omega, by go_num, by rw [HS'.out], by exact below_drewN hBi _⟩
            case measure => simp [intOf]; omega
          | false =>
            rw [hb] at hz HS
            obtain ⟨z1, z2, z3⟩ := hz
            have HS' : Hid (chK gn k (i + 1) = sm) := Lib.hid (by have := HS.out; simpa using this)
            have hws : IntKind.i64.wrap sm = sm := wrapS _ (by omega) (by omega)
            clear hb HS
            go_wp2_with fail
            go_quiet (fail)
            go_wp2
            go_roundw
            case rel => exact ⟨i + 1, by omega, by go_num, by rw [HS'.out], by exact below_drewN hBi _⟩
            case measure => simp [intOf]; omega
        · obtain rfl : m = i := by omega
          clear q1 q2
          go_wp2
          go_loopw [13, 16] (fun u13 u16 wr => ∃ j : Nat, j ≤ rows.length ∧ u16 = .int .i64 j ∧ u13 = .bool (kpK rows k j) ∧ Below X.heap.size X wr) (fun _ u16 _ => (rows.length - intOf u16).toNat)
          case atStart => exact ⟨0, by omega, rfl, rfl, hBi⟩
          case round =>
            obtain ⟨j, hj, rfl, rfl, hBj⟩ := hrel
            rename World => Wj
            have kpj := kp3.below hBj kp3.lt
            have q0 := kpj.cell 0
            have q1 := kpj.cell 1
            have q2 := kpj.cell 2
            simp only [List.getElem?_toArray, List.getElem?_cons_succ, List.getElem?_cons_zero] at q0 q1 q2
            by_cases hjn : j < rows.length
            · have hs := getD_some row0 hjn
              obtain ⟨hl1, -, hl3, -⟩ := HROW.out _ (List.mem_of_getElem? hs)
              replace hl1 := Lib.hid hl1
              have HKP : Hid (kpK rows k (j + 1) = (kpK rows k j && keptB (rows.getD j row0) k)) := rfl
              have hjj : (0 : Int) ≤ (j : Int) ∧ (j : Int) < (rows.length : Int) := by omega
              have HRJ := Lib.hid hs
              generalize rows.getD j row0 = r at hs hl1 hl3 HKP HRJ
              clear hs
              go_wp2
              go_loopw [17, 18] (fun u17 u18 wr => ∃ i : Nat, i ≤ m ∧ u18 = .int .i64 i ∧ u17 = .int .i64 (chK r.coef k i) ∧ Below X.heap.size X wr) (fun _ u18 _ => (m - intOf u18).toNat)
              case atStart => exact ⟨0, by omega, rfl, rfl, hBj⟩
              case round =>
                obtain ⟨i, hi, rfl, rfl, hBi2⟩ := hrel
                rename World => Wl
                have kpi := kp3.below hBi2 kp3.lt
                have q0 := kpi.cell 0
                have q1 := kpi.cell 1
                simp only [List.getElem?_toArray, List.getElem?_cons_succ, List.getElem?_cons_zero] at q0 q1
                obtain ⟨rb, ro, vc, e, -, -, -, -, d4, d5, hc⟩ := (HVR.out.below hBi2).get HRJ.out
                cases e
                by_cases him : i < m
                · obtain ⟨ca, cc, rfl, hc1, hc2⟩ := hc.len
                  unfold maxLen at hc2
                  obtain ⟨cb, co, rfl, hcell⟩ := hc.get (getD_some 0 (show i < r.coef.length by have := hl1.out; omega))
                  obtain ⟨c0, c1⟩ := coefOK_get hl3 i
                  obtain ⟨s0, s1⟩ := chK_bd (M := 1000000000) (by omega) (coefOK_get hl3) k i
                  have hi64 : (i : Int) < 64 := by omega
                  have hii : (0 : Int) ≤ (i : Int) ∧ (i : Int) < (r.coef.length : Int) := by have := hl1.out; omega
                  have HS : Hid (chK r.coef k (i + 1) = chK r.coef k i + if bitOn k i then r.coef.getD i 0 else 0) := rfl
                  have hz := shr_bit k i
                  generalize r.coef.getD i 0 = x at hcell c0 c1 HS
                  generalize chK r.coef k i = sm at s0 s1 HS ⊢
                  clear hc
                  cases hb : bitOn k i with
                  | true =>
                    rw [hb] at hz HS
                    obtain ⟨z1, z2, z3⟩ := hz
                    have HS' : Hid (chK r.coef k (i + 1) = sm + x) := HS.out
                    have hwx : IntKind.i64.wrap x = x := wrapS _ (by omega) (by omega)
                    have hws : IntKind.i64.wrap (sm + x) = sm + x := wrapS _ (by omega) (by omega)
                    clear hb HS
                    go_wp2_with fail
                    go_quiet (fail)
                    go_wp2
                    go_roundw
                    case rel => exact ⟨i + 1, by omega, by go_num, by rw [HS'.out], by exact below_drewN hBi2 _⟩
                    case measure => simp [intOf]; omega
                  | false =>
                    rw [hb] at hz HS
                    obtain ⟨z1, z2, z3⟩ := hz
                    have HS' : Hid (chK r.coef k (i + 1) = sm) := Lib.hid (by have := HS.out; simpa using this)
                    have hws : IntKind.i64.wrap sm = sm := wrapS _ (by omega) (by omega)
                    clear hb HS
                    go_wp2_with fail
                    go_quiet (fail)
                    go_wp2
                    go_roundw
                    case rel => exact ⟨i + 1, by omega, by go_num, by rw [HS'.out], by exact below_drewN hBi2 _⟩
                    case measure => simp [intOf]; omega
                · obtain rfl : i = m := by omega
                  have hkb : keptB r k = decide (chK r.coef k i ≤ r.most) := by unfold keptB ch; rw [hl1.out]
                  rw [hkb] at HKP
                  clear hkb hc
                  generalize chK r.coef k i = sm at HKP ⊢
                  cases hkp : kpK rows k j with
                  | true =>
                    rw [hkp, Bool.true_and] at HKP
                    by_cases hle : sm ≤ r.most
                    · rw [decide_eq_true hle] at HKP
                      go_wp2
                      go_roundw
                      case rel => exact ⟨j + 1, by omega, by go_num, by rw [HKP.out], hBi2⟩
                      case measure => simp [intOf]; omega
                    · rw [decide_eq_false hle] at HKP
                      go_wp2
                      go_roundw
                      case rel => exact ⟨j + 1, by omega, by go_num, by rw [HKP.out], hBi2⟩
                      case measure => simp [intOf]; omega
                  | false =>
                    rw [hkp, Bool.false_and] at HKP
                    go_wp2
                    go_roundw
                    case rel => exact ⟨j + 1, by omega, by go_num, by rw [HKP.out], hBi2⟩
                    case measure => simp [intOf]; omega
            · obtain rfl : j = rows.length := by omega
              have hkall := Lib.hid (kpK_all rows k)
              have kpj2 := kp3.below hBj kp3.lt
              have hkp := keeps_all (.agg #[.int .i64 m, .slice ra rows.length rc, .slice ga gn.length gc]) ⟨m, rows, gn⟩ k Wj ⟨_, _, rfl, HVR.out.below hBj, HVG.out.below hBj⟩
              rw [(HK.out k hkl).1] at hkp
              have hgp := Lib.hid (fun W (hW : Below Wj.heap.size Wj W) => gain_all (.agg #[.int .i64 m, .slice ra rows.length rc, .slice ga gn.length gc]) ⟨m, rows, gn⟩ k W ⟨_, _, rfl, (HVR.out.below hBj).below hW, (HVG.out.below hBj).below hW⟩)
              rw [(HK.out k hkl).2] at hgp
              have ksj := ks3.below hBj ks3.lt
              rw [hkall.out]
              cases hb : keepsB rows k with
              | false =>
                rw [hb] at hkp
                clear hb
                go_wp2_with fail
                refine hkp.mono ?_
                rintro e W5 ⟨rfl, hB5⟩
                have kp5 := kpj2.below hB5 kpj2.lt
                have q0 := kp5.cell 0
                have q1 := kp5.cell 1
                have q2 := kp5.cell 2
                simp only [List.getElem?_toArray, List.getElem?_cons_succ, List.getElem?_cons_zero] at q0 q1 q2
                go_wp2_with fail
                refine (hgp.out _ hB5).mono ?_
                rintro e W6 ⟨rfl, hB6⟩
                go_wp2
                go_roundw
                case rel => exact ⟨k + 1, by omega, by go_num, rfl, hBj.trans ((hB5.trans (hB6.mono hB5.size)).mono hBj.size)⟩
                case measure => simp [intOf]; omega
              | true =>
                have hin := hmem.out k hkl hb
                rw [show allS ⟨(m : Int), rows, gn⟩ = [] from HBEST.out] at hin
                cases hin
    · obtain rfl : k = 2 ^ m := by omega
      have hki : ¬ (((2 ^ m : Nat) : Int) < (2 : Int) ^ m) := by omega
      have ksj := ks3.below hBk ks3.lt
      have b0 := ksj.cell 0
      simp only [List.getElem?_toArray, List.getElem?_cons_zero] at b0
      go_wp2
      go_ret
      exact ⟨rfl, hBw3.trans (hBk.mono hBw3.size)⟩

set_option maxRecDepth 100000 in
set_option maxHeartbeats 8000000 in
theorem best_some (vars : Int) (vx : Value) (g0 g1 g2 g3 g4 g5 g6 g7 : Int) (m : Nat) (rows : List RowD) (gn : List Int) (w : World) (hG : GoodP ⟨(m : Int), rows, gn⟩ m) (ys : Nat) (yg : Int) (ho : bestS ⟨(m : Int), rows, gn⟩ = some (ys, yg))
    (hmade : Hid (∀ W, Below w.heap.size w W → Calls Try.prog 17 #[.int .i64 vars, vx, .agg #[.int .i64 g0, .int .i64 g1, .int .i64 g2, .int .i64 g3, .int .i64 g4, .int .i64 g5, .int .i64 g6, .int .i64 g7]] W fun e w' => ∃ oB vk vg, e = .returned (.agg #[.int .i64 m, vk, vg]) ∧ OutP oB w' m vk vg rows gn ∧ W.heap.size ≤ oB ∧ Below W.heap.size W w')) :
    Calls Try.prog 4 #[.int .i64 vars, vx, .agg #[.int .i64 g0, .int .i64 g1, .int .i64 g2, .int .i64 g3, .int .i64 g4, .int .i64 g5, .int .i64 g6, .int .i64 g7]] w fun e w' => e = .returned (.bool true) ∧ Below w.heap.size w w' := by
  have hm8 := hG.m8
  have hpw := pow12 (n := m) (by omega)
  have hpn : ((2 ^ m : Nat) : Int) = (2 : Int) ^ m := by simp
  have hm4 : 2 ^ m ≤ 4096 := by omega
  have hval := hG.val
  have htn : (ProgD.vars ⟨(m : Int), rows, gn⟩).toNat = m := Int.toNat_natCast m
  have hn8 := hG.n8
  simp only at hn8
  have herr : errV ⟨(m : Int), rows, gn⟩ = 0 := by unfold errV; rw [hval]; rfl
  have hsv : ∃ pf, solveV ⟨(m : Int), rows, gn⟩ = ⟨true, ys, yg, pf⟩ := ⟨_, by unfold solveV; rw [hval, if_pos rfl, ho]⟩
  obtain ⟨pf, hsv⟩ := hsv
  have hbest := best_of ⟨(m : Int), rows, gn⟩
  rw [ho] at hbest
  have HBEST := Lib.hid hbest
  have hmem : Hid (∀ k : Nat, k < 2 ^ m → keepsB rows k = true → k ∈ allS ⟨(m : Int), rows, gn⟩) := fun k h1 h2 => chL_mem.2 ⟨by rw [htn]; exact h1, h2⟩
  have hys : ys < 2 ^ m := by have := (chL_mem.1 HBEST.out.1).1; rwa [htn] at this
  have hys2 : ((ys : Nat) : Int) < (2 : Int) ^ m := by omega
  have hys3 : decide (((ys : Nat) : Int) < 0) = false := decide_eq_false (by omega)
  have hys4 : decide ((2 : Int) ^ m ≤ ((ys : Nat) : Int)) = false := decide_eq_false (by omega)
  obtain ⟨v1, v2, v3, v4, v5, v6⟩ := validB_true hval
  have hgl : gn.length = m := by simp only at v5; omega
  have hgc : coefOK gn = true := v6
  have HROW := Lib.hid (fun r (hr : r ∈ rows) => by have := validB_row hval hr; rw [htn] at this; exact this)
  have HVAL := Lib.hid hval
  have HK : Hid (∀ k : Nat, k < 2 ^ m → (choiceB ⟨(m : Int), rows, gn⟩ k && keepsB rows (k : Int).toNat) = keepsB rows k ∧ gainV ⟨(m : Int), rows, gn⟩ k = chK gn k m) := fun k hk => by
    have hc := choiceB_ok hval (s := k) (by rw [htn]; exact hk)
    refine ⟨by rw [hc, Bool.true_and, Int.toNat_natCast], ?_⟩
    unfold gainV ch
    rw [if_pos hc, Int.toNat_natCast, hgl]
  have HGL := Lib.hid hgl
  clear hG hval ho hbest v1 v2 v3 v4 v5 v6 htn hgl
  go_enter Try.func4, Try.ntmps4
  go_wp2_with fail
  refine (sane_true _).mono ?_
  rintro e w1 ⟨rfl, hBa⟩
  have hBw1 : Below w.heap.size w w1 := ((Below.refl _ _).alloc (Nat.le_refl _) _).trans (hBa.mono (by simp))
  have kg : Blk w1 w.heap.size #[.int .i64 g0, .int .i64 g1, .int .i64 g2, .int .i64 g3, .int .i64 g4, .int .i64 g5, .int .i64 g6, .int .i64 g7] 23 := (Blk.new w _ 23).below hBa (by simp)
  have i0 := kg.cell 0
  have i1 := kg.cell 1
  have i2 := kg.cell 2
  have i3 := kg.cell 3
  have i4 := kg.cell 4
  have i5 := kg.cell 5
  have i6 := kg.cell 6
  have i7 := kg.cell 7
  simp only [List.getElem?_toArray, List.getElem?_cons_succ, List.getElem?_cons_zero] at i0 i1 i2 i3 i4 i5 i6 i7
  go_wp2_with fail
  refine (hmade.out w1 hBw1).mono ?_
  rintro e w2 ⟨oB, vk, vg, rfl, hO, -, hB2⟩
  obtain ⟨vr', vg', e, hvr, hvg⟩ := hO.prog
  cases e
  simp only at hvr hvg
  obtain ⟨ra, rc, rfl, hr1, hr2⟩ := (show SlicesLen vk rows.length from hvr.len)
  obtain ⟨ga, gc, rfl, hg1, hg2⟩ := hvg.len
  unfold maxLen at hr2 hg2
  have hBw2 := hBw1.trans (hB2.mono hBw1.size)
  clear hO hB2 hBa hBw1 kg i0 i1 i2 i3 i4 i5 i6 i7 hmade
  have hA2 : Below w2.heap.size w2 (w2.alloc (.cells #[.int .i64 m, .slice ra rows.length rc, .slice ga gn.length gc] 29)) := (Below.refl _ _).alloc (Nat.le_refl _) _
  have kp := Blk.new w2 #[.int .i64 m, .slice ra rows.length rc, .slice ga gn.length gc] 29
  have hx := solve_all (.agg #[.int .i64 m, .slice ra rows.length rc, .slice ga gn.length gc]) ⟨m, rows, gn⟩ _ ⟨_, _, rfl, hvr.below hA2, hvg.below hA2⟩
  rw [hsv, herr] at hx
  go_wp2_with fail
  refine hx.mono ?_
  rintro e w3 ⟨v9, rfl, ⟨vp, rfl, hst⟩, hB3⟩
  obtain ⟨pa, pc, rfl, -, -⟩ := hst.len
  have hA3 := hA2.trans (hB3.mono hA2.size)
  have hA4 : Below w3.heap.size w3 (w3.alloc (.cells #[.bool true, .int .i64 ys, .int .i64 yg, .slice pa pf.length pc] 37)) := (Below.refl _ _).alloc (Nat.le_refl _) _
  have hA5 := hA3.trans (hA4.mono hA3.size)
  have hBw3 := hBw2.trans (hA5.mono hBw2.size)
  have kp0 : Blk w3 w2.heap.size #[.int .i64 m, .slice ra rows.length rc, .slice ga gn.length gc] 29 := kp.below hB3 kp.lt
  have kp3 : Blk (w3.alloc (.cells #[.bool true, .int .i64 ys, .int .i64 yg, .slice pa pf.length pc] 37)) w2.heap.size #[.int .i64 m, .slice ra rows.length rc, .slice ga gn.length gc] 29 := kp0.alloc _
  have ks3 := Blk.new w3 #[.bool true, .int .i64 ys, .int .i64 yg, .slice pa pf.length pc] 37
  have HVR := Lib.hid (hvr.below hA5)
  have HVG := Lib.hid (hvg.below hA5)
  have j0 := kp0.cell 0
  simp only [List.getElem?_toArray, List.getElem?_cons_zero] at j0
  have lp0 := kp0.lt
  clear hx hst hvr hvg hA2 hA3 hA4 hA5 hB3 kp
  go_wp2_with fail
  generalize w3.alloc (.cells #[.bool true, .int .i64 ys, .int .i64 yg, .slice pa pf.length pc] 37) = X at hBw3 kp3 ks3 HVR HVG ⊢
  clear j0 lp0 kp0
  have a0 := kp3.cell 0
  have b0 := ks3.cell 0
  have b1 := ks3.cell 1
  have b2 := ks3.cell 2
  simp only [List.getElem?_toArray, List.getElem?_cons_succ, List.getElem?_cons_zero] at a0 b0 b1 b2
  go_quiet (fail)
  clear a0 b0 b1 b2
  go_wp2
  go_loopw [11, 12] (fun u11 u12 wr => ∃ k : Nat, k ≤ 2 ^ m ∧ u12 = .int .i64 k ∧ u11 = .bool (decide (ys < k)) ∧ Below X.heap.size X wr) (fun _ u12 _ => (2 ^ m - intOf u12).toNat)
  case atStart => exact ⟨0, by omega, rfl, by simp, by exact below_drewN (Below.refl _ _) _⟩
  case round =>
    obtain ⟨k, hk, rfl, rfl, hBk⟩ := hrel
    rename World => Wk
    have kpk := kp3.below hBk kp3.lt
    have a0 := kpk.cell 0
    simp only [List.getElem?_toArray, List.getElem?_cons_zero] at a0
    by_cases hkl : k < 2 ^ m
    · have hki : (k : Int) < (2 : Int) ^ m := by omega
      go_wp2
      go_loopw [14, 15] (fun u14 u15 wr => ∃ i : Nat, i ≤ m ∧ u15 = .int .i64 i ∧ u14 = .int .i64 (chK gn k i) ∧ Below X.heap.size X wr) (fun _ u15 _ => (m - intOf u15).toNat)
      case atStart => exact ⟨0, by omega, rfl, rfl, hBk⟩
      case round =>
        obtain ⟨i, hi, rfl, rfl, hBi⟩ := hrel
        rename World => Wi
        have kpi := kp3.below hBi kp3.lt
        have q0 := kpi.cell 0
        have q1 := kpi.cell 1
        have q2 := kpi.cell 2
        simp only [List.getElem?_toArray, List.getElem?_cons_succ, List.getElem?_cons_zero] at q0 q1 q2
        by_cases him : i < m
        · obtain ⟨gb, go, rfl, hcell⟩ := (HVG.out.below hBi).get (getD_some 0 (show i < gn.length by have := HGL.out; omega))
          obtain ⟨c0, c1⟩ := coefOK_get hgc i
          obtain ⟨s0, s1⟩ := chK_bd (M := 1000000000) (by omega) (coefOK_get hgc) k i
          have hi64 : (i : Int) < 64 := by omega
          have hii : (0 : Int) ≤ (i : Int) ∧ (i : Int) < (gn.length : Int) := by have := HGL.out; omega
          have HS : Hid (chK gn k (i + 1) = chK gn k i + if bitOn k i then gn.getD i 0 else 0) := rfl
          have hz := shr_bit k i
          generalize gn.getD i 0 = x at hcell c0 c1 HS
          generalize chK gn k i = sm at s0 s1 HS ⊢
          cases hb : bitOn k i with
          | true =>
            rw [hb] at hz HS
            obtain ⟨z1, z2, z3⟩ := hz
            have HS' : Hid (chK gn k (i + 1) = sm + x) := HS.out
            have hwx : IntKind.i64.wrap x = x := wrapS _ (by omega) (by omega)
            have hws : IntKind.i64.wrap (sm + x) = sm + x := wrapS _ (by omega) (by omega)
            clear hb HS
            go_wp2_with fail
            go_quiet (fail)
            go_wp2
            go_roundw
            case rel => exact ⟨i + 1, by omega, by go_num, by rw [HS'.out], by exact below_drewN hBi _⟩
            case measure => simp [intOf]; omega
          | false =>
            rw [hb] at hz HS
            obtain ⟨z1, z2, z3⟩ := hz
            have HS' : Hid (chK gn k (i + 1) = sm) := Lib.hid (by have := HS.out; simpa using this)
            have hws : IntKind.i64.wrap sm = sm := wrapS _ (by omega) (by omega)
            clear hb HS
            go_wp2_with fail
            go_quiet (fail)
            go_wp2
            go_roundw
            case rel => exact ⟨i + 1, by omega, by go_num, by rw [HS'.out], by exact below_drewN hBi _⟩
            case measure => simp [intOf]; omega
        · obtain rfl : m = i := by omega
          clear q1 q2
          go_wp2
          go_loopw [13, 16] (fun u13 u16 wr => ∃ j : Nat, j ≤ rows.length ∧ u16 = .int .i64 j ∧ u13 = .bool (kpK rows k j) ∧ Below X.heap.size X wr) (fun _ u16 _ => (rows.length - intOf u16).toNat)
          case atStart => exact ⟨0, by omega, rfl, rfl, hBi⟩
          case round =>
            obtain ⟨j, hj, rfl, rfl, hBj⟩ := hrel
            rename World => Wj
            have kpj := kp3.below hBj kp3.lt
            have q0 := kpj.cell 0
            have q1 := kpj.cell 1
            have q2 := kpj.cell 2
            simp only [List.getElem?_toArray, List.getElem?_cons_succ, List.getElem?_cons_zero] at q0 q1 q2
            by_cases hjn : j < rows.length
            · have hs := getD_some row0 hjn
              obtain ⟨hl1, -, hl3, -⟩ := HROW.out _ (List.mem_of_getElem? hs)
              replace hl1 := Lib.hid hl1
              have HKP : Hid (kpK rows k (j + 1) = (kpK rows k j && keptB (rows.getD j row0) k)) := rfl
              have hjj : (0 : Int) ≤ (j : Int) ∧ (j : Int) < (rows.length : Int) := by omega
              have HRJ := Lib.hid hs
              generalize rows.getD j row0 = r at hs hl1 hl3 HKP HRJ
              clear hs
              go_wp2
              go_loopw [17, 18] (fun u17 u18 wr => ∃ i : Nat, i ≤ m ∧ u18 = .int .i64 i ∧ u17 = .int .i64 (chK r.coef k i) ∧ Below X.heap.size X wr) (fun _ u18 _ => (m - intOf u18).toNat)
              case atStart => exact ⟨0, by omega, rfl, rfl, hBj⟩
              case round =>
                obtain ⟨i, hi, rfl, rfl, hBi2⟩ := hrel
                rename World => Wl
                have kpi := kp3.below hBi2 kp3.lt
                have q0 := kpi.cell 0
                have q1 := kpi.cell 1
                simp only [List.getElem?_toArray, List.getElem?_cons_succ, List.getElem?_cons_zero] at q0 q1
                obtain ⟨rb, ro, vc, e, -, -, -, -, d4, d5, hc⟩ := (HVR.out.below hBi2).get HRJ.out
                cases e
                by_cases him : i < m
                · obtain ⟨ca, cc, rfl, hc1, hc2⟩ := hc.len
                  unfold maxLen at hc2
                  obtain ⟨cb, co, rfl, hcell⟩ := hc.get (getD_some 0 (show i < r.coef.length by have := hl1.out; omega))
                  obtain ⟨c0, c1⟩ := coefOK_get hl3 i
                  obtain ⟨s0, s1⟩ := chK_bd (M := 1000000000) (by omega) (coefOK_get hl3) k i
                  have hi64 : (i : Int) < 64 := by omega
                  have hii : (0 : Int) ≤ (i : Int) ∧ (i : Int) < (r.coef.length : Int) := by have := hl1.out; omega
                  have HS : Hid (chK r.coef k (i + 1) = chK r.coef k i + if bitOn k i then r.coef.getD i 0 else 0) := rfl
                  have hz := shr_bit k i
                  generalize r.coef.getD i 0 = x at hcell c0 c1 HS
                  generalize chK r.coef k i = sm at s0 s1 HS ⊢
                  clear hc
                  cases hb : bitOn k i with
                  | true =>
                    rw [hb] at hz HS
                    obtain ⟨z1, z2, z3⟩ := hz
                    have HS' : Hid (chK r.coef k (i + 1) = sm + x) := HS.out
                    have hwx : IntKind.i64.wrap x = x := wrapS _ (by omega) (by omega)
                    have hws : IntKind.i64.wrap (sm + x) = sm + x := wrapS _ (by omega) (by omega)
                    clear hb HS
                    go_wp2_with fail
                    go_quiet (fail)
                    go_wp2
                    go_roundw
                    case rel => exact ⟨i + 1, by omega, by go_num, by rw [HS'.out], by exact below_drewN hBi2 _⟩
                    case measure => simp [intOf]; omega
                  | false =>
                    rw [hb] at hz HS
                    obtain ⟨z1, z2, z3⟩ := hz
                    have HS' : Hid (chK r.coef k (i + 1) = sm) := Lib.hid (by have := HS.out; simpa using this)
                    have hws : IntKind.i64.wrap sm = sm := wrapS _ (by omega) (by omega)
                    clear hb HS
                    go_wp2_with fail
                    go_quiet (fail)
                    go_wp2
                    go_roundw
                    case rel => exact ⟨i + 1, by omega, by go_num, by rw [HS'.out], by exact below_drewN hBi2 _⟩
                    case measure => simp [intOf]; omega
                · obtain rfl : i = m := by omega
                  have hkb : keptB r k = decide (chK r.coef k i ≤ r.most) := by unfold keptB ch; rw [hl1.out]
                  rw [hkb] at HKP
                  clear hkb hc
                  generalize chK r.coef k i = sm at HKP ⊢
                  cases hkp : kpK rows k j with
                  | true =>
                    rw [hkp, Bool.true_and] at HKP
                    by_cases hle : sm ≤ r.most
                    · rw [decide_eq_true hle] at HKP
                      go_wp2
                      go_roundw
                      case rel => exact ⟨j + 1, by omega, by go_num, by rw [HKP.out], hBi2⟩
                      case measure => simp [intOf]; omega
                    · rw [decide_eq_false hle] at HKP
                      go_wp2
                      go_roundw
                      case rel => exact ⟨j + 1, by omega, by go_num, by rw [HKP.out], hBi2⟩
                      case measure => simp [intOf]; omega
                  | false =>
                    rw [hkp, Bool.false_and] at HKP
                    go_wp2
                    go_roundw
                    case rel => exact ⟨j + 1, by omega, by go_num, by rw [HKP.out], hBi2⟩
                    case measure => simp [intOf]; omega
            · obtain rfl : j = rows.length := by omega
              have hkall := Lib.hid (kpK_all rows k)
              have kpj2 := kp3.below hBj kp3.lt
              have hkp := keeps_all (.agg #[.int .i64 m, .slice ra rows.length rc, .slice ga gn.length gc]) ⟨m, rows, gn⟩ k Wj ⟨_, _, rfl, HVR.out.below hBj, HVG.out.below hBj⟩
              rw [(HK.out k hkl).1] at hkp
              have hgp := Lib.hid (fun W (hW : Below Wj.heap.size Wj W) => gain_all (.agg #[.int .i64 m, .slice ra rows.length rc, .slice ga gn.length gc]) ⟨m, rows, gn⟩ k W ⟨_, _, rfl, (HVR.out.below hBj).below hW, (HVG.out.below hBj).below hW⟩)
              rw [(HK.out k hkl).2] at hgp
              have ksj := ks3.below hBj ks3.lt
              rw [hkall.out]
              cases hb : keepsB rows k with
              | false =>
                rw [hb] at hkp
                have hyk : ys ≠ k := fun e => by have := (chL_mem.1 HBEST.out.1).2; rw [e, hb] at this; cases this
                clear hb
                go_wp2_with fail
                refine hkp.mono ?_
                rintro e W5 ⟨rfl, hB5⟩
                have kp5 := kpj2.below hB5 kpj2.lt
                have q0 := kp5.cell 0
                have q1 := kp5.cell 1
                have q2 := kp5.cell 2
                simp only [List.getElem?_toArray, List.getElem?_cons_succ, List.getElem?_cons_zero] at q0 q1 q2
                go_wp2_with fail
                refine (hgp.out _ hB5).mono ?_
                rintro e W6 ⟨rfl, hB6⟩
                go_wp2
                go_roundw
                case rel => exact ⟨k + 1, by omega, by go_num, by congr 1; exact decide_eq_decide.2 (by omega), hBj.trans ((hB5.trans (hB6.mono hB5.size)).mono hBj.size)⟩
                case measure => simp [intOf]; omega
              | true =>
                have hkm := HBEST.out
                obtain ⟨m1, m2, m3, m4⟩ := hkm
                have hin := hmem.out k hkl hb
                have t1 := m3 k hin
                have t2 := m4 k hin
                have e1 : ch gn k = chK gn k m := by unfold ch; rw [HGL.out]
                have e2 : ch gn ys = chK gn ys m := by unfold ch; rw [HGL.out]
                simp only at m2 t1 t2
                rw [e1] at t1 t2
                rw [e2] at m2
                rw [hb] at hkp
                clear hb hin e1 e2 m1 m3 m4
                have hsame : k = ys → chK gn k m = yg := fun e => by rw [e]; exact m2.symm
                clear m2
                generalize chK gn k m = sm at *
                go_wp2_with fail
                refine hkp.mono ?_
                rintro e W5 ⟨rfl, hB5⟩
                have kp5 := kpj2.below hB5 kpj2.lt
                have q0 := kp5.cell 0
                have q1 := kp5.cell 1
                have q2 := kp5.cell 2
                simp only [List.getElem?_toArray, List.getElem?_cons_succ, List.getElem?_cons_zero] at q0 q1 q2
                go_wp2_with fail
                refine (hgp.out _ hB5).mono ?_
                rintro e W6 ⟨rfl, hB6⟩
                have hB56 := hB5.trans (hB6.mono hB5.size)
                have ks6 := ksj.below hB56 ksj.lt
                have b0 := ks6.cell 0
                have b1 := ks6.cell 1
                have b2 := ks6.cell 2
                simp only [List.getElem?_toArray, List.getElem?_cons_succ, List.getElem?_cons_zero] at b0 b1 b2
                clear q0 q1 q2 hkp hgp
                have hBe := Lib.hid (hBj.trans (hB56.mono hBj.size))
                rcases Nat.lt_trichotomy ys k with h1 | h1 | h1
                · rw [decide_eq_true h1]
                  have hx1 : ((k : Int) == (ys : Int)) = false := beq_eq_false_iff_ne.2 (by omega)
                  have hx2 : ¬ ((k : Int) < (ys : Int)) := by omega
                  have hx3 : ¬ (yg < sm) := by omega
                  by_cases h2 : sm = yg
                  · have hx4 : (sm == yg) = true := by simpa using h2
                    go_wp2
                    go_roundw
                    case rel => exact ⟨k + 1, by omega, by go_num, by rw [decide_eq_true (by omega)], hBe.out⟩
                    case measure => simp [intOf]; omega
                  · have hx4 : (sm == yg) = false := beq_eq_false_iff_ne.2 h2
                    go_wp2
                    go_roundw
                    case rel => exact ⟨k + 1, by omega, by go_num, by rw [decide_eq_true (by omega)], hBe.out⟩
                    case measure => simp [intOf]; omega
                · subst h1
                  obtain rfl := hsame rfl
                  rw [decide_eq_false (Nat.lt_irrefl _)]
                  go_wp2
                  go_roundw
                  case rel => exact ⟨ys + 1, by omega, by go_num, by rw [decide_eq_true (by omega)], hBe.out⟩
                  case measure => simp [intOf]; omega
                · rw [decide_eq_false (by omega)]
                  have hx1 : ((k : Int) == (ys : Int)) = false := beq_eq_false_iff_ne.2 (by omega)
                  have h2 : ¬ sm = yg := fun e => by have := t2 e; omega
                  have hx4 : (sm == yg) = false := beq_eq_false_iff_ne.2 h2
                  have hx3 : ¬ (yg < sm) := by omega
                  go_wp2
                  go_roundw
                  case rel => exact ⟨k + 1, by omega, by go_num, by rw [decide_eq_false (by omega)], hBe.out⟩
                  case measure => simp [intOf]; omega
    · obtain rfl : k = 2 ^ m := by omega
      have hki : ¬ (((2 ^ m : Nat) : Int) < (2 : Int) ^ m) := by omega
      have ksj := ks3.below hBk ks3.lt
      have b0 := ksj.cell 0
      simp only [List.getElem?_toArray, List.getElem?_cons_zero] at b0
      rw [decide_eq_true hys]
      go_wp2
      go_ret
      exact ⟨rfl, hBw3.trans (hBk.mono hBw3.size)⟩

theorem best_true (vars : Int) (vx : Value) (x : List X3) (gain : List Int) (w : World) (hv : InR vars) (hx : XsAt w vx x) (hxr : ∀ y ∈ x, XR y) (hg : gain.length = 8) (hgr : ∀ y ∈ gain, InR y) :
    Calls Try.prog 4 #[.int .i64 vars, vx, .agg (gain.map (Value.int .i64)).toArray] w fun e w' => e = .returned (.bool true) ∧ Below w.heap.size w w' := by
  obtain ⟨m, hG⟩ := goodP vars x gain
  have hmade := Lib.hid (fun W (hW : Below w.heap.size w W) => made_own vars vx x gain W hv (hx.below hW) hxr hg hgr)
  generalize madeP vars x gain = p at hG hmade
  obtain ⟨pv, rows, gn⟩ := p
  obtain rfl : pv = m := hG.vm
  obtain ⟨g0, g1, g2, g3, g4, g5, g6, g7, hge⟩ := list8 hg
  have harg : (gain.map (Value.int .i64)).toArray = #[.int .i64 g0, .int .i64 g1, .int .i64 g2, .int .i64 g3, .int .i64 g4, .int .i64 g5, .int .i64 g6, .int .i64 g7] := by rw [hge]; rfl
  rw [harg] at hmade ⊢
  cases ho : bestS ⟨(m : Int), rows, gn⟩ with
  | none => exact best_none vars vx g0 g1 g2 g3 g4 g5 g6 g7 m rows gn w hG ho hmade
  | some y => exact best_some vars vx g0 g1 g2 g3 g4 g5 g6 g7 m rows gn w hG y.1 y.2 ho hmade
end Go.Proofs.Ytblmpmapcdpaiaa

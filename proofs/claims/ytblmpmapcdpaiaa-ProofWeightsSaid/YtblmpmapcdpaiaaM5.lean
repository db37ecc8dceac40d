/- Texts M4, R7 in one. -/
import Derived.Test.YtblmpmapcdpaiaaR2
section
/- Texts R3, R4, R5, R6 in one. -/
section
/- nadirref23: Gain, Sum. -/
namespace Go.Proofs.Ytblmpmapcdpaiaa
open Go.RowKit Lib

set_option maxRecDepth 100000 in
set_option maxHeartbeats 2000000 in
theorem gain_ref (v : Value) (p : ProgD) (set : Int) (w : World) (hv : ProgV w v p) :
    Calls Try.prog 31 #[v, .int .i64 set] w fun e w' => e = .returned (.int .i64 (gainV p set)) ∧ Below w.heap.size w w' := by
  obtain ⟨vr, vg, rfl, hvr, hvg⟩ := hv
  have hB0 : Below w.heap.size w (w.alloc (.cells #[.int .i64 p.vars, vr, vg] 29)) := (Below.refl _ _).alloc (Nat.le_refl _) _
  have hx := valid_ref _ p _ ⟨_, _, rfl, hvr.below hB0, hvg.below hB0⟩
  have kp := Blk.new w #[.int .i64 p.vars, vr, vg] 29
  have HVG := Lib.hid (hvg.below hB0)
  obtain ⟨ra, rc, rfl, -, -⟩ := (show SlicesLen vr p.rows.length from hvr.len)
  obtain ⟨ga, gc, rfl, -, -⟩ := hvg.len
  clear hvr hvg
  obtain ⟨out, hout⟩ : ∃ b, Hid (b = gainV p set) := ⟨_, Lib.hid rfl⟩
  rw [← hout.out]
  have hbad := Lib.hid (fun (h : choiceB p set = false) => (show out = 0 from by rw [hout.out]; unfold gainV; rw [h]; rfl))
  cases hval : validB p with
  | false =>
    rw [hval] at hx
    have := hbad.out (by unfold choiceB; rw [hval]; rfl)
    subst this
    clear hval
    go_enter Try.func31, Try.ntmps31
    go_wp2_with fail
    refine hx.mono ?_
    rintro e w1 ⟨rfl, hB⟩
    go_wp2
    go_ret
    exact ⟨rfl, hB0.trans (hB.mono hB0.size)⟩
  | true =>
    rw [hval] at hx
    obtain ⟨v1, v2, -, -, v5, v6⟩ := validB_true hval
    obtain ⟨pv, rows, gn⟩ := p
    simp only at v1 v2 v5 v6 hx kp HVG hB0 ⊢
    obtain ⟨m, rfl⟩ := Int.eq_ofNat_of_zero_le v1
    have hpw := pow12 (n := m) (by omega)
    have hpn : ((2 ^ m : Nat) : Int) = (2 : Int) ^ m := by simp
    have HV6 := Lib.hid v6
    have hgl : Hid (gn.length ≤ 60) := Lib.hid (by omega)
    have hm12 : m ≤ 12 := by omega
    clear v5 v6
    by_cases h1 : set < 0
    · have := hbad.out (by unfold choiceB inB; simp; omega)
      subst this
      clear hval
      go_enter Try.func31, Try.ntmps31
      go_wp2_with fail
      refine hx.mono ?_
      rintro e w1 ⟨rfl, hB⟩
      go_wp2
      go_ret
      exact ⟨rfl, hB0.trans (hB.mono hB0.size)⟩
    · obtain ⟨s, rfl⟩ := Int.eq_ofNat_of_zero_le (by omega : 0 ≤ set)
      by_cases h2 : (2 : Int) ^ m ≤ (s : Int)
      · have := hbad.out (by unfold choiceB inB; rw [Int.toNat_natCast]; simp; omega)
        subst this
        clear hval
        go_enter Try.func31, Try.ntmps31
        go_wp2_with fail
        refine hx.mono ?_
        rintro e w1 ⟨rfl, hB⟩
        have kp1 := kp.below hB kp.lt
        have a0 := kp1.cell 0
        simp only [List.getElem?_toArray, List.getElem?_cons_zero] at a0
        go_wp2
        go_ret
        exact ⟨rfl, hB0.trans (hB.mono hB0.size)⟩
      · have hc : choiceB ⟨(m : Int), rows, gn⟩ s = true := choiceB_ok hval (by rw [Int.toNat_natCast]; omega)
        have ho : Hid (out = ch gn s) := Lib.hid (by rw [hout.out]; unfold gainV; rw [if_pos hc, Int.toNat_natCast])
        clear hval hc
        go_enter Try.func31, Try.ntmps31
        go_wp2_with fail
        refine hx.mono ?_
        rintro e w1 ⟨rfl, hB⟩
        have hB1 := hB0.trans (hB.mono hB0.size)
        have kp1 := kp.below hB kp.lt
        have a0 := kp1.cell 0
        have a2 := kp1.cell 2
        simp only [List.getElem?_toArray, List.getElem?_cons_succ, List.getElem?_cons_zero] at a0 a2
        have ht := total_any _ gn s w1 (HVG.out.below hB) hgl.out HV6.out
        clear hx
        go_wp2_with fail
        refine ht.mono ?_
        rintro e w2 ⟨rfl, hB2⟩
        go_wp2
        go_ret
        exact ⟨by rw [ho.out]; rfl, hB1.trans (hB2.mono hB1.size)⟩

set_option maxRecDepth 100000 in
set_option maxHeartbeats 2000000 in
theorem sum_ref (v : Value) (r : RowD) (set : Int) (w : World) (hv : RowV w v r) :
    Calls Try.prog 35 #[v, .int .i64 set] w fun e w' => e = .returned (.int .i64 (sumV r set)) ∧ Below w.heap.size w w' := by
  obtain ⟨vc, rfl, hvc⟩ := hv
  have hB0 : Below w.heap.size w (w.alloc (.cells #[.int .i64 r.kind, .int .i64 r.a, .int .i64 r.b, .int .i64 r.at_, vc, .int .i64 r.most] 26)) := (Below.refl _ _).alloc (Nat.le_refl _) _
  have hx := row_all _ r r.coef.length _ ⟨_, rfl, hvc.below hB0⟩
  have kr := Blk.new w #[.int .i64 r.kind, .int .i64 r.a, .int .i64 r.b, .int .i64 r.at_, vc, .int .i64 r.most] 26
  have HVC := Lib.hid (hvc.below hB0)
  obtain ⟨ca, cc, rfl, -, -⟩ := hvc.len
  clear hvc
  obtain ⟨out, hout⟩ : ∃ b, Hid (b = sumV r set) := ⟨_, Lib.hid rfl⟩
  rw [← hout.out]
  have hbad := Lib.hid (fun (h : ¬ (r.coef.length ≤ 12 ∧ sumB r set = true)) => (show out = 0 from by rw [hout.out]; unfold sumV; rw [if_neg h]))
  by_cases h12 : 12 < (r.coef.length : Int)
  · have := hbad.out (by omega)
    subst this
    go_enter Try.func35, Try.ntmps35
    go_wp2
    go_ret
    exact ⟨rfl, hB0⟩
  · cases hr : rightB r r.coef.length with
    | false =>
      rw [hr] at hx
      have := hbad.out (by unfold sumB; rw [hr]; simp)
      subst this
      clear hr
      go_enter Try.func35, Try.ntmps35
      go_wp2_with fail
      refine hx.mono ?_
      rintro e w1 ⟨rfl, hB⟩
      go_wp2
      go_ret
      exact ⟨rfl, hB0.trans (hB.mono hB0.size)⟩
    | true =>
      rw [hr] at hx
      obtain ⟨-, hcf, -⟩ := rightB_true hr
      have HCF := Lib.hid hcf
      have hpw := pow12 (n := r.coef.length) (by omega)
      have hpn : ((2 ^ r.coef.length : Nat) : Int) = (2 : Int) ^ r.coef.length := by simp
      clear hcf
      by_cases h1 : set < 0
      · have := hbad.out (by unfold sumB inB; simp; omega)
        subst this
        clear hr
        go_enter Try.func35, Try.ntmps35
        go_wp2_with fail
        refine hx.mono ?_
        rintro e w1 ⟨rfl, hB⟩
        go_wp2
        go_ret
        exact ⟨rfl, hB0.trans (hB.mono hB0.size)⟩
      · obtain ⟨s, rfl⟩ := Int.eq_ofNat_of_zero_le (by omega : 0 ≤ set)
        by_cases h2 : (2 : Int) ^ r.coef.length ≤ (s : Int)
        · have := hbad.out (by unfold sumB inB; simp; omega)
          subst this
          clear hr
          go_enter Try.func35, Try.ntmps35
          go_wp2_with fail
          refine hx.mono ?_
          rintro e w1 ⟨rfl, hB⟩
          have kp1 := kr.below hB kr.lt
          have a4 := kp1.cell 4
          simp only [List.getElem?_toArray, List.getElem?_cons_succ, List.getElem?_cons_zero] at a4
          go_wp2
          go_ret
          exact ⟨rfl, hB0.trans (hB.mono hB0.size)⟩
        · have ho : Hid (out = ch r.coef s) := Lib.hid (by
            rw [hout.out]; unfold sumV
            rw [if_pos ⟨by omega, by unfold sumB inB; rw [hr]; simp; omega⟩, Int.toNat_natCast])
          clear hr
          go_enter Try.func35, Try.ntmps35
          go_wp2_with fail
          refine hx.mono ?_
          rintro e w1 ⟨rfl, hB⟩
          have hB1 := hB0.trans (hB.mono hB0.size)
          have kp1 := kr.below hB kr.lt
          have a4 := kp1.cell 4
          simp only [List.getElem?_toArray, List.getElem?_cons_succ, List.getElem?_cons_zero] at a4
          have ht := total_any _ r.coef s w1 (HVC.out.below hB) (by omega) HCF.out
          clear hx
          go_wp2_with fail
          refine ht.mono ?_
          rintro e w2 ⟨rfl, hB2⟩
          go_wp2
          go_ret
          exact ⟨by rw [ho.out]; rfl, hB1.trans (hB2.mono hB1.size)⟩
end Go.Proofs.Ytblmpmapcdpaiaa
end
section
/- nadirref23: keeps, Broken. -/
namespace Go.Proofs.Ytblmpmapcdpaiaa
open Go.RowKit Lib

theorem kpK_false {rows : List RowD} {s k : Nat} (hk : k < rows.length) (h : keptB (rows.getD k row0) s = false) : keepsB rows s = false := by
  unfold keepsB
  rw [List.all_eq_false]
  exact ⟨_, List.mem_of_getElem? (getD_some row0 hk), by rw [h]; decide⟩
set_option maxRecDepth 100000 in
set_option maxHeartbeats 4000000 in
theorem keeps_ref (v : Value) (p : ProgD) (s : Nat) (w : World) (hv : ProgV w v p) (hr : ∀ r ∈ p.rows, r.coef.length ≤ 60 ∧ coefOK r.coef = true) (hn : p.rows.length ≤ 1000) :
    Calls Try.prog 67 #[v, .int .i64 s] w fun e w' => e = .returned (.bool (keepsB p.rows s)) ∧ Below w.heap.size w w' := by
  obtain ⟨vr, vg, rfl, hvr, hvg⟩ := hv
  have hB0 : Below w.heap.size w (w.alloc (.cells #[.int .i64 p.vars, vr, vg] 29)) := (Below.refl _ _).alloc (Nat.le_refl _) _
  have kp := Blk.new w #[.int .i64 p.vars, vr, vg] 29
  have HVR := Lib.hid (hvr.below hB0)
  obtain ⟨ra, rc, rfl, hr1, hr2⟩ := (show SlicesLen vr p.rows.length from hvr.len)
  obtain ⟨ga, gc, rfl, -, -⟩ := hvg.len
  unfold maxLen at hr2
  have HROW := Lib.hid hr
  clear hvr hvg hr
  obtain ⟨out, hout⟩ : ∃ b, Hid (b = keepsB p.rows s) := ⟨_, Lib.hid rfl⟩
  rw [← hout.out]
  go_enter Try.func67, Try.ntmps67
  go_wp2
  generalize hX : w.alloc (.cells #[.int .i64 p.vars, .slice ra p.rows.length rc, .slice ga p.gain.length gc] 29) = X at HVR hB0 kp ⊢
  go_loopw [5] (fun u5 wr => ∃ k : Nat, k ≤ p.rows.length ∧ u5 = .int .i64 k ∧ Hid (kpK p.rows s k = true) ∧ Below X.heap.size X wr) (fun u5 _ => (p.rows.length - intOf u5).toNat)
  case atStart => exact ⟨0, by omega, rfl, Lib.hid rfl, Below.refl _ _⟩
  case round =>
    obtain ⟨k, hk, rfl, hok, hBk⟩ := hrel
    have kpk := kp.below hBk kp.lt
    have a1 := kpk.cell 1
    simp only [List.getElem?_toArray, List.getElem?_cons_succ, List.getElem?_cons_zero] at a1
    have lk := kpk.lt
    by_cases hkl : k < p.rows.length
    · have hs := getD_some row0 hkl
      have hst : Hid (kpK p.rows s (k + 1) = (kpK p.rows s k && keptB (p.rows.getD k row0) s)) := rfl
      have hbad := Lib.hid (fun h => hout.out.trans (kpK_false hkl (s := s) h))
      obtain ⟨hq1, hq2⟩ := HROW.out _ (List.mem_of_getElem? hs)
      obtain ⟨rb, ro, vc, rfl, -, -, -, -, c4, c5, hc⟩ := (HVR.out.below hBk).get hs
      generalize p.rows.getD k row0 = r at hs c4 c5 hc hst hbad hq1 hq2
      obtain ⟨ca, cc, rfl, -, -⟩ := hc.len
      have htot := Lib.hid (fun W (hW : Below wr.heap.size wr W) => total_any (.slice ca r.coef.length cc) r.coef s W (hc.below hW) hq1 hq2)
      have hkb : Hid (keptB r s = decide (ch r.coef s ≤ r.most)) := rfl
      have lr := World.block_lt_of_cell? _ _ c4
      simp only at lr
      have hkk : (0 : Int) ≤ (k : Int) ∧ (k : Int) < (p.rows.length : Int) := by omega
      clear hc hs hq1 hq2
      generalize ch r.coef s = sm at htot hkb
      by_cases hle : sm ≤ r.most
      · have HOK : Hid (kpK p.rows s (k + 1) = true) := Lib.hid (by rw [hst.out, hok.out, hkb.out, decide_eq_true hle]; rfl)
        have hle2 : ¬ (r.most < sm) := by omega
        clear hst hkb
        go_wp2_with fail
        apply wp_below (w0 := wr)
        · go_region_held3 (fun w' => Below wr.heap.size wr w' ∧ w'.cell? ⟨w.heap.size, 1, none⟩ = some (.slice (some ⟨rb, ro, none⟩) p.rows.length rc) ∧ w'.cell? ⟨rb, ro + k * 6 + 4, none⟩ = some (.slice ca r.coef.length cc) ∧ w'.cell? ⟨rb, ro + k * 6 + 5, none⟩ = some (.int .i64 r.most))
            (first | exact ⟨(Below.refl _ _).drew, a1, c4, c5⟩ | (have hh := ‹Below wr.heap.size wr _ ∧ _›; exact ⟨hh.1.trans (hB6.mono hh.1.size), (hB6.cell (Nat.lt_of_lt_of_le lk hh.1.size)).trans hh.2.1, (hB6.cell (Nat.lt_of_lt_of_le lr hh.1.size)).trans hh.2.2.1, (hB6.cell (Nat.lt_of_lt_of_le lr hh.1.size)).trans hh.2.2.2⟩))
            (first | (go_at_call 64; refine (htot.out _ (‹Below wr.heap.size wr _ ∧ _›).1).mono ?_; rintro e w6 ⟨rfl, hB6⟩))
          all_goals exact ⟨rfl, rfl, (‹Below wr.heap.size wr _ ∧ _›).1⟩
        intro w6 hB6
        go_wp2
        go_roundw
        case rel => exact ⟨k + 1, by omega, by go_num, HOK, hBk.trans (hB6.mono hBk.size)⟩
        case measure => simp [intOf]; omega
      · have hf : out = false := hbad.out (by rw [hkb.out, decide_eq_false hle])
        subst hf
        have hle2 : r.most < sm := by omega
        clear hst hkb
        go_wp2_with fail
        apply wp_below (w0 := wr)
        · go_region_held3 (fun w' => Below wr.heap.size wr w' ∧ w'.cell? ⟨w.heap.size, 1, none⟩ = some (.slice (some ⟨rb, ro, none⟩) p.rows.length rc) ∧ w'.cell? ⟨rb, ro + k * 6 + 4, none⟩ = some (.slice ca r.coef.length cc) ∧ w'.cell? ⟨rb, ro + k * 6 + 5, none⟩ = some (.int .i64 r.most))
            (first | exact ⟨(Below.refl _ _).drew, a1, c4, c5⟩ | (have hh := ‹Below wr.heap.size wr _ ∧ _›; exact ⟨hh.1.trans (hB6.mono hh.1.size), (hB6.cell (Nat.lt_of_lt_of_le lk hh.1.size)).trans hh.2.1, (hB6.cell (Nat.lt_of_lt_of_le lr hh.1.size)).trans hh.2.2.1, (hB6.cell (Nat.lt_of_lt_of_le lr hh.1.size)).trans hh.2.2.2⟩))
            (first | (go_at_call 64; refine (htot.out _ (‹Below wr.heap.size wr _ ∧ _›).1).mono ?_; rintro e w6 ⟨rfl, hB6⟩))
          all_goals exact ⟨rfl, rfl, (‹Below wr.heap.size wr _ ∧ _›).1⟩
        intro w6 hB6
        go_wp2
        go_ret
        exact ⟨rfl, hB0.trans ((hBk.trans (hB6.mono hBk.size)).mono hB0.size)⟩
    · obtain rfl : k = p.rows.length := by omega
      have ht : out = true := by rw [hout.out, ← kpK_all]; exact hok.out
      subst ht
      go_wp2
      go_ret
      exact ⟨rfl, hB0.trans (hBk.mono hB0.size)⟩
end Go.Proofs.Ytblmpmapcdpaiaa
end
section
/- nadirref23: Broken. -/
namespace Go.Proofs.Ytblmpmapcdpaiaa
open Go.RowKit Lib

set_option maxRecDepth 100000 in
set_option maxHeartbeats 4000000 in
theorem broken_ref (v : Value) (p : ProgD) (set : Int) (w : World) (hv : ProgV w v p) :
    Calls Try.prog 33 #[v, .int .i64 set] w fun e w' => ∃ v', e = .returned v' ∧ IntsAt w' v' (brokenV p set) ∧ Below w.heap.size w w' := by
  obtain ⟨vr, vg, rfl, hvr, hvg⟩ := hv
  have hB0 : Below w.heap.size w (w.alloc (.cells #[.int .i64 p.vars, vr, vg] 29)) := (Below.refl _ _).alloc (Nat.le_refl _) _
  have hx := valid_ref _ p _ ⟨_, _, rfl, hvr.below hB0, hvg.below hB0⟩
  have kp := Blk.new w #[.int .i64 p.vars, vr, vg] 29
  have HVR := Lib.hid (hvr.below hB0)
  obtain ⟨ra, rc, rfl, hr1, hr2⟩ := (show SlicesLen vr p.rows.length from hvr.len)
  obtain ⟨ga, gc, rfl, -, -⟩ := hvg.len
  unfold maxLen at hr2
  clear hvr hvg
  obtain ⟨out, hout⟩ : ∃ b, Hid (b = brokenV p set) := ⟨_, Lib.hid rfl⟩
  rw [← hout.out]
  have hbad := Lib.hid (fun (h : choiceB p set = false) => (show out = [] from by rw [hout.out]; unfold brokenV; rw [h]; rfl))
  have hnil : ∀ W : World, IntsAt W (.slice none 0 0) [] := fun W => ⟨none, 0, rfl, by simp, by decide, fun h => by simp at h⟩
  cases hval : validB p with
  | false =>
    rw [hval] at hx
    have := hbad.out (by unfold choiceB; rw [hval]; rfl)
    subst this
    clear hval
    go_enter Try.func33, Try.ntmps33
    go_wp2_with fail
    refine hx.mono ?_
    rintro e w1 ⟨rfl, hB⟩
    go_wp2
    go_ret
    exact ⟨_, rfl, hnil _, hB0.trans (hB.mono hB0.size)⟩
  | true =>
    rw [hval] at hx
    obtain ⟨v1, v2, v3, -, v5, v6⟩ := validB_true hval
    have HROW := Lib.hid (fun r (hr : r ∈ p.rows) => by have := validB_row hval hr; exact (⟨by omega, this.2.2.1⟩ : r.coef.length ≤ 60 ∧ coefOK r.coef = true))
    obtain ⟨pv, rows, gn⟩ := p
    simp only at v1 v2 v3 v5 v6 hx kp HVR hB0 HROW hr1 ⊢
    obtain ⟨m, rfl⟩ := Int.eq_ofNat_of_zero_le v1
    have hpw := pow12 (n := m) (by omega)
    have hpn : ((2 ^ m : Nat) : Int) = (2 : Int) ^ m := by simp
    have hm12 : m ≤ 12 := by omega
    clear v5 v6
    by_cases h1 : set < 0
    · have := hbad.out (by unfold choiceB inB; simp; omega)
      subst this
      clear hval
      go_enter Try.func33, Try.ntmps33
      go_wp2_with fail
      refine hx.mono ?_
      rintro e w1 ⟨rfl, hB⟩
      go_wp2
      go_ret
      exact ⟨_, rfl, hnil _, hB0.trans (hB.mono hB0.size)⟩
    · obtain ⟨s, rfl⟩ := Int.eq_ofNat_of_zero_le (by omega : 0 ≤ set)
      by_cases h2 : (2 : Int) ^ m ≤ (s : Int)
      · have := hbad.out (by unfold choiceB inB; rw [Int.toNat_natCast]; simp; omega)
        subst this
        clear hval
        go_enter Try.func33, Try.ntmps33
        go_wp2_with fail
        refine hx.mono ?_
        rintro e w1 ⟨rfl, hB⟩
        have kp1 := kp.below hB kp.lt
        have a0 := kp1.cell 0
        simp only [List.getElem?_toArray, List.getElem?_cons_zero] at a0
        go_wp2
        go_ret
        exact ⟨_, rfl, hnil _, hB0.trans (hB.mono hB0.size)⟩
      · have hc : choiceB ⟨(m : Int), rows, gn⟩ s = true := choiceB_ok hval (by rw [Int.toNat_natCast]; omega)
        have ho : Hid (out = brK rows s rows.length) := Lib.hid (by rw [hout.out]; unfold brokenV; rw [if_pos hc, Int.toNat_natCast])
        clear hval hc
        go_enter Try.func33, Try.ntmps33
        go_wp2_with fail
        refine hx.mono ?_
        rintro e w1 ⟨rfl, hB⟩
        have hB1 := hB0.trans (hB.mono hB0.size)
        have kp1 := kp.below hB kp.lt
        have a0 := kp1.cell 0
        simp only [List.getElem?_toArray, List.getElem?_cons_zero] at a0
        have hz1 : w.heap.size + 1 ≤ w1.heap.size := by have := hB.size; simp at this; omega
        have HV1 := Lib.hid (HVR.out.below hB)
        clear hx
        go_wp2
        go_loopw [5, 6] (fun u5 u6 wr => ∃ k : Nat, k ≤ rows.length ∧ u6 = .int .i64 k ∧ wr.ownsRow w1.heap.size 3 1 u5 (brK rows s k).length ((brK rows s k).map (Value.int .i64)) ∧ Below w1.heap.size w1 wr) (fun _ u6 _ => (rows.length - intOf u6).toNat)
        case atStart => exact ⟨0, by omega, rfl, World.ownsRow_nil _ _ _ _, Below.refl _ _⟩
        case round =>
          obtain ⟨k, hk, rfl, hown, hBk⟩ := hrel
          have kpk := kp1.below hBk kp1.lt
          have a1 := kpk.cell 1
          simp only [List.getElem?_toArray, List.getElem?_cons_succ, List.getElem?_cons_zero] at a1
          have lk := kpk.lt
          have hbl := brK_len rows s k
          by_cases hkl : k < rows.length
          · have hs := getD_some row0 hkl
            have hst : Hid (brK rows s (k + 1) = brK rows s k ++ if keptB (rows.getD k row0) s then [] else [(k : Int)]) := rfl
            obtain ⟨hq1, hq2⟩ := HROW.out _ (List.mem_of_getElem? hs)
            obtain ⟨rb, ro, vc, rfl, -, -, -, -, c4, c5, hc⟩ := (HV1.out.below hBk).get hs
            generalize rows.getD k row0 = r at hs c4 c5 hc hst hq1 hq2
            obtain ⟨ca, cc, rfl, -, -⟩ := hc.len
            have htot := Lib.hid (fun W (hW : Below wr.heap.size wr W) => total_any (.slice ca r.coef.length cc) r.coef s W (hc.below hW) hq1 hq2)
            have hkb : Hid (keptB r s = decide (ch r.coef s ≤ r.most)) := rfl
            have lr := World.block_lt_of_cell? _ _ c4
            simp only at lr
            have hkk : (0 : Int) ≤ (k : Int) ∧ (k : Int) < (rows.length : Int) := by omega
            clear hc hs hq1 hq2
            generalize ch r.coef s = sm at htot hkb
            by_cases hle : sm ≤ r.most
            · have HN : Hid (brK rows s (k + 1) = brK rows s k) := Lib.hid (by rw [hst.out, hkb.out, decide_eq_true hle]; simp)
              have hle2 : ¬ (r.most < sm) := by omega
              clear hst hkb
              go_wp2_with fail
              apply wp_below (w0 := wr)
              · go_region_held3 (fun w' => Below wr.heap.size wr w' ∧ w'.cell? ⟨w.heap.size, 1, none⟩ = some (.slice (some ⟨rb, ro, none⟩) rows.length rc) ∧ w'.cell? ⟨rb, ro + k * 6 + 4, none⟩ = some (.slice ca r.coef.length cc) ∧ w'.cell? ⟨rb, ro + k * 6 + 5, none⟩ = some (.int .i64 r.most))
                  (first | exact ⟨(Below.refl _ _).drew, a1, c4, c5⟩ | (have hh := ‹Below wr.heap.size wr _ ∧ _›; exact ⟨hh.1.trans (hB6.mono hh.1.size), (hB6.cell (Nat.lt_of_lt_of_le lk hh.1.size)).trans hh.2.1, (hB6.cell (Nat.lt_of_lt_of_le lr hh.1.size)).trans hh.2.2.1, (hB6.cell (Nat.lt_of_lt_of_le lr hh.1.size)).trans hh.2.2.2⟩))
                  (first | (go_at_call 64; refine (htot.out _ (‹Below wr.heap.size wr _ ∧ _›).1).mono ?_; rintro e w6 ⟨rfl, hB6⟩))
                all_goals exact ⟨rfl, rfl, (‹Below wr.heap.size wr _ ∧ _›).1⟩
              intro w6 hB6
              go_wp2
              go_roundw
              case rel => exact ⟨k + 1, by omega, by go_num, by rw [HN.out]; exact owned_below hown hB6, hBk.trans (hB6.mono hBk.size)⟩
              case measure => simp [intOf]; omega
            · have HN : Hid (brK rows s (k + 1) = brK rows s k ++ [(k : Int)]) := Lib.hid (by rw [hst.out, hkb.out, decide_eq_false hle]; simp)
              have hle2 : r.most < sm := by omega
              clear hst hkb
              go_wp2_with fail
              apply wp_below (w0 := wr)
              · go_region_held3 (fun w' => Below wr.heap.size wr w' ∧ w'.cell? ⟨w.heap.size, 1, none⟩ = some (.slice (some ⟨rb, ro, none⟩) rows.length rc) ∧ w'.cell? ⟨rb, ro + k * 6 + 4, none⟩ = some (.slice ca r.coef.length cc) ∧ w'.cell? ⟨rb, ro + k * 6 + 5, none⟩ = some (.int .i64 r.most))
                  (first | exact ⟨(Below.refl _ _).drew, a1, c4, c5⟩ | (have hh := ‹Below wr.heap.size wr _ ∧ _›; exact ⟨hh.1.trans (hB6.mono hh.1.size), (hB6.cell (Nat.lt_of_lt_of_le lk hh.1.size)).trans hh.2.1, (hB6.cell (Nat.lt_of_lt_of_le lr hh.1.size)).trans hh.2.2.1, (hB6.cell (Nat.lt_of_lt_of_le lr hh.1.size)).trans hh.2.2.2⟩))
                  (first | (go_at_call 64; refine (htot.out _ (‹Below wr.heap.size wr _ ∧ _›).1).mono ?_; rintro e w6 ⟨rfl, hB6⟩))
                all_goals exact ⟨rfl, rfl, (‹Below wr.heap.size wr _ ∧ _›).1⟩
              intro w6 hB6
              have hown6 := owned_below hown hB6
              have hbs : w1.heap.size ≤ w6.heap.size := Nat.le_trans hBk.size hB6.size
              go_wp2_with (at_builtin; refine wpList_push E24 rfl _ _ rfl w1.heap.size hown6 rfl rfl rfl (by unfold maxLen; omega) (by omega) hbs ?_; intro v' w7 hown' hgrow hb1)
              go_roundw
              case rel => exact ⟨k + 1, by omega, by go_num, by rw [HN.out]; simpa using hown', (hBk.trans (hB6.mono hBk.size)).trans hb1⟩
              case measure => simp [intOf]; omega
          · obtain rfl : k = rows.length := by omega
            go_wp2
            go_ret
            exact ⟨_, rfl, by rw [ho.out]; exact owned_slice hown, hB1.trans (hBk.mono hB1.size)⟩
end Go.Proofs.Ytblmpmapcdpaiaa
end
section
/- nadirref23: Keeps, All. -/
namespace Go.Proofs.Ytblmpmapcdpaiaa
open Go.RowKit Lib

theorem choiceB_neg {p : ProgD} {set : Int} (h : set < 0) : choiceB p set = false := by unfold choiceB inB; simp; omega
set_option maxRecDepth 100000 in
set_option maxHeartbeats 4000000 in
theorem keepsx_ref (v : Value) (p : ProgD) (set : Int) (w : World) (hv : ProgV w v p) :
    Calls Try.prog 29 #[v, .int .i64 set] w fun e w' => e = .returned (.bool (choiceB p set && keepsB p.rows set.toNat)) ∧ Below w.heap.size w w' := by
  obtain ⟨vr, vg, rfl, hvr, hvg⟩ := hv
  have hB0 : Below w.heap.size w (w.alloc (.cells #[.int .i64 p.vars, vr, vg] 29)) := (Below.refl _ _).alloc (Nat.le_refl _) _
  have hx := valid_ref _ p _ ⟨_, _, rfl, hvr.below hB0, hvg.below hB0⟩
  have hbr := Lib.hid (fun W (hW : Below (w.alloc (.cells #[.int .i64 p.vars, vr, vg] 29)).heap.size (w.alloc (.cells #[.int .i64 p.vars, vr, vg] 29)) W) => broken_ref _ p set W ⟨_, _, rfl, (hvr.below hB0).below hW, (hvg.below hB0).below hW⟩)
  have kp := Blk.new w #[.int .i64 p.vars, vr, vg] 29
  obtain ⟨ra, rc, rfl, hr1, hr2⟩ := (show SlicesLen vr p.rows.length from hvr.len)
  obtain ⟨ga, gc, rfl, -, -⟩ := hvg.len
  clear hvr hvg
  obtain ⟨out, hout⟩ : ∃ b, Hid (b = (choiceB p set && keepsB p.rows set.toNat)) := ⟨_, Lib.hid rfl⟩
  rw [← hout.out]
  have hbad := Lib.hid (fun (h : choiceB p set = false) => (show out = false from by rw [hout.out, h]; rfl))
  cases hval : validB p with
  | false =>
    rw [hval] at hx
    have := hbad.out (by unfold choiceB; rw [hval]; rfl)
    subst this
    clear hval
    go_enter Try.func29, Try.ntmps29
    go_wp2_with fail
    refine hx.mono ?_
    rintro e w1 ⟨rfl, hB⟩
    go_wp2
    go_ret
    exact ⟨rfl, hB0.trans (hB.mono hB0.size)⟩
  | true =>
    rw [hval] at hx
    obtain ⟨v1, v2, v3, -, v5, v6⟩ := validB_true hval
    obtain ⟨pv, rows, gn⟩ := p
    simp only at v1 v2 v3 v5 v6 hx kp hB0 hr1 hbr ⊢
    obtain ⟨m, rfl⟩ := Int.eq_ofNat_of_zero_le v1
    have hpw := pow12 (n := m) (by omega)
    have hpn : ((2 ^ m : Nat) : Int) = (2 : Int) ^ m := by simp
    have hm12 : m ≤ 12 := by omega
    clear v5 v6
    by_cases h1 : set < 0
    · have := hbad.out (choiceB_neg h1)
      subst this
      have h1' : ¬ (0 ≤ set) := by omega
      clear hval
      go_enter Try.func29, Try.ntmps29
      go_wp2_with fail
      refine hx.mono ?_
      rintro e w1 ⟨rfl, hB⟩
      go_wp2
      go_ret
      exact ⟨rfl, hB0.trans (hB.mono hB0.size)⟩
    · obtain ⟨s, rfl⟩ := Int.eq_ofNat_of_zero_le (by omega : 0 ≤ set)
      by_cases h2 : (2 : Int) ^ m ≤ (s : Int)
      · have := hbad.out (by unfold choiceB inB; rw [Int.toNat_natCast]; simp; omega)
        subst this
        have h2' : ¬ ((s : Int) < (2 : Int) ^ m) := by omega
        clear hval
        go_enter Try.func29, Try.ntmps29
        go_wp2_with fail
        refine hx.mono ?_
        rintro e w1 ⟨rfl, hB⟩
        have kp1 := kp.below hB kp.lt
        have a0 := kp1.cell 0
        simp only [List.getElem?_toArray, List.getElem?_cons_zero] at a0
        go_wp2
        go_ret
        exact ⟨rfl, hB0.trans (hB.mono hB0.size)⟩
      · have hc : choiceB ⟨(m : Int), rows, gn⟩ s = true := choiceB_ok hval (by rw [Int.toNat_natCast]; omega)
        have hbv : brokenV ⟨(m : Int), rows, gn⟩ s = brK rows s rows.length := by unfold brokenV; rw [if_pos hc, Int.toNat_natCast]
        have ho : Hid (out = decide ((brK rows s rows.length).length = 0)) := Lib.hid (by rw [hout.out, hc, Bool.true_and, Int.toNat_natCast, brK_nil])
        have h2' : (s : Int) < (2 : Int) ^ m := by omega
        have hll := brK_len rows s rows.length
        rw [hbv] at hbr
        generalize brK rows s rows.length = L at hbr ho hll
        clear hval hc hbv
        go_enter Try.func29, Try.ntmps29
        go_wp2_with fail
        refine hx.mono ?_
        rintro e w1 ⟨rfl, hB⟩
        have hB1 := hB0.trans (hB.mono hB0.size)
        have kp1 := kp.below hB kp.lt
        have a0 := kp1.cell 0
        have a1 := kp1.cell 1
        have a2 := kp1.cell 2
        simp only [List.getElem?_toArray, List.getElem?_cons_succ, List.getElem?_cons_zero] at a0 a1 a2
        clear hx
        go_wp2_with fail
        refine (hbr.out w1 hB).mono ?_
        rintro e w2 ⟨v2', rfl, hL, hB2⟩
        obtain ⟨la, lc, rfl, -, -⟩ := hL.len
        clear hL
        go_wp2
        go_ret
        refine ⟨?_, hB1.trans (hB2.mono hB1.size)⟩
        rw [ho.out]
        by_cases hz : L.length = 0
        · simp [hz]
        · have : ((L.length : Int) == 0) = false := beq_eq_false_iff_ne.2 (by omega)
          simp [hz]
end Go.Proofs.Ytblmpmapcdpaiaa
end
end
section
/- nadirref23: All. -/
namespace Go.Proofs.Ytblmpmapcdpaiaa
open Go.RowKit Lib

set_option maxRecDepth 100000 in
set_option maxHeartbeats 4000000 in
theorem all_ref (v : Value) (p : ProgD) (w : World) (hv : ProgV w v p) :
    Calls Try.prog 23 #[v] w fun e w' => ∃ v', e = .returned (.tuple #[v', .int .i64 (errV p)]) ∧ IntsAt w' v' (allV p) ∧ Below w.heap.size w w' := by
  obtain ⟨vr, vg, rfl, hvr, hvg⟩ := hv
  have hB0 : Below w.heap.size w (w.alloc (.cells #[.int .i64 p.vars, vr, vg] 29)) := (Below.refl _ _).alloc (Nat.le_refl _) _
  have hx := valid_ref _ p _ ⟨_, _, rfl, hvr.below hB0, hvg.below hB0⟩
  have kp := Blk.new w #[.int .i64 p.vars, vr, vg] 29
  have HVR := Lib.hid (hvr.below hB0)
  have HVG := Lib.hid (hvg.below hB0)
  obtain ⟨ra, rc, rfl, hr1, hr2⟩ := (show SlicesLen vr p.rows.length from hvr.len)
  obtain ⟨ga, gc, rfl, -, -⟩ := hvg.len
  clear hvr hvg
  have hnil : ∀ W : World, IntsAt W (.slice none 0 0) [] := fun W => ⟨none, 0, rfl, by simp, by decide, fun h => by simp at h⟩
  unfold allV errV
  cases hval : validB p with
  | false =>
    rw [hval] at hx
    rw [if_neg (by decide), if_neg (by decide)]
    clear hval
    go_enter Try.func23, Try.ntmps23
    go_wp2_with fail
    refine hx.mono ?_
    rintro e w1 ⟨rfl, hB⟩
    go_wp2
    go_ret2
    exact ⟨_, rfl, hnil _, hB0.trans (hB.mono hB0.size)⟩
  | true =>
    rw [hval] at hx
    rw [if_pos rfl, if_pos rfl]
    obtain ⟨v1, v2, v3, -, -, -⟩ := validB_true hval
    have HROW := Lib.hid (fun r (hr : r ∈ p.rows) => by have := validB_row hval hr; exact (⟨by omega, this.2.2.1⟩ : r.coef.length ≤ 60 ∧ coefOK r.coef = true))
    obtain ⟨pv, rows, gn⟩ := p
    simp only at v1 v2 v3 hx kp HVR HVG hB0 HROW hr1 ⊢
    obtain ⟨m, rfl⟩ := Int.eq_ofNat_of_zero_le v1
    rw [Int.toNat_natCast]
    have hpw := pow12 (n := m) (by omega)
    have hpn : ((2 ^ m : Nat) : Int) = (2 : Int) ^ m := by simp
    have hm12 : m ≤ 12 := by omega
    clear hval
    go_enter Try.func23, Try.ntmps23
    go_wp2_with fail
    refine hx.mono ?_
    rintro e w1 ⟨rfl, hB⟩
    have hB1 := hB0.trans (hB.mono hB0.size)
    have kp1 := kp.below hB kp.lt
    have HV1 := Lib.hid (HVR.out.below hB)
    have HG1 := Lib.hid (HVG.out.below hB)
    clear hx
    go_wp2
    go_loopw [4, 5] (fun u4 u5 wr => ∃ k : Nat, k ≤ 2 ^ m ∧ u5 = .int .i64 k ∧ wr.ownsRow w1.heap.size 3 1 u4 (intL (chL rows k)).length ((intL (chL rows k)).map (Value.int .i64)) ∧ Below w1.heap.size w1 wr) (fun _ u5 _ => (2 ^ m - intOf u5).toNat)
    case atStart => exact ⟨0, by omega, rfl, World.ownsRow_nil _ _ _ _, Below.refl _ _⟩
    case round =>
      obtain ⟨k, hk, rfl, hown, hBk⟩ := hrel
      have kpk := kp1.below hBk kp1.lt
      have a0 := kpk.cell 0
      have a1 := kpk.cell 1
      have a2 := kpk.cell 2
      simp only [List.getElem?_toArray, List.getElem?_cons_succ, List.getElem?_cons_zero] at a0 a1 a2
      by_cases hkl : k < 2 ^ m
      · have hki : (k : Int) < (2 : Int) ^ m := by omega
        have hkr := keeps_ref (.agg #[.int .i64 m, .slice ra rows.length rc, .slice ga gn.length gc]) ⟨m, rows, gn⟩ k wr ⟨_, _, rfl, HV1.out.below hBk, HG1.out.below hBk⟩ HROW.out (by simp only; omega)
        have hch := chL_succ rows k
        have hcl := chL_len rows k
        simp only at hkr
        cases hkb : keepsB rows k with
        | false =>
          rw [hkb] at hkr hch
          have HN : Hid (chL rows (k + 1) = chL rows k) := Lib.hid (by rw [hch]; simp)
          clear hkb hch
          go_wp2_with fail
          refine hkr.mono ?_
          rintro e w6 ⟨rfl, hB6⟩
          go_wp2
          go_roundw
          case rel => exact ⟨k + 1, by omega, by go_num, by rw [HN.out]; exact owned_below hown hB6, hBk.trans (hB6.mono hBk.size)⟩
          case measure => simp [intOf]; omega
        | true =>
          rw [hkb] at hkr hch
          have HN : Hid (intL (chL rows (k + 1)) = intL (chL rows k) ++ [(k : Int)]) := Lib.hid (by rw [hch]; simp [intL])
          have hil : (intL (chL rows k)).length ≤ 4096 := by rw [intL_len]; omega
          clear hkb hch
          go_wp2_with fail
          refine hkr.mono ?_
          rintro e w6 ⟨rfl, hB6⟩
          have hown6 := owned_below hown hB6
          have hbs : w1.heap.size ≤ w6.heap.size := Nat.le_trans hBk.size hB6.size
          go_wp2_with (at_builtin; refine wpList_push E24 rfl _ _ rfl w1.heap.size hown6 rfl rfl rfl (by unfold maxLen; omega) (by omega) hbs ?_; intro v' w7 hown' hgrow hb1)
          go_roundw
          case rel => exact ⟨k + 1, by omega, by go_num, by rw [HN.out]; simpa using hown', (hBk.trans (hB6.mono hBk.size)).trans hb1⟩
          case measure => simp [intOf]; omega
      · obtain rfl : k = 2 ^ m := by omega
        have hki : ¬ (((2 ^ m : Nat) : Int) < (2 : Int) ^ m) := by omega
        go_wp2
        go_ret2
        exact ⟨_, rfl, owned_slice hown, hB1.trans (hBk.mono hB1.size)⟩
end Go.Proofs.Ytblmpmapcdpaiaa
end

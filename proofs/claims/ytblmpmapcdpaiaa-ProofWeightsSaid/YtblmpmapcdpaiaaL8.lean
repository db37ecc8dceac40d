/- nadirlaw23.ProgramSums: the walk. -/
import Derived.Test.YtblmpmapcdpaiaaB7
import Derived.Test.YtblmpmapcdpaiaaP19
namespace Go.Proofs.Ytblmpmapcdpaiaa
open Go.RowKit Lib

/-- A region whose ways all end alike, but for what lies above. -/
theorem wp_below {P : Program} {c : Code} {Q : Exit → Act → World → Prop} {a fr : Act} {w0 w : World} (h : c.wp P (fun e a' w' => e = .normal ∧ a' = fr ∧ Below w0.heap.size w0 w') a w) (k : ∀ w', Below w0.heap.size w0 w' → Q .normal fr w') : c.wp P Q a w :=
  Code.wp_mono (fun e a' w' hh => by obtain ⟨rfl, rfl, hb⟩ := hh; exact k w' hb) h

/-- What a program that Made made is like. -/
structure GoodP (p : ProgD) (m : Nat) : Prop where
  val : validB p = true
  vm : p.vars = m
  m8 : m ≤ 8
  n8 : p.rows.length ≤ 8
theorem goodP (vars : Int) (x : List X3) (gain : List Int) : ∃ m, GoodP (madeP vars x gain) m := by
  obtain ⟨h1, h2, h3⟩ := madeP_small vars x gain
  obtain ⟨m, hm⟩ := Int.eq_ofNat_of_zero_le h1
  exact ⟨m, madeP_valid vars x gain, hm, by omega, h3⟩

theorem list8 {l : List Int} (h : l.length = 8) : ∃ g0 g1 g2 g3 g4 g5 g6 g7, l = [g0, g1, g2, g3, g4, g5, g6, g7] := by
  match l, h with
  | [g0, g1, g2, g3, g4, g5, g6, g7], _ => exact ⟨_, _, _, _, _, _, _, _, rfl⟩
set_option maxRecDepth 100000 in
set_option maxHeartbeats 8000000 in
theorem sums_true (vars one two : Int) (vx : Value) (x : List X3) (gain : List Int) (w : World) (hv : InR vars) (h1 : InR one) (h2 : InR two) (hx : XsAt w vx x) (hxr : ∀ y ∈ x, XR y) (hg : gain.length = 8) (hgr : ∀ y ∈ gain, InR y) :
    Calls Try.prog 8 #[.int .i64 vars, vx, .agg (gain.map (Value.int .i64)).toArray, .int .i64 one, .int .i64 two] w fun e w' => e = .returned (.bool true) ∧ Below w.heap.size w w' := by
  obtain ⟨m, hG⟩ := goodP vars x gain
  have hmade := Lib.hid (fun W (hW : Below w.heap.size w W) => made_own vars vx x gain W hv (hx.below hW) hxr hg hgr)
  generalize madeP vars x gain = p at hG hmade
  obtain ⟨pv, rows, gn⟩ := p
  obtain rfl : pv = m := hG.vm
  obtain ⟨g0, g1, g2, g3, g4, g5, g6, g7, hge⟩ := list8 hg
  have harg : (gain.map (Value.int .i64)).toArray = #[.int .i64 g0, .int .i64 g1, .int .i64 g2, .int .i64 g3, .int .i64 g4, .int .i64 g5, .int .i64 g6, .int .i64 g7] := by rw [hge]; rfl
  rw [harg] at hmade ⊢
  have hm8 := hG.m8
  have hpw := pow12 (n := m) (by omega)
  have hpn : ((2 ^ m : Nat) : Int) = (2 : Int) ^ m := by simp
  have hp1 := pickI_bd one (n := 2 ^ m) (by omega)
  have hp2 := pickI_bd two (n := 2 ^ m) (by omega)
  have hk1 := Lib.hid (fun W => pick18 one (2 ^ m) W h1 (by omega) (by omega))
  have hk2 := Lib.hid (fun W => pick18 two (2 ^ m) W h2 (by omega) (by omega))
  obtain ⟨A, hA⟩ := Int.eq_ofNat_of_zero_le hp1.1
  obtain ⟨B0, hB0⟩ := Int.eq_ofNat_of_zero_le hp2.1
  rw [hA] at hk1 hp1
  rw [hB0] at hk2 hp2
  have hA4 : A < 2 ^ m := by omega
  have hB4 : B0 < 2 ^ m := by omega
  have hm4 : 2 ^ m ≤ 4096 := by omega
  have hand := andNot_i64 B0 A (by omega) (by omega)
  have hoff := Lib.hid (andNot_off B0 A (by omega))
  have hBlt : B0 &&& (2 ^ 64 - 1 - A) ≤ B0 := Nat.and_le_left
  generalize B0 &&& (2 ^ 64 - 1 - A) = B at hand hoff hBlt
  have HG := Lib.hid hG
  clear hx hxr hg hgr hge harg hA hB0 hG
  go_enter Try.func8, Try.ntmps8
  go_wp2_with fail
  refine (sane_true _).mono ?_
  rintro e w1 ⟨rfl, hBa⟩
  have hBw1 : Below w.heap.size w w1 := ((Below.refl _ _).alloc (Nat.le_refl _) _).trans (hBa.mono (by simp))
  have kg : Blk w1 w.heap.size #[.int .i64 g0, .int .i64 g1, .int .i64 g2, .int .i64 g3, .int .i64 g4, .int .i64 g5, .int .i64 g6, .int .i64 g7] 23 := (Blk.new w _ 23).below hBa (by simp)
  have i0 := kg.cell 0
  have i1 := kg.cell 1
  have i2 := kg.cell 2
  have i3 := kg.cell 3
  have i4 := kg.cell 4
  have i5 := kg.cell 5
  have i6 := kg.cell 6
  have i7 := kg.cell 7
  simp only [List.getElem?_toArray, List.getElem?_cons_succ, List.getElem?_cons_zero] at i0 i1 i2 i3 i4 i5 i6 i7
  go_wp2_with fail
  refine (hmade.out w1 hBw1).mono ?_
  rintro e w2 ⟨oB, vk, vg, rfl, hO, -, hB2⟩
  obtain ⟨vr', vg', e, hvr, hvg⟩ := hO.prog
  cases e
  simp only at hvr hvg
  obtain ⟨ra, rc, rfl, hr1, hr2⟩ := (show SlicesLen vk rows.length from hvr.len)
  obtain ⟨ga, gc, rfl, -, -⟩ := hvg.len
  unfold maxLen at hr2
  have hBw2 := hBw1.trans (hB2.mono hBw1.size)
  clear hO hB2 hBa hBw1 kg i0 i1 i2 i3 i4 i5 i6 i7 hmade
  have hA2 : Below w2.heap.size w2 (w2.alloc (.cells #[.int .i64 m, .slice ra rows.length rc, .slice ga gn.length gc] 29)) := (Below.refl _ _).alloc (Nat.le_refl _) _
  have kp := Blk.new w2 #[.int .i64 m, .slice ra rows.length rc, .slice ga gn.length gc] 29
  go_wp2_with fail
  refine (hk1.out _).mono ?_
  rintro e w3 ⟨rfl, rfl⟩
  go_wp2_with fail
  refine (hk2.out _).mono ?_
  rintro e w3 ⟨rfl, rfl⟩
  have hval := HG.out.val
  have htn : (ProgD.vars ⟨(m : Int), rows, gn⟩).toNat = m := Int.toNat_natCast m
  have hcA := choiceB_ok hval (s := A) (by rw [htn]; exact hA4)
  have hx := broken_all _ ⟨m, rows, gn⟩ A _ ⟨_, _, rfl, hvr.below hA2, hvg.below hA2⟩
  have hbr : brokenV ⟨m, rows, gn⟩ A = brK rows A rows.length := by unfold brokenV; rw [if_pos hcA, Int.toNat_natCast]
  rw [hbr] at hx
  have hABlt : A ||| B < 2 ^ m := Nat.or_lt_two_pow hA4 (by omega)
  have hor : bits .or .i64 (A : Int) (B : Int) = ((A ||| B : Nat) : Int) := (bits_nat .i64 63 (by decide) wraps_i64 A B (by omega) (by omega)).2
  have hrow : Hid (∀ r ∈ rows, sumV r A + sumV r B = sumV r ((A ||| B : Nat) : Int) ∧ decide (sumV r A ≤ r.most) = keptB r A ∧ IntKind.i64.wrap (sumV r A + sumV r B) = sumV r A + sumV r B) := fun r hr => by
    rw [sumV_row hval hr (s := A) (by rw [htn]; exact hA4), sumV_row hval hr (s := B) (by rw [htn]; omega), sumV_row hval hr (s := A ||| B) (by rw [htn]; exact hABlt)]
    obtain ⟨-, q2, q3, -⟩ := validB_row hval hr
    have qa := ch_bd q3 (by omega) A
    have qb := ch_bd q3 (by omega) B
    exact ⟨ch_or r.coef A B hoff.out, rfl, wrapS _ (by omega) (by omega)⟩
  have hgain : Hid (gainV ⟨m, rows, gn⟩ A + gainV ⟨m, rows, gn⟩ B = gainV ⟨m, rows, gn⟩ ((A ||| B : Nat) : Int) ∧ IntKind.i64.wrap (gainV ⟨m, rows, gn⟩ A + gainV ⟨m, rows, gn⟩ B) = gainV ⟨m, rows, gn⟩ A + gainV ⟨m, rows, gn⟩ B) := by
    obtain ⟨v1, v2, v3, v4, v5, v6⟩ := validB_true hval
    have q : ∀ s : Nat, s < 2 ^ m → gainV ⟨m, rows, gn⟩ s = ch gn s := fun s hs => by
      unfold gainV
      rw [if_pos (choiceB_ok hval (by rw [htn]; exact hs)), Int.toNat_natCast]
    rw [q A hA4, q B (by omega), q _ hABlt]
    have hgl : gn.length ≤ 60 := by simp only at v5 v2; omega
    have qa := ch_bd (l := gn) v6 hgl A
    have qb := ch_bd (l := gn) v6 hgl B
    exact ⟨ch_or gn A B hoff.out, wrapS _ (by omega) (by omega)⟩
  have hkeep : Hid ((choiceB ⟨m, rows, gn⟩ A && keepsB rows (A : Int).toNat) = decide ((brK rows A rows.length).length = 0)) := by
    show _ = _
    rw [hcA, Bool.true_and, brK_nil, Int.toNat_natCast]
  have hn8 := HG.out.n8
  simp only at hn8
  clear hval htn hcA hbr hoff hk1 hk2
  go_wp2_with fail
  refine hx.mono ?_
  rintro e w3 ⟨v3, rfl, hL, hB3⟩
  have hA3 := hA2.trans (hB3.mono hA2.size)
  have hBw3 := hBw2.trans (hA3.mono hBw2.size)
  replace kp := kp.below hB3 kp.lt
  replace hvr := hvr.below hA3
  replace hvg := hvg.below hA3
  have hbl := brK_len rows A rows.length
  obtain ⟨la, lc, rfl, hl1, hl2⟩ := hL.len
  unfold maxLen at hl2
  rw [show (brK rows A rows.length).length = (brK rows A rows.length).length from rfl] at hl1
  have HVR := Lib.hid hvr
  have HVG := Lib.hid hvg
  have HL := Lib.hid hL
  clear hx hA2 hB3 hA3 hvr hvg hL
  go_wp2
  go_loopw [16, 17] (fun u16 u17 wr => ∃ k : Nat, k ≤ rows.length ∧ u17 = .int .i64 k ∧ u16 = .int .i64 (brK rows A k).length ∧ Below w3.heap.size w3 wr) (fun _ u17 _ => (rows.length - intOf u17).toNat)
  case atStart => exact ⟨0, by omega, rfl, rfl, Below.refl _ _⟩
  case round =>
    obtain ⟨k, hk, rfl, rfl, hBk⟩ := hrel
    have kpk := kp.below hBk kp.lt
    have lpk := kpk.lt
    have hBw := hBw3.trans (hBk.mono hBw3.size)
    have i0 := kpk.cell 0
    have i1 := kpk.cell 1
    have i2 := kpk.cell 2
    simp only [List.getElem?_toArray, List.getElem?_cons_succ, List.getElem?_cons_zero] at i0 i1 i2
    have hbk := brK_len rows A k
    by_cases hkl : k < rows.length
    · have hs := getD_some row0 hkl
      obtain ⟨rb, ro, vc, rfl, c0, c1, c2, c3, c4, c5, hc⟩ := (HVR.out.below hBk).get hs
      obtain ⟨hr1', hr2', hr3'⟩ := hrow.out _ (List.mem_of_getElem? hs)
      have hnext : brK rows A (k + 1) = brK rows A k ++ if keptB (rows.getD k row0) A then [] else [(k : Int)] := rfl
      have hget := fun (h : keptB (rows.getD k row0) A = false) => brK_get rows A h rows.length hkl
      generalize rows.getD k row0 = r at hs c0 c1 c2 c3 c4 c5 hc hr1' hr2' hr3' hnext hget
      obtain ⟨ca, cc, rfl, -, -⟩ := hc.len
      have hBa : Below wr.heap.size wr (wr.alloc (.cells #[.int .i64 r.kind, .int .i64 r.a, .int .i64 r.b, .int .i64 r.at_, .slice ca r.coef.length cc, .int .i64 r.most] 26)) := (Below.refl _ _).alloc (Nat.le_refl _) _
      have kr := Blk.new wr #[.int .i64 r.kind, .int .i64 r.a, .int .i64 r.b, .int .i64 r.at_, .slice ca r.coef.length cc, .int .i64 r.most] 26
      have hsum := Lib.hid (fun W s (hW : Below wr.heap.size wr W) => sum_all (.agg #[.int .i64 r.kind, .int .i64 r.a, .int .i64 r.b, .int .i64 r.at_, .slice ca r.coef.length cc, .int .i64 r.most]) r s W ⟨_, rfl, hc.below hW⟩)
      have HN := Lib.hid hnext
      have HGT := Lib.hid hget
      clear hc hnext hget
      replace hr3' := hr3'.trans hr1'
      clear hr1'
      go_wp2_with fail
      generalize wr.alloc (.cells #[.int .i64 r.kind, .int .i64 r.a, .int .i64 r.b, .int .i64 r.at_, .slice ca r.coef.length cc, .int .i64 r.most] 26) = V at hBa kr ⊢
      clear c0 c1 c2 c3 c4 c5 i0 i1 i2
      have c0 := kr.cell 0
      have c1 := kr.cell 1
      have c2 := kr.cell 2
      have c3 := kr.cell 3
      have c4 := kr.cell 4
      have c5 := kr.cell 5
      simp only [List.getElem?_toArray, List.getElem?_cons_succ, List.getElem?_cons_zero] at c0 c1 c2 c3 c4 c5
      have lr := kr.lt
      have hVs := hBa.size
      apply wp_below (w0 := V)
      · go_region_held3 (fun w' => Below V.heap.size V w' ∧ w'.cell? ⟨wr.heap.size, 0, none⟩ = some (.int .i64 r.kind) ∧ w'.cell? ⟨wr.heap.size, 1, none⟩ = some (.int .i64 r.a) ∧ w'.cell? ⟨wr.heap.size, 2, none⟩ = some (.int .i64 r.b) ∧ w'.cell? ⟨wr.heap.size, 3, none⟩ = some (.int .i64 r.at_) ∧ w'.cell? ⟨wr.heap.size, 4, none⟩ = some (.slice ca r.coef.length cc) ∧ w'.cell? ⟨wr.heap.size, 5, none⟩ = some (.int .i64 r.most))
          (first | exact ⟨(Below.refl _ _).drew, c0, c1, c2, c3, c4, c5⟩ | (have hh := ‹Below V.heap.size V _ ∧ _›; exact ⟨hh.1.trans (hB5.mono hh.1.size), (hB5.cell (Nat.lt_of_lt_of_le lr hh.1.size)).trans hh.2.1, (hB5.cell (Nat.lt_of_lt_of_le lr hh.1.size)).trans hh.2.2.1, (hB5.cell (Nat.lt_of_lt_of_le lr hh.1.size)).trans hh.2.2.2.1, (hB5.cell (Nat.lt_of_lt_of_le lr hh.1.size)).trans hh.2.2.2.2.1, (hB5.cell (Nat.lt_of_lt_of_le lr hh.1.size)).trans hh.2.2.2.2.2.1, (hB5.cell (Nat.lt_of_lt_of_le lr hh.1.size)).trans hh.2.2.2.2.2.2⟩))
          (first | (go_at_call 34; refine (hsum.out _ _ (hBa.trans ((‹Below V.heap.size V _ ∧ _›).1.mono hBa.size))).mono ?_; rintro e w5 ⟨rfl, hB5⟩))
        all_goals exact ⟨rfl, rfl, (‹Below V.heap.size V _ ∧ _›).1⟩
      intro w5 hB5
      clear c0 c1 c2 c3 c4 c5 hr3'
      replace kr := kr.below hB5 lr
      have hV5 := hBa.trans (hB5.mono hBa.size)
      have lr5 := kr.lt
      have c0 := kr.cell 0
      have c1 := kr.cell 1
      have c2 := kr.cell 2
      have c3 := kr.cell 3
      have c4 := kr.cell 4
      have c5 := kr.cell 5
      simp only [List.getElem?_toArray, List.getElem?_cons_succ, List.getElem?_cons_zero] at c0 c1 c2 c3 c4 c5
      cases hq : keptB r A with
      | true =>
        rw [hq] at hr2'
        have HNN : Hid (brK rows A (k + 1) = brK rows A k) := by have := HN.out; rw [if_pos hq, List.append_nil] at this; exact this
        clear hq HN HGT
        go_wp2_with fail
        apply wp_below (w0 := w5)
        · go_region_held3 (fun w' => Below w5.heap.size w5 w' ∧ w'.cell? ⟨wr.heap.size, 0, none⟩ = some (.int .i64 r.kind) ∧ w'.cell? ⟨wr.heap.size, 1, none⟩ = some (.int .i64 r.a) ∧ w'.cell? ⟨wr.heap.size, 2, none⟩ = some (.int .i64 r.b) ∧ w'.cell? ⟨wr.heap.size, 3, none⟩ = some (.int .i64 r.at_) ∧ w'.cell? ⟨wr.heap.size, 4, none⟩ = some (.slice ca r.coef.length cc) ∧ w'.cell? ⟨wr.heap.size, 5, none⟩ = some (.int .i64 r.most))
            (first | exact ⟨(Below.refl _ _).drew, c0, c1, c2, c3, c4, c5⟩ | (have hh := ‹Below w5.heap.size w5 _ ∧ _›; exact ⟨hh.1.trans (hB6.mono hh.1.size), (hB6.cell (Nat.lt_of_lt_of_le lr5 hh.1.size)).trans hh.2.1, (hB6.cell (Nat.lt_of_lt_of_le lr5 hh.1.size)).trans hh.2.2.1, (hB6.cell (Nat.lt_of_lt_of_le lr5 hh.1.size)).trans hh.2.2.2.1, (hB6.cell (Nat.lt_of_lt_of_le lr5 hh.1.size)).trans hh.2.2.2.2.1, (hB6.cell (Nat.lt_of_lt_of_le lr5 hh.1.size)).trans hh.2.2.2.2.2.1, (hB6.cell (Nat.lt_of_lt_of_le lr5 hh.1.size)).trans hh.2.2.2.2.2.2⟩))
            (first | (go_at_call 34; refine (hsum.out _ _ (hV5.trans ((‹Below w5.heap.size w5 _ ∧ _›).1.mono hV5.size))).mono ?_; rintro e w6 ⟨rfl, hB6⟩))
          all_goals exact ⟨rfl, rfl, (‹Below w5.heap.size w5 _ ∧ _›).1⟩
        intro w6 hB6
        go_wp2
        go_roundw
        case rel => exact ⟨k + 1, by omega, by go_num, by rw [HNN.out], (hBk.trans ((hV5.trans (hB6.mono hV5.size)).mono hBk.size))⟩
        case measure => simp [intOf]; omega
      | false =>
        rw [hq] at hr2'
        have hg := HGT.out hq
        have HNN : Hid (brK rows A (k + 1) = brK rows A k ++ [(k : Int)]) := by have := HN.out; rw [if_neg (by rw [hq]; decide)] at this; exact this
        have hlt : (brK rows A k).length < (brK rows A rows.length).length := by
          refine Classical.byContradiction fun hc => ?_
          rw [List.getElem?_eq_none (by omega)] at hg; cases hg
        have hlt2 : ((brK rows A k).length : Int) < ((brK rows A rows.length).length : Int) := by omega
        obtain ⟨lb, lo, rfl, hlc⟩ := (HL.out.below hBk).get hg
        clear hq HN HGT hg
        go_wp2_with fail
        apply wp_below (w0 := w5)
        · go_region_held3 (fun w' => Below w5.heap.size w5 w' ∧ w'.cell? ⟨wr.heap.size, 0, none⟩ = some (.int .i64 r.kind) ∧ w'.cell? ⟨wr.heap.size, 1, none⟩ = some (.int .i64 r.a) ∧ w'.cell? ⟨wr.heap.size, 2, none⟩ = some (.int .i64 r.b) ∧ w'.cell? ⟨wr.heap.size, 3, none⟩ = some (.int .i64 r.at_) ∧ w'.cell? ⟨wr.heap.size, 4, none⟩ = some (.slice ca r.coef.length cc) ∧ w'.cell? ⟨wr.heap.size, 5, none⟩ = some (.int .i64 r.most))
            (first | exact ⟨(Below.refl _ _).drew, c0, c1, c2, c3, c4, c5⟩ | (have hh := ‹Below w5.heap.size w5 _ ∧ _›; exact ⟨hh.1.trans (hB6.mono hh.1.size), (hB6.cell (Nat.lt_of_lt_of_le lr5 hh.1.size)).trans hh.2.1, (hB6.cell (Nat.lt_of_lt_of_le lr5 hh.1.size)).trans hh.2.2.1, (hB6.cell (Nat.lt_of_lt_of_le lr5 hh.1.size)).trans hh.2.2.2.1, (hB6.cell (Nat.lt_of_lt_of_le lr5 hh.1.size)).trans hh.2.2.2.2.1, (hB6.cell (Nat.lt_of_lt_of_le lr5 hh.1.size)).trans hh.2.2.2.2.2.1, (hB6.cell (Nat.lt_of_lt_of_le lr5 hh.1.size)).trans hh.2.2.2.2.2.2⟩))
            (first | (go_at_call 34; refine (hsum.out _ _ (hV5.trans ((‹Below w5.heap.size w5 _ ∧ _›).1.mono hV5.size))).mono ?_; rintro e w6 ⟨rfl, hB6⟩))
          all_goals exact ⟨rfl, rfl, (‹Below w5.heap.size w5 _ ∧ _›).1⟩
        intro w6 hB6
        have hlc6 : w6.cell? ⟨lb, lo + (brK rows A k).length, none⟩ = some (.int .i64 k) := ((hV5.trans (hB6.mono hV5.size)).cell (World.block_lt_of_cell? _ _ hlc)).trans hlc
        go_wp2
        go_roundw
        case rel => exact ⟨k + 1, by omega, by go_num, by rw [HNN.out]; simp, (hBk.trans ((hV5.trans (hB6.mono hV5.size)).mono hBk.size))⟩
        case measure => simp [intOf]; omega
    · obtain rfl : k = rows.length := by omega
      have hkp := Lib.hid (fun W (hW : Below wr.heap.size wr W) => keeps_all (.agg #[.int .i64 m, .slice ra rows.length rc, .slice ga gn.length gc]) ⟨m, rows, gn⟩ A W ⟨_, _, rfl, (HVR.out.below hBk).below hW, (HVG.out.below hBk).below hW⟩)
      have hgp := Lib.hid (fun W s (hW : Below wr.heap.size wr W) => gain_all (.agg #[.int .i64 m, .slice ra rows.length rc, .slice ga gn.length gc]) ⟨m, rows, gn⟩ s W ⟨_, _, rfl, (HVR.out.below hBk).below hW, (HVG.out.below hBk).below hW⟩)
      rw [hkeep.out] at hkp
      have hgg := hgain.out.2.trans hgain.out.1
      clear HL HVR HVG hrow hgain hkeep hbk
      generalize (brK rows A rows.length).length = N at *
      cases N with
      | zero =>
        rw [decide_eq_true rfl] at hkp
        go_wp2_with fail
        apply wp_below (w0 := wr)
        · go_region_held3 (fun w' => Below wr.heap.size wr w' ∧ w'.cell? ⟨w2.heap.size, 0, none⟩ = some (.int .i64 m) ∧ w'.cell? ⟨w2.heap.size, 1, none⟩ = some (.slice ra rows.length rc) ∧ w'.cell? ⟨w2.heap.size, 2, none⟩ = some (.slice ga gn.length gc))
            (first | exact ⟨(Below.refl _ _).drew, i0, i1, i2⟩ | (have hh := ‹Below wr.heap.size wr _ ∧ _›; exact ⟨hh.1.trans (hB6.mono hh.1.size), (hB6.cell (Nat.lt_of_lt_of_le lpk hh.1.size)).trans hh.2.1, (hB6.cell (Nat.lt_of_lt_of_le lpk hh.1.size)).trans hh.2.2.1, (hB6.cell (Nat.lt_of_lt_of_le lpk hh.1.size)).trans hh.2.2.2⟩))
            (first | (go_at_call 28; refine (hkp.out _ (‹Below wr.heap.size wr _ ∧ _›).1).mono ?_; rintro e w6 ⟨rfl, hB6⟩) | (go_at_call 30; refine (hgp.out _ _ (‹Below wr.heap.size wr _ ∧ _›).1).mono ?_; rintro e w6 ⟨rfl, hB6⟩))
          all_goals exact ⟨rfl, rfl, (‹Below wr.heap.size wr _ ∧ _›).1⟩
        intro w6 hB6
        go_wp2
        go_ret
        exact ⟨rfl, hBw.trans (hB6.mono hBw.size)⟩
      | succ N =>
        rw [decide_eq_false (by omega)] at hkp
        have q0 : ((N : Int) + 1 == 0) = false := beq_eq_false_iff_ne.2 (by omega)
        go_wp2_with fail
        apply wp_below (w0 := wr)
        · go_region_held3 (fun w' => Below wr.heap.size wr w' ∧ w'.cell? ⟨w2.heap.size, 0, none⟩ = some (.int .i64 m) ∧ w'.cell? ⟨w2.heap.size, 1, none⟩ = some (.slice ra rows.length rc) ∧ w'.cell? ⟨w2.heap.size, 2, none⟩ = some (.slice ga gn.length gc))
            (first | exact ⟨(Below.refl _ _).drew, i0, i1, i2⟩ | (have hh := ‹Below wr.heap.size wr _ ∧ _›; exact ⟨hh.1.trans (hB6.mono hh.1.size), (hB6.cell (Nat.lt_of_lt_of_le lpk hh.1.size)).trans hh.2.1, (hB6.cell (Nat.lt_of_lt_of_le lpk hh.1.size)).trans hh.2.2.1, (hB6.cell (Nat.lt_of_lt_of_le lpk hh.1.size)).trans hh.2.2.2⟩))
            (first | (go_at_call 28; refine (hkp.out _ (‹Below wr.heap.size wr _ ∧ _›).1).mono ?_; rintro e w6 ⟨rfl, hB6⟩) | (go_at_call 30; refine (hgp.out _ _ (‹Below wr.heap.size wr _ ∧ _›).1).mono ?_; rintro e w6 ⟨rfl, hB6⟩))
          all_goals exact ⟨rfl, rfl, (‹Below wr.heap.size wr _ ∧ _›).1⟩
        intro w6 hB6
        go_wp2
        go_ret
        exact ⟨rfl, hBw.trans (hB6.mono hBw.size)⟩
end Go.Proofs.Ytblmpmapcdpaiaa

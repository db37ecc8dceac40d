/- package integer: Div. -/
import Derived.Test.YtjnpenljgfdaiaaGreatDoorX2
namespace Go.Proofs.YtjnpenljgfdaiaaGreatDoor
open Go.RowKit Go.Shelf Lib

theorem toG_one {x : Nat} (h0 : x ≠ 0) (h : x < 10000) : N3.toG x = [x] := by
  rw [N3.toG_pos h0, show x / 10000 = 0 by omega, N3.toG_zero, Nat.mod_eq_of_lt h]
theorem num_small {w : World} {g x : Nat} (h0 : x ≠ 0) (h : x < 10000) (hb : BlkT w g #[.int .i64 (x : Nat)] 3) : NumAt w (.slice (some ⟨g, 0, none⟩) 1 1) x := by
  unfold NumAt
  rw [toG_one h0 h]
  refine ⟨_, 1, rfl, Nat.le_refl _, by decide, fun _ => ⟨g, 0, rfl, fun j y hj => ?_⟩⟩
  cases j with
  | zero => obtain rfl : (x : Int) = y := by simpa [castL] using hj
            rw [hb.cell]; rfl
  | succ j => simp [castL] at hj
theorem one_any (w : World) : Calls Tryz.prog 90 #[] w fun e w' => ∃ g, e = .returned (.slice (some ⟨g, 0, none⟩) 1 1) ∧ NumAt w' (.slice (some ⟨g, 0, none⟩) 1 1) 1 ∧ Below w.heap.size w w' := by
  have hn : NumAt (w.alloc (.cells #[.int .i64 1] 3)) (.slice (some ⟨w.heap.size, 0, none⟩) 1 1) 1 := num_small (x := 1) (by decide) (by decide) (BlkT.newAt _ _ _ rfl)
  have HN := Lib.hid hn
  clear hn
  go_enter Tryz.func90, Tryz.ntmps90
  go_wp2
  go_ret
  exact ⟨_, rfl, HN.out, (Below.refl _ _).alloc (Nat.le_refl _) _⟩
set_option maxRecDepth 100000 in
set_option maxHeartbeats 2000000 in
theorem div_f (a b : ByteArray) (w : World) (ha : a.size ≤ 9223372036854775807) (hb : b.size ≤ 9223372036854775807) (he : EnvW w) :
    Calls Tryz.prog 37 #[.string a, .string b] w fun e w' => e = .returned (.tuple #[.string (N3.outS (N3.quoO a b)), .string (N3.outS (N3.remO a b)), .int .i64 (N3.outE (N3.quoO a b))]) ∧ Below w.heap.size w w' := by
  cases hk : N3.ok2 a b with
  | false =>
    have h := Lib.hid (both_bad a b w ha hb hk)
    have hd : N3.okDiv a b = false := by unfold N3.okDiv; rw [hk]; rfl
    have e1 : N3.quoO a b = none := by unfold N3.quoO; rw [hd]; rfl
    have e2 : N3.remO a b = none := by unfold N3.remO; rw [hd]; rfl
    rw [e1, e2]
    clear he hk e1 e2 hd
    go_enter Tryz.func37, Tryz.ntmps37
    go_wp2_with fail
    refine h.out.mono ?_
    rintro e w' ⟨rfl, hB⟩
    go_wp2
    refine bodyPost_ret (v := .tuple #[.string ⟨#[]⟩, .string ⟨#[]⟩, .int .i64 30]) (by simp [results, Tryz.results37, go_sem]) rfl ?_
    exact ⟨rfl, (hB.alloc hB.size _).alloc (by have := hB.size; simp; omega) _⟩
  | true =>
    have h := Lib.hid (both_ok a b w ha hb hk)
    obtain ⟨o1, o2⟩ := ok2_split hk
    by_cases h0 : N3.iV b = 0
    · have hd : N3.okDiv a b = false := by unfold N3.okDiv; rw [h0]; simp
      have e1 : N3.quoO a b = none := by unfold N3.quoO; rw [hd]; rfl
      have e2 : N3.remO a b = none := by unfold N3.remO; rw [hd]; rfl
      rw [e1, e2]
      have H0 := Lib.hid h0
      clear he hk e1 e2 hd h0
      go_enter Tryz.func37, Tryz.ntmps37
      go_wp2_with fail
      refine h.out.mono ?_
      rintro e W1 ⟨b1, a1, n1, c1, b2, a2, n2, c2, rfl, hn1, hn2, hs1, hs2, -, -, hB1⟩
      have hz : n2 = 0 := by
        have h4 := N3.sgn_abs b2 n2
        rw [hs2, H0.out] at h4
        simpa using h4.symm
      have hl : (N3.toG n2).length = 0 := by rw [hz, N3.toG_zero]; rfl
      rw [hl]
      obtain ⟨k1, k2⟩ := two_blocks (W1 := W1) (b1 := b1) (b2 := b2) (v1 := .slice a1 (N3.toG n1).length c1) (v2 := .slice a2 0 c2)
      have x4 := k2.cell 1
      simp at x4
      clear hn1 hn2 hs1 hs2 hz hl k1 k2
      go_wp2_with fail
      refine bodyPost_ret (v := .tuple #[.string ⟨#[]⟩, .string ⟨#[]⟩, .int .i64 30]) (by simp [results, Tryz.results37, go_sem]) rfl ?_
      exact ⟨rfl, (hB1.alloc hB1.size _).alloc (by have := hB1.size; simp; omega) _⟩
    · have hd : N3.okDiv a b = true := by unfold N3.okDiv; rw [hk, decide_eq_true h0]; rfl
      have e1 : N3.quoO a b = some (N3.iV a / N3.iV b) := by unfold N3.quoO; rw [hd]; rfl
      have e2 : N3.remO a b = some (N3.iV a % N3.iV b) := by unfold N3.remO; rw [hd]; rfl
      rw [e1, e2]
      have hla := N3.iV_lim o1
      have hlb := N3.iV_lim o2
      have hl1 : (N3.iV a / N3.iV b).natAbs < N3.lim := Nat.lt_of_le_of_lt (N3.div_natAbs_le _ _) hla
      have hl2 : (N3.iV a % N3.iV b).natAbs < N3.lim := Nat.lt_trans (N3.mod_natAbs_lt h0) hlb
      have HL1 := Lib.hid hl1
      have HL2 := Lib.hid hl2
      have HO1 := Lib.hid (N3.outS_some hl1)
      have HO2 := Lib.hid (N3.outS_some hl2)
      have HO3 := Lib.hid (N3.outE_some hl1)
      have HE := Lib.hid he
      have H0 := Lib.hid h0
      clear hk he e1 e2 hd hl1 hl2 h0 hla hlb
      go_enter Tryz.func37, Tryz.ntmps37
      go_wp2_with fail
      refine h.out.mono ?_
      rintro e W1 ⟨b1, a1, n1, c1, b2, a2, n2, c2, rfl, hn1, hn2, hs1, hs2, -, -, hB1⟩
      have z1 := sgn_lt hs1 o1
      have z2 := sgn_lt hs2 o2
      have hp2 : 0 < n2 := by
        refine Nat.pos_of_ne_zero fun e => H0.out ?_
        rw [← hs2, e]; cases b2 <;> rfl
      have hlp : 0 < (N3.toG n2).length := by
        refine Classical.byContradiction fun hc => ?_
        have := N3.toG_nil.1 (List.eq_nil_of_length_eq_zero (show (N3.toG n2).length = 0 by omega))
        omega
      have hlq : (((N3.toG n2).length : Int) == 0) = false := beq_eq_false_iff_ne.2 (by omega)
      have hBa : Below W1.heap.size W1 ((W1.alloc (.cells #[.bool b1, .slice a1 (N3.toG n1).length c1] 90)).alloc (.cells #[.bool b2, .slice a2 (N3.toG n2).length c2] 90)) := ((Below.refl _ _).alloc (Nat.le_refl _) _).alloc (by simp) _
      obtain ⟨k1, k2⟩ := two_blocks (W1 := W1) (b1 := b1) (b2 := b2) (v1 := .slice a1 (N3.toG n1).length c1) (v2 := .slice a2 (N3.toG n2).length c2)
      have x2 := k1.cell 1
      have x4 := k2.cell 1
      simp at x2 x4
      have ho := Lib.hid (over_any _ _ n1 n2 _ (SliceOf.below hn1 hBa) (SliceOf.below hn2 hBa) hp2 (by have := len_lim z1; omega) (by have := len_lim z2; omega))
      have HS1 := Lib.hid hs1
      have HS2 := Lib.hid hs2
      have HN2 := Lib.hid (SliceOf.below hn2 hBa)
      have hBV := hB1.trans (hBa.mono hB1.size)
      clear hn1 hn2 hs1 hs2
      go_wp2_with fail
      generalize ((W1.alloc (.cells #[.bool b1, .slice a1 (N3.toG n1).length c1] 90)).alloc (.cells #[.bool b2, .slice a2 (N3.toG n2).length c2] 90)) = V at hBa k1 k2 ho HN2 hBV ⊢
      refine ho.out.mono ?_
      rintro e W3 ⟨vq, vr, rfl, hq3, hr3, hB3⟩
      obtain ⟨aq, cq2, rfl, q1, q2⟩ := (show IntsAt _ vq _ from hq3).len
      obtain ⟨ar, cr, rfl, q3, q4⟩ := (show IntsAt _ vr _ from hr3).len
      simp only [castL_len] at hq3 hr3 q1 q2 q3 q4 ⊢
      have hBW := hBV.trans (hB3.mono hBV.size)
      have m1 := k1.below hB3 k1.lt
      have m2 := k2.below hB3 k2.lt
      have x1 := m1.cell 0
      have x2 := m1.cell 1
      have x3 := m2.cell 0
      have x4 := m2.cell 1
      simp at x1 x2 x3 x4
      have hQl : n1 / n2 < 10000 * N3.lim := by have := Nat.div_le_self n1 n2; omega
      have hRl : n1 % n2 < 10000 * N3.lim := by have := Nat.mod_lt n1 hp2; omega
      by_cases hup : b1 = true ∧ n1 % n2 ≠ 0
      · obtain ⟨rfl, hr0⟩ := hup
        have hdu := N3.div_sgn_up b2 n1 n2 hp2 hr0
        rw [HS1.out, HS2.out] at hdu
        have hrl : 0 < (N3.toG (n1 % n2)).length := by
          refine Classical.byContradiction fun hc => hr0 (N3.toG_nil.1 (List.eq_nil_of_length_eq_zero (by omega)))
        have hc1 := Lib.hid (fun (V' : World) (hV : Below W3.heap.size W3 V') g (hg : NumAt V' (.slice (some ⟨g, 0, none⟩) 1 1) 1) => plus_any (.slice aq (N3.toG (n1 / n2)).length cq2) (.slice (some ⟨g, 0, none⟩) 1 1) (n1 / n2) 1 V' (SliceOf.below hq3 hV) hg (by have := len_two hQl; omega) (by have := len_one (x := 1) (by decide); omega))
        have hc2 := Lib.hid (fun (V' : World) (hV : Below W3.heap.size W3 V') => minus_any (.slice a2 (N3.toG n2).length c2) (.slice ar (N3.toG (n1 % n2)).length cr) n2 (n1 % n2) V' (SliceOf.below HN2.out (hB3.trans (hV.mono hB3.size))) (SliceOf.below hr3 hV) (by have := len_lim z2; omega) (by have := Nat.mod_lt n1 hp2; omega))
        have HDU := Lib.hid hdu
        have hQl2 : n1 / n2 + 1 < 10000 * N3.lim := by have := Nat.div_le_self n1 n2; unfold N3.lim at z1 ⊢; omega
        have hRl2 : n2 - n1 % n2 < 10000 * N3.lim := by omega
        have hgl : (0 : Int) < ((N3.toG (n1 % n2)).length : Int) := by omega
        clear hq3 hr3 hr0 hdu hQl hRl
        go_wp2_with fail
        go_region_held3 (fun w' => Below W3.heap.size W3 w' ∧ w'.cell? ⟨W1.heap.size + 1, 1, none⟩ = some (.slice a2 (N3.toG n2).length c2))
          (first | exact ⟨(Below.refl _ _).drew, x4⟩ | exact keep_S1 (by assumption) (by assumption) | go_keep)
          (first
            | (go_at_call 90; (with_reducible refine (one_any _).mono ?_); rintro e w6 ⟨g6, rfl, hn6, hB6⟩)
            | (go_at_call 89; (with_reducible refine (hc1.out _ (‹Below W3.heap.size W3 _ ∧ _›).1 _ (by first | assumption | exact NumAt.below (by assumption) (by assumption))).mono ?_); rintro e w7 ⟨v7, rfl, hn7, hB7⟩; obtain ⟨a7, c7, rfl, q71, q72⟩ := (show IntsAt _ v7 _ from hn7).len)
            | (go_at_call 91; (with_reducible refine (hc2.out _ (‹Below W3.heap.size W3 _ ∧ _›).1).mono ?_); rintro e w8 ⟨v8, rfl, hn8, hB8⟩; obtain ⟨a8, c8, rfl, q81, q82⟩ := (show IntsAt _ v8 _ from hn8).len))
        all_goals (
          have hBz := (‹Below W3.heap.size W3 _ ∧ _›).1
          have hq3 := SliceOf.below hn7 hB8
          have hr3 := hn8
          have hBW := hBW.trans (hBz.mono hBW.size)
          have hQl := hQl2
          have hRl := hRl2
          have HQ := Lib.hid (show N3.sgn (!b2) (n1 / n2 + 1) = N3.iV a / N3.iV b by have := HDU.out.1; cases b2 <;> exact this.symm)
          have HRm := Lib.hid (show N3.sgn false (n2 - n1 % n2) = N3.iV a % N3.iV b from HDU.out.2.symm)
          have y1 := hBz.cell (World.block_lt_of_cell? _ _ x1)
          have y3 := hBz.cell (World.block_lt_of_cell? _ _ x3)
          rw [x1] at y1
          rw [x3] at y3
          simp only [castL_len] at hq3 hr3 q71 q81 ⊢
          clear hn7 hn8
          have hx1 := Lib.hid (fun (V' : World) (hV : Below w8.heap.size w8 V') => by
            have q := text_any (!b2) (.slice a7 (N3.toG (n1 / n2 + 1)).length c7) (n1 / n2 + 1) V' (SliceOf.below hq3 hV) (by have := len_two hQl; omega) (HE.out.below (hBW.trans (hV.mono hBW.size)))
            rw [HQ.out, N3.outS_some HL1.out, N3.outE_some HL1.out] at q
            exact q)
          have hx2 := Lib.hid (fun (V' : World) (hV : Below w8.heap.size w8 V') => by
            have q := text_any false (.slice a8 (N3.toG (n2 - n1 % n2)).length c8) (n2 - n1 % n2) V' (SliceOf.below hr3 hV) (by have := len_two hRl; omega) (HE.out.below (hBW.trans (hV.mono hBW.size)))
            rw [HRm.out, N3.outS_some HL2.out, N3.outE_some HL2.out] at q
            exact q)
          clear hq3 hr3
          go_wp2_with fail
          refine (hx1.out _ (Below.refl _ _)).mono ?_
          rintro e W4 ⟨rfl, hB4⟩
          go_wp2_with fail
          refine (hx2.out _ hB4).mono ?_
          rintro e W5 ⟨rfl, hB5⟩
          go_wp2_with fail
          refine bodyPost_ret (v := .tuple #[.string (N3.S (N3.iV a / N3.iV b)), .string (N3.S (N3.iV a % N3.iV b)), .int .i64 0]) (by simp [results, Tryz.results37, go_sem]) rfl ?_
          exact ⟨by rw [HO1.out, HO2.out, HO3.out], hBW.trans ((hB4.trans (hB5.mono hB4.size)).mono hBW.size)⟩)
      · have hdd : b1 = false ∨ n1 % n2 = 0 := by
          cases b1 with
          | false => exact .inl rfl
          | true => exact .inr (Classical.byContradiction fun h => hup ⟨rfl, h⟩)
        have hdn := N3.div_sgn_down b1 b2 n1 n2 hp2 hdd
        rw [HS1.out, HS2.out] at hdn
        have HQ := Lib.hid (show N3.sgn (!(b1 == b2)) (n1 / n2) = N3.iV a / N3.iV b from hdn.1.symm)
        have HRm := Lib.hid (show N3.sgn false (n1 % n2) = N3.iV a % N3.iV b from hdn.2.symm)
        have hguard : b1 = false ∨ (b1 = true ∧ (N3.toG (n1 % n2)).length = 0) := by
          cases b1 with
          | false => exact .inl rfl
          | true =>
            refine .inr ⟨rfl, ?_⟩
            rcases hdd with h | h
            · cases h
            · rw [h, N3.toG_zero]; rfl
        clear hdn hdd hup
        rcases hguard with rfl | ⟨rfl, hrl0⟩
        · have HQ := Lib.hid (show N3.sgn b2 (n1 / n2) = N3.iV a / N3.iV b by have := HQ.out; cases b2 <;> exact this)
          have hx1 := Lib.hid (fun (V' : World) (hV : Below W3.heap.size W3 V') => by
            have q := text_any b2 (.slice aq (N3.toG (n1 / n2)).length cq2) (n1 / n2) V' (SliceOf.below hq3 hV) (by have := len_two hQl; omega) (HE.out.below (hBW.trans (hV.mono hBW.size)))
            rw [HQ.out, N3.outS_some HL1.out, N3.outE_some HL1.out] at q
            exact q)
          have hx2 := Lib.hid (fun (V' : World) (hV : Below W3.heap.size W3 V') => by
            have q := text_any false (.slice ar (N3.toG (n1 % n2)).length cr) (n1 % n2) V' (SliceOf.below hr3 hV) (by have := len_two hRl; omega) (HE.out.below (hBW.trans (hV.mono hBW.size)))
            rw [HRm.out, N3.outS_some HL2.out, N3.outE_some HL2.out] at q
            exact q)
          clear hq3 hr3
          go_wp2_with fail
          refine (hx1.out _ (Below.refl _ _)).mono ?_
          rintro e W4 ⟨rfl, hB4⟩
          go_wp2_with fail
          refine (hx2.out _ hB4).mono ?_
          rintro e W5 ⟨rfl, hB5⟩
          go_wp2_with fail
          refine bodyPost_ret (v := .tuple #[.string (N3.S (N3.iV a / N3.iV b)), .string (N3.S (N3.iV a % N3.iV b)), .int .i64 0]) (by simp [results, Tryz.results37, go_sem]) rfl ?_
          exact ⟨by rw [HO1.out, HO2.out, HO3.out], hBW.trans ((hB4.trans (hB5.mono hB4.size)).mono hBW.size)⟩
        · have HQ := Lib.hid (show N3.sgn (!b2) (n1 / n2) = N3.iV a / N3.iV b by have := HQ.out; cases b2 <;> exact this)
          have hgl : ¬ (0 : Int) < ((N3.toG (n1 % n2)).length : Int) := by omega
          have hx1 := Lib.hid (fun (V' : World) (hV : Below W3.heap.size W3 V') => by
            have q := text_any (!b2) (.slice aq (N3.toG (n1 / n2)).length cq2) (n1 / n2) V' (SliceOf.below hq3 hV) (by have := len_two hQl; omega) (HE.out.below (hBW.trans (hV.mono hBW.size)))
            rw [HQ.out, N3.outS_some HL1.out, N3.outE_some HL1.out] at q
            exact q)
          have hx2 := Lib.hid (fun (V' : World) (hV : Below W3.heap.size W3 V') => by
            have q := text_any false (.slice ar (N3.toG (n1 % n2)).length cr) (n1 % n2) V' (SliceOf.below hr3 hV) (by have := len_two hRl; omega) (HE.out.below (hBW.trans (hV.mono hBW.size)))
            rw [HRm.out, N3.outS_some HL2.out, N3.outE_some HL2.out] at q
            exact q)
          rw [hrl0] at hx2
          clear hq3 hr3
          go_wp2_with fail
          refine (hx1.out _ (Below.refl _ _)).mono ?_
          rintro e W4 ⟨rfl, hB4⟩
          go_wp2_with fail
          refine (hx2.out _ hB4).mono ?_
          rintro e W5 ⟨rfl, hB5⟩
          go_wp2_with fail
          refine bodyPost_ret (v := .tuple #[.string (N3.S (N3.iV a / N3.iV b)), .string (N3.S (N3.iV a % N3.iV b)), .int .i64 0]) (by simp [results, Tryz.results37, go_sem]) rfl ?_
          exact ⟨by rw [HO1.out, HO2.out, HO3.out], hBW.trans ((hB4.trans (hB5.mono hB4.size)).mono hBW.size)⟩
end Go.Proofs.YtjnpenljgfdaiaaGreatDoor

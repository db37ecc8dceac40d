/- package integer: Root. -/
import Derived.Test.YtjnpenljgfdaiaaGreatDoorX4
namespace Go.Proofs.YtjnpenljgfdaiaaGreatDoor
open Go.RowKit Go.Shelf Lib

theorem val_zeros (h : Nat) : N3.val (List.replicate h 0 ++ [1]) = 10000 ^ h := by
  rw [N3.val_app, List.length_replicate]
  have : N3.val (List.replicate h 0) = 0 := by
    induction h with
    | zero => rfl
    | succ h ih => rw [List.replicate_succ, N3.val, ih]
  rw [this]; simp [N3.val]
theorem toG_pow (h : Nat) : N3.toG (10000 ^ h) = List.replicate h 0 ++ [1] := by
  rw [← val_zeros]
  refine N3.toG_val (fun x hx => ?_) (by simp)
  rcases List.mem_append.1 hx with hx | hx
  · rw [(List.mem_replicate.1 hx).2]; decide
  · rw [List.mem_singleton.1 hx]; decide
theorem own_zeros (h : Nat) (hn : h ≤ 1000000) (w : World) : (w.alloc (.cells (madeCells #[.int .i64 0] h) 3)).ownsRow w.heap.size 3 1 (.slice (some ⟨w.heap.size, 0, none⟩) h h) h ((castL (List.replicate h 0)).map (Value.int .i64)) := by
  refine ⟨by simp [castL], .inr ⟨w.heap.size, h, castV (List.replicate h 0), rfl, Nat.le_refl _, ?_, Nat.le_refl _, by unfold maxLen; omega, by simp [castV, castL], by simp [castV, castL]⟩⟩
  rw [castV_zero]
  exact heap_alloc_new w _
theorem okS_zero : N3.okS ⟨#[48]⟩ = true := by decide
theorem iV_zero : N3.iV ⟨#[48]⟩ = 0 := by decide
set_option maxRecDepth 100000 in
set_option maxHeartbeats 2000000 in
theorem root_f (a : ByteArray) (w : World) (ha : a.size ≤ 9223372036854775807) (he : EnvW w) :
    Calls Tryz.prog 41 #[.string a] w fun e w' => e = .returned (.tuple #[.string (N3.outS (N3.rootO a)), .int .i64 (N3.outE (N3.rootO a))]) ∧ Below w.heap.size w w' := by
  cases hk : N3.okS a with
  | false =>
    have hk2 : N3.ok2 a ⟨#[48]⟩ = false := by unfold N3.ok2; rw [hk]; rfl
    have h := Lib.hid (both_bad a ⟨#[48]⟩ w ha (by decide) hk2)
    have hr : N3.rootO a = none := by unfold N3.rootO; rw [hk]; rfl
    rw [hr]
    clear he hk hk2 hr
    go_enter Tryz.func41, Tryz.ntmps41
    go_wp2_with fail
    refine h.out.mono ?_
    rintro e w' ⟨rfl, hB⟩
    go_wp2
    go_ret2
    exact ⟨rfl, (hB.alloc hB.size _).alloc (by have := hB.size; simp; omega) _⟩
  | true =>
    have hk2 : N3.ok2 a ⟨#[48]⟩ = true := by unfold N3.ok2; rw [hk, okS_zero]; rfl
    have h := Lib.hid (both_ok a ⟨#[48]⟩ w ha (by decide) hk2)
    generalize hoS : N3.outS (N3.rootO a) = oS
    generalize hoE : N3.outE (N3.rootO a) = oE
    have HOS := Lib.hid hoS
    have HOE := Lib.hid hoE
    have HK := Lib.hid hk
    have HE := Lib.hid he
    clear hk hk2 he hoS hoE
    go_enter Tryz.func41, Tryz.ntmps41
    go_wp2_with fail
    refine h.out.mono ?_
    rintro e W1 ⟨b1, a1, n1, c1, b2, a2, n2, c2, rfl, hn1, hn2, hs1, hs2, hz1, -, hB1⟩
    have z1 := sgn_lt hs1 HK.out
    have hBa : Below W1.heap.size W1 ((W1.alloc (.cells #[.bool b1, .slice a1 (N3.toG n1).length c1] 90)).alloc (.cells #[.bool b2, .slice a2 (N3.toG n2).length c2] 90)) := ((Below.refl _ _).alloc (Nat.le_refl _) _).alloc (by simp) _
    obtain ⟨k1, k2⟩ := two_blocks (W1 := W1) (b1 := b1) (b2 := b2) (v1 := .slice a1 (N3.toG n1).length c1) (v2 := .slice a2 (N3.toG n2).length c2)
    cases b1 with
    | true =>
      have hneg : ¬ 0 ≤ N3.iV a := by
        have := hz1 rfl
        rw [← hs1]; unfold N3.sgn; simp; omega
      have hr : N3.rootO a = none := by unfold N3.rootO; rw [HK.out, decide_eq_false hneg]; rfl
      have HS := Lib.hid (show oS = ⟨#[]⟩ by have := HOS.out; rw [hr] at this; exact this.symm)
      have HE3 := Lib.hid (show oE = 30 by have := HOE.out; rw [hr] at this; exact this.symm)
      clear hn1 hn2 hs1 hs2 hz1 hneg hr
      have x1 := k1.cell 0
      simp at x1
      go_wp2_with fail
      go_ret2
      exact ⟨by rw [HS.out, HE3.out]; rfl, hB1.trans (hBa.mono hB1.size)⟩
    | false =>
      have hnn : 0 ≤ N3.iV a := by rw [← hs1]; unfold N3.sgn; simp
      have hna : (N3.iV a).natAbs = n1 := by rw [← hs1]; exact N3.sgn_abs _ _
      have hr : N3.rootO a = some ((N3.rootN n1 : Nat) : Int) := by unfold N3.rootO; rw [HK.out, decide_eq_true hnn, hna]; rfl
      have hrl : ((N3.rootN n1 : Nat) : Int).natAbs < N3.lim := by have := N3.rootN_le n1; omega
      have HS := Lib.hid (show oS = N3.S ((N3.rootN n1 : Nat) : Int) by have := HOS.out; rw [hr, N3.outS_some hrl] at this; exact this.symm)
      have HE3 := Lib.hid (show oE = 0 by have := HOE.out; rw [hr, N3.outE_some hrl] at this; exact this.symm)
      have HN1 := Lib.hid hn1
      have x1 := k1.cell 0
      have x2 := k1.cell 1
      simp at x1 x2
      have hll := len_lim z1
      clear hn1 hn2 hs1 hs2 hz1 hnn hna hr hrl
      obtain ⟨hh, hhh⟩ : ∃ hh, hh = ((N3.toG n1).length + 1) / 2 := ⟨_, rfl⟩
      have hw1 : IntKind.i64.wrap (((N3.toG n1).length : Int) + 1) = ((N3.toG n1).length : Int) + 1 := by rw [IntKind.wrap_i64]; omega
      have hq1 : Int.tdiv (((N3.toG n1).length : Int) + 1) 2 = (hh : Int) := by rw [Int.tdiv_eq_ediv_of_nonneg (by omega)]; omega
      have hq2 : (((N3.toG n1).length : Int) + 1) / 2 = (hh : Int) := by omega
      have hw2 : IntKind.i64.wrap (hh : Int) = (hh : Int) := by rw [IntKind.wrap_i64]; omega
      have hmk := fun w => mk88n hh (by omega) w
      have hown := own_zeros hh (by omega) ((W1.alloc (.cells #[.bool false, .slice a1 (N3.toG n1).length c1] 90)).alloc (.cells #[.bool b2, .slice a2 (N3.toG n2).length c2] 90))
      simp only [World.size_alloc] at hown
      have HHH := Lib.hid hhh
      clear hhh
      go_wp2_with (at_builtin; refine wpList_push E88 rfl _ _ rfl (W1.heap.size + 1 + 1) hown rfl (by simp [Act.eval]) rfl (by unfold maxLen; omega) (by omega) (by simp) ?_; intro v' w3 ho3 hg3 hB3)
      have hB3' : Below W1.heap.size W1 w3 := (hBa.alloc (by simp; omega) _).trans (hB3.mono (by omega))
      have hw3 := hB3'.size
      have e1 : (castL (List.replicate hh 0)).map (Value.int .i64) ++ [.int .i64 1] = (castL (N3.toG (10000 ^ hh))).map (Value.int .i64) := by
        rw [toG_pow]; unfold castL; rw [List.map_append, List.map_append]; rfl
      rw [e1] at ho3
      have hl3 : (castL (N3.toG (10000 ^ hh))).length = hh + 1 := by rw [castL_len, toG_pow, List.length_append, List.length_replicate]; rfl
      have hr3 : NumAt w3 v' (10000 ^ hh) := owned_slice (by rw [hl3]; exact ho3)
      have j1 := (k1.alloc (.cells (madeCells #[.int .i64 0] hh) 3)).below hB3 (by omega)
      have x2 := j1.cell 1
      simp at x2
      have hn3 := SliceOf.below HN1.out hB3'
      have hBW := hB1.trans (hB3'.mono hB1.size)
      have hxr : n1 < (10000 ^ hh + 1) * (10000 ^ hh + 1) := by
        have q1 := N3.val_lt (N3.toG_lt n1)
        rw [N3.val_toG] at q1
        have q2 := Nat.pow_le_pow_right (show 0 < 10000 by decide) (show (N3.toG n1).length ≤ hh + hh by have := HHH.out; omega)
        rw [Nat.pow_add] at q2
        have q3 : 10000 ^ hh * 10000 ^ hh ≤ (10000 ^ hh + 1) * (10000 ^ hh + 1) := Nat.mul_le_mul (Nat.le_succ _) (Nat.le_succ _)
        omega
      have hrp : 0 < 10000 ^ hh := Nat.pow_pos (by decide)
      have hrl : (N3.toG (10000 ^ hh)).length ≤ 60 := by rw [toG_pow, List.length_append, List.length_replicate, List.length_singleton]; have := HHH.out; omega
      obtain ⟨ra, rc, rfl, v1, v2⟩ := (show IntsAt _ v' _ from hr3).len
      rw [castL_len] at hr3 v1 ⊢
      have X2 := Lib.hid j1
      clear ho3 hg3 hB3 hown hmk hl3 e1
      generalize 10000 ^ hh = r0 at hr3 hxr hrp hrl v1 ⊢
      go_loopw [7, 8, 9, 10, 11] (fun u7 _ _ _ _ wr => ∃ (r : Nat) (ar : Option Addr) (cr : Nat), u7 = .slice ar (N3.toG r).length cr ∧ NumAt wr (.slice ar (N3.toG r).length cr) r ∧ 0 < r ∧ n1 < (r + 1) * (r + 1) ∧ (N3.toG r).length ≤ 60 ∧ Below w3.heap.size w3 wr) (fun u7 _ _ _ _ wr => numOf wr u7)
      case atStart => exact ⟨r0, ra, rc, rfl, hr3, hrp, hxr, hrl, Below.refl _ _⟩
      case round =>
        obtain ⟨r, ar, cr, rfl, hnr, hr0, hxx, hrl2, hB⟩ := hrel
        rename World => wr
        have x2 := (X2.out.below hB X2.out.lt).cell 1
        simp at x2
        by_cases h0 : n1 = 0
        · have hl0 : (N3.toG n1).length = 0 := by rw [h0, N3.toG_zero]; rfl
          have hroot : N3.rootN n1 = 0 := by rw [h0]; exact N3.rootN_eq ⟨Nat.le_refl _, by decide⟩
          have hS0 := HS.out
          rw [hroot] at hS0
          have hS1 : oS = ⟨#[48]⟩ := by rw [hS0]; unfold N3.S; rw [show ((0 : Nat) : Int) = 0 from rfl, N3.itoa_zero]
          have HS1 := Lib.hid hS1
          rw [hl0] at x2
          clear hnr hl0 hroot hS0 hS1 h0
          go_wp2_with fail
          go_ret2
          exact ⟨by rw [HS1.out, HE3.out]; rfl, hBW.trans (hB.mono hBW.size)⟩
        · have hlp : 0 < (N3.toG n1).length := by
            refine Classical.byContradiction fun hc => h0 (N3.toG_nil.1 (List.eq_nil_of_length_eq_zero (by omega)))
          have hlq : (0 : Int) < ((N3.toG n1).length : Int) := by omega
          have ho := Lib.hid (over_any (.slice a1 (N3.toG n1).length c1) (.slice ar (N3.toG r).length cr) n1 r wr (SliceOf.below hn3 hB) hnr hr0 (by omega) (by omega))
          have HNR := Lib.hid hnr
          have H0 := Lib.hid h0
          have hms := Lib.hid (numOf_eq hnr)
          clear hnr h0
          go_wp2_with fail
          refine ho.out.mono ?_
          rintro e W5 ⟨vq, vr, rfl, hq5, hr5, hB5⟩
          obtain ⟨aq, cq, rfl, q1, q2⟩ := (show IntsAt _ vq _ from hq5).len
          obtain ⟨av, cv, rfl, q3, q4⟩ := (show IntsAt _ vr _ from hr5).len
          simp only [castL_len] at hq5 hr5 q1 q2 q3 q4 ⊢
          have hqle : (N3.toG (n1 / r)).length ≤ 50 := by have := len_mono (Nat.div_le_self n1 r); omega
          have hsum : r + n1 / r < 10000 ^ 61 := by
            have w1 := N3.val_lt (N3.toG_lt r)
            have w2 := N3.val_lt (N3.toG_lt (n1 / r))
            rw [N3.val_toG] at w1 w2
            have w3 := Nat.pow_le_pow_right (show 0 < 10000 by decide) hrl2
            have w4 := Nat.pow_le_pow_right (show 0 < 10000 by decide) (show (N3.toG (n1 / r)).length ≤ 60 by omega)
            have w5 : 10000 ^ 61 = 10000 ^ 60 * 10000 := by rw [← Nat.pow_succ]
            omega
          have hp := Lib.hid (plus_any (.slice ar (N3.toG r).length cr) (.slice aq (N3.toG (n1 / r)).length cq) r (n1 / r) W5 (SliceOf.below HNR.out hB5) hq5 (by omega) (by omega))
          clear hq5 hr5
          go_wp2_with fail
          refine hp.out.mono ?_
          rintro e W6 ⟨v6, rfl, hn6, hB6⟩
          obtain ⟨a6, c6, rfl, q5, q6⟩ := (show IntsAt _ v6 _ from hn6).len
          simp only [castL_len] at hn6 q5 ⊢
          have hB6' : Below W6.heap.size W6 (W6.alloc (.cells #[.int .i64 2] 3)) := (Below.refl _ _).alloc (Nat.le_refl _) _
          have hn2 : NumAt (W6.alloc (.cells #[.int .i64 2] 3)) (.slice (some ⟨W6.heap.size, 0, none⟩) 1 1) 2 := num_small (x := 2) (by decide) (by decide) (BlkT.newAt _ _ _ rfl)
          have ho2 := Lib.hid (over_any _ _ (r + n1 / r) 2 _ (SliceOf.below hn6 hB6') hn2 (by decide) (by have := N3.toG_len_le hsum; omega) (by have := len_one (x := 2) (by decide); omega))
          clear hn6 hn2
          go_wp2_with fail
          refine ho2.out.mono ?_
          rintro e W7 ⟨v7, v8, rfl, hn7, -, hB7⟩
          have hnl : (N3.toG ((r + n1 / r) / 2)).length ≤ 61 := by have := len_mono (Nat.div_le_self (r + n1 / r) 2); have := N3.toG_len_le hsum; omega
          obtain ⟨a7, c7, rfl, q7, q8⟩ := (show IntsAt _ v7 _ from hn7).len
          simp only [castL_len] at hn7 q7 ⊢
          have hB57 := hB5.trans ((hB6.trans ((hB6'.trans (hB7.mono hB6'.size)).mono hB6.size)).mono hB5.size)
          have hc := Lib.hid (compare_any (.slice a7 (N3.toG ((r + n1 / r) / 2)).length c7) (.slice ar (N3.toG r).length cr) ((r + n1 / r) / 2) r W7 hn7 (SliceOf.below HNR.out hB57) (by omega))
          have HN7 := Lib.hid hn7
          have hms7 := Lib.hid (numOf_eq hn7)
          clear hn7
          go_wp2_with fail
          refine hc.out.mono ?_
          rintro e W8 ⟨rfl, hB8⟩
          have hB58 := hB57.trans (hB8.mono hB57.size)
          have hBz := hB.trans (hB58.mono hB.size)
          by_cases hst : r ≤ (r + n1 / r) / 2
          · have hroot : N3.rootN n1 = r := N3.rootN_eq ⟨N3.newton_stop hr0 hst, hxx⟩
            have hcp : 0 ≤ N3.cmpI (((r + n1 / r) / 2 : Nat) : Int) (r : Int) := by unfold N3.cmpI; rw [if_neg (by omega)]; split <;> omega
            have hcp2 : ¬ N3.cmpI (((r + n1 / r) / 2 : Nat) : Int) (r : Int) < 0 := by omega
            have hr1 : ((r : Nat) : Int).natAbs < N3.lim := by
              have := N3.rootN_le n1
              rw [hroot] at this; omega
            have hx := text_any false (.slice ar (N3.toG r).length cr) r W8 (SliceOf.below HNR.out hB58) (by omega) (HE.out.below (hBW.trans (hBz.mono hBW.size)))
            rw [show N3.sgn false r = ((r : Nat) : Int) from rfl, N3.outS_some hr1, N3.outE_some hr1] at hx
            have hS1 := HS.out
            rw [hroot] at hS1
            have HS1 := Lib.hid hS1
            have HX := Lib.hid hx
            clear hx hroot hS1 hr1
            generalize N3.cmpI (((r + n1 / r) / 2 : Nat) : Int) (r : Int) = cc at hcp hcp2 ⊢
            go_wp2_with fail
            refine HX.out.mono ?_
            rintro e W9 ⟨rfl, hB9⟩
            go_wp2_with fail
            go_ret2
            exact ⟨by rw [HS1.out, HE3.out]; rfl, hBW.trans ((hBz.trans (hB9.mono hBz.size)).mono hBW.size)⟩
          · have hcp : N3.cmpI (((r + n1 / r) / 2 : Nat) : Int) (r : Int) = -1 := N3.cmpI_cast_lt (by omega)
            rw [hcp]
            have hup := N3.newton_up (x := n1) hr0
            have hpos := N3.newton_pos hr0 (show 0 < n1 from Nat.pos_of_ne_zero H0.out)
            have HUP := Lib.hid hup
            have HST := Lib.hid hst
            have HPOS := Lib.hid hpos
            clear hcp hst hup hpos
            go_wp2_with fail
            go_roundw
            case rel => exact ⟨_, _, _, rfl, NumAt.below HN7.out hB8, HPOS.out, HUP.out, by have := len_mono (Nat.le_of_lt (Nat.lt_of_not_le HST.out)); omega, hBz⟩
            case measure =>
              show numOf W8 _ < numOf wr _
              rw [hms.out, numOf_eq (NumAt.below HN7.out hB8)]
              exact Nat.lt_of_not_le HST.out
end Go.Proofs.YtjnpenljgfdaiaaGreatDoor

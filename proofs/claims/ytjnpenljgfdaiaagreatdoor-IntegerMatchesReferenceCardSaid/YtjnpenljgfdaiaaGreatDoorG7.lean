/- package nadirref03: Div, Gcd. -/
import Derived.Test.YtjnpenljgfdaiaaGreatDoorG6
namespace Go.Proofs.YtjnpenljgfdaiaaGreatDoor
open Go.RowKit Go.Shelf Lib

theorem dig_one (w : World) : DigAt (w.alloc (.cells #[.int .i64 1] 3)) (.slice (some ⟨w.heap.size, 0, none⟩) 1 1) 1 := by
  have e : D10.toG 1 = [1] := by rw [D10.toG_pos (by decide), show 1 / 10 = 0 from rfl, D10.toG_zero]
  have hb : (w.alloc (.cells #[.int .i64 1] 3)).heap[w.heap.size]? = some (.cells #[.int .i64 1] 3 (0, 0)) := heap_alloc_new w _
  refine own_ints (B := w.heap.size) (l := D10.toG 1) ?_
  rw [e]
  exact ⟨rfl, .inr ⟨w.heap.size, 1, #[.int .i64 1], rfl, Nat.le_refl _, hb, Nat.le_refl _, by decide, rfl, rfl⟩⟩
theorem ok_zero {b : ByteArray} (h : N3.okS b = true) : N3.iV b = 0 ↔ b.data.toList = [48] := by
  constructor
  · intro e
    have := N3.S_iV h
    rw [e] at this
    rw [← this]
    unfold N3.S; rw [N3.itoa_zero]
  · intro e
    have : b = ⟨#[48]⟩ := bytes_ext e
    rw [this]; decide
theorem len_zero10 {r : Nat} : (D10.toG r).length = 0 ↔ r = 0 := by rw [List.length_eq_zero_iff, D10.toG_nil]

set_option maxRecDepth 100000 in
set_option maxHeartbeats 6000000 in
theorem div10 (a b : ByteArray) (w : World) (ha : a.size ≤ 9223372036854775806) (hb : b.size ≤ 9223372036854775806) :
    Calls Tryz.prog 48 #[.string a, .string b] w fun e w' => e = .returned (.tuple #[.string (N3.outS (N3.quoO a b)), .string (N3.outS (N3.remO a b)), .int .i64 (N3.outE (N3.quoO a b))]) ∧ Below w.heap.size w w' := by
  have HA := Lib.hid (fun V => valid10 a V ha)
  have HB := Lib.hid (fun V => valid10 b V hb)
  clear ha hb
  cases hoa : N3.okS a with
  | false =>
    have e1 : N3.okDiv a b = false := by unfold N3.okDiv N3.ok2; rw [hoa]; rfl
    have e2 : N3.quoO a b = none := by unfold N3.quoO; rw [e1]; rfl
    have e3 : N3.remO a b = none := by unfold N3.remO; rw [e1]; rfl
    rw [e2, e3, out_none'.1, out_none'.2]
    rw [hoa] at HA
    clear hoa e1 e2 e3
    go_enter Tryz.func48, Tryz.ntmps48
    go_wp2_with fail
    refine (HA.out _).mono ?_
    rintro e w' ⟨rfl, rfl⟩
    go_wp2
    refine bodyPost_ret (v := .tuple #[.string ⟨#[]⟩, .string ⟨#[]⟩, .int .i64 30]) (by simp [results, Tryz.results48, go_sem]) rfl ?_
    exact ⟨rfl, Below.refl _ _⟩
  | true =>
    cases hob : N3.okS b with
    | false =>
      have e1 : N3.okDiv a b = false := by unfold N3.okDiv N3.ok2; rw [hoa, hob]; rfl
      have e2 : N3.quoO a b = none := by unfold N3.quoO; rw [e1]; rfl
      have e3 : N3.remO a b = none := by unfold N3.remO; rw [e1]; rfl
      rw [e2, e3, out_none'.1, out_none'.2]
      rw [hoa] at HA
      rw [hob] at HB
      clear hoa hob e1 e2 e3
      go_enter Tryz.func48, Tryz.ntmps48
      go_wp2_with fail
      refine (HA.out _).mono ?_
      rintro e w' ⟨rfl, rfl⟩
      go_wp2_with fail
      refine (HB.out _).mono ?_
      rintro e w' ⟨rfl, rfl⟩
      go_wp2
      refine bodyPost_ret (v := .tuple #[.string ⟨#[]⟩, .string ⟨#[]⟩, .int .i64 30]) (by simp [results, Tryz.results48, go_sem]) rfl ?_
      exact ⟨rfl, Below.refl _ _⟩
    | true =>
      by_cases hz : N3.iV b = 0
      · have hst := str_eq48 ((ok_zero hob).1 hz)
        have e1 : N3.okDiv a b = false := by unfold N3.okDiv N3.ok2; rw [hoa, hob, decide_eq_false (fun k => k hz)]; rfl
        have e2 : N3.quoO a b = none := by unfold N3.quoO; rw [e1]; rfl
        have e3 : N3.remO a b = none := by unfold N3.remO; rw [e1]; rfl
        rw [e2, e3, out_none'.1, out_none'.2]
        rw [hoa] at HA
        rw [hob] at HB
        clear hoa hob e1 e2 e3 hz
        go_enter Tryz.func48, Tryz.ntmps48
        go_wp2_with fail
        refine (HA.out _).mono ?_
        rintro e w' ⟨rfl, rfl⟩
        go_wp2_with fail
        refine (HB.out _).mono ?_
        rintro e w' ⟨rfl, rfl⟩
        go_wp2
        refine bodyPost_ret (v := .tuple #[.string ⟨#[]⟩, .string ⟨#[]⟩, .int .i64 30]) (by simp [results, Tryz.results48, go_sem]) rfl ?_
        exact ⟨rfl, Below.refl _ _⟩
      · have hst := str_ne48 (fun e => hz ((ok_zero hob).2 e))
        have e1 : N3.okDiv a b = true := by unfold N3.okDiv N3.ok2; rw [hoa, hob, decide_eq_true hz]; rfl
        have e2 : N3.quoO a b = some (N3.iV a / N3.iV b) := by unfold N3.quoO; rw [if_pos e1]
        have e3 : N3.remO a b = some (N3.iV a % N3.iV b) := by unfold N3.remO; rw [if_pos e1]
        rw [e2, e3, (neg_mag (s := a)).1, (neg_mag (s := b)).1]
        have m1 := mag_lim hoa
        have m2 := mag_lim hob
        have hl0 : 0 < magS b := by
          have : magS b = (N3.iV b).natAbs := rfl
          omega
        have HD1 := Lib.hid (fun V => digits10 a V hoa)
        have HD2 := Lib.hid (fun V => digits10 b V hob)
        rw [hoa] at HA
        rw [hob] at HB
        clear hoa hob e1 e2 e3 hz
        generalize negS a = x at *
        generalize negS b = y at *
        generalize magS a = k at *
        generalize magS b = l at *
        have HDV := Lib.hid divided10
        have HC := Lib.hid checked10
        have HT := Lib.hid text10_any
        have HP := Lib.hid plus10
        have HM := Lib.hid minus10
        have q1 := len_of_lim m1
        have q2 := len_of_lim m2
        have hrl := Nat.mod_lt k hl0
        have hql : k / l ≤ k := Nat.div_le_self _ _
        have q3 : (D10.toG (k / l)).length ≤ 200 := len_of_lim (by omega)
        have q4 : (D10.toG (k % l)).length ≤ 200 := len_of_lim (by omega)
        have hlim : (0 : Nat) + 1 < N3.lim := by decide
        cases x with
        | false =>
          have hds := N3.div_sgn_down false y k l hl0 (.inl rfl)
          simp only [Bool.false_bne, Bool.true_bne] at hds
          rw [hds.1, hds.2]
          have u1 : (N3.sgn y (k / l)).natAbs < N3.lim := by rw [N3.sgn_abs]; omega
          have u2 : ((k % l : Nat) : Int).natAbs < N3.lim := by rw [Int.natAbs_natCast]; omega
          have HCC := Lib.hid (fun v V (h : DigAt V v (k / l)) => HC.out y v (k / l) V h (by omega))
          rw [N3.outS_some u1, N3.outE_some u1] at HCC
          have HTT := Lib.hid (fun v V (h : DigAt V v (k % l)) => HT.out false v (k % l) V h (by omega))
          rw [show N3.sgn false (k % l) = ((k % l : Nat) : Int) from rfl] at HTT
          rw [N3.outS_some u1, N3.outS_some u2, N3.outE_some u1]
          clear hds u1 u2
          go_enter Tryz.func48, Tryz.ntmps48
          go_wp2_with fail
          refine (HA.out _).mono ?_
          rintro e w' ⟨rfl, rfl⟩
          go_wp2_with fail
          refine (HB.out _).mono ?_
          rintro e w' ⟨rfl, rfl⟩
          go_wp2_with fail
          refine (HD1.out _).mono ?_
          rintro e w1 ⟨v1, rfl, hv1, hB1⟩
          have HV1 := Lib.hid hv1
          clear hv1
          go_wp2_with fail
          refine (HD2.out _).mono ?_
          rintro e w2 ⟨v2, rfl, hv2, hB2⟩
          have HW1 := Lib.hid (HV1.out.below hB2)
          have HW2 := Lib.hid hv2
          have hBa := hB1.trans (hB2.mono hB1.size)
          clear hv2
          go_wp2_with fail
          refine (HDV.out _ _ k l _ HW1.out.dig HW2.out.dig hl0 (by omega) (by omega)).mono ?_
          rintro e w3 ⟨v3, v4, rfl, hv3, hv4, hB3⟩
          have hBb := hBa.trans (hB3.mono hBa.size)
          obtain ⟨pa, pc, rfl, -, -⟩ := owned_len hv4
          have HW3 := Lib.hid (HW2.out.below hB3)
          have HV3 := Lib.hid hv3
          have HV4 := Lib.hid hv4
          clear hv3 hv4
          go_wp2_with fail
          refine (HCC.out _ _ HV3.out.dig).mono ?_
          rintro e w7 ⟨rfl, hB7⟩
          have hBy := hBb.trans (hB7.mono hBb.size)
          go_wp2_with fail
          refine (HTT.out _ _ (DigAt.below HV4.out.dig hB7)).mono ?_
          rintro e w8 ⟨rfl, hB8⟩
          have hBz := hBy.trans (hB8.mono hBy.size)
          go_wp2
          refine bodyPost_ret (v := .tuple #[.string (N3.S (N3.sgn y (k / l))), .string (N3.S ((k % l : Nat) : Int)), .int .i64 0]) (by simp [results, Tryz.results48, go_sem]) rfl ?_
          exact ⟨rfl, hBz⟩
        | true =>
          by_cases hr0 : k % l = 0
          · have hds := N3.div_sgn_down true y k l hl0 (.inr hr0)
            simp only [Bool.false_bne, Bool.true_bne] at hds
            rw [hds.1, hds.2]
            have u1 : (N3.sgn (!y) (k / l)).natAbs < N3.lim := by rw [N3.sgn_abs]; omega
            have u2 : ((k % l : Nat) : Int).natAbs < N3.lim := by rw [Int.natAbs_natCast]; omega
            have HCC := Lib.hid (fun v V (h : DigAt V v (k / l)) => HC.out (!y) v (k / l) V h (by omega))
            rw [N3.outS_some u1, N3.outE_some u1] at HCC
            have HTT := Lib.hid (fun v V (h : DigAt V v (k % l)) => HT.out false v (k % l) V h (by omega))
            rw [show N3.sgn false (k % l) = ((k % l : Nat) : Int) from rfl] at HTT
            rw [N3.outS_some u1, N3.outS_some u2, N3.outE_some u1]
            clear hds u1 u2
            have hl := len_zero10.2 hr0
            go_enter Tryz.func48, Tryz.ntmps48
            go_wp2_with fail
            refine (HA.out _).mono ?_
            rintro e w' ⟨rfl, rfl⟩
            go_wp2_with fail
            refine (HB.out _).mono ?_
            rintro e w' ⟨rfl, rfl⟩
            go_wp2_with fail
            refine (HD1.out _).mono ?_
            rintro e w1 ⟨v1, rfl, hv1, hB1⟩
            have HV1 := Lib.hid hv1
            clear hv1
            go_wp2_with fail
            refine (HD2.out _).mono ?_
            rintro e w2 ⟨v2, rfl, hv2, hB2⟩
            have HW1 := Lib.hid (HV1.out.below hB2)
            have HW2 := Lib.hid hv2
            have hBa := hB1.trans (hB2.mono hB1.size)
            clear hv2
            go_wp2_with fail
            refine (HDV.out _ _ k l _ HW1.out.dig HW2.out.dig hl0 (by omega) (by omega)).mono ?_
            rintro e w3 ⟨v3, v4, rfl, hv3, hv4, hB3⟩
            have hBb := hBa.trans (hB3.mono hBa.size)
            obtain ⟨pa, pc, rfl, -, -⟩ := owned_len hv4
            have HW3 := Lib.hid (HW2.out.below hB3)
            have HV3 := Lib.hid hv3
            have HV4 := Lib.hid hv4
            clear hv3 hv4
            clear hr0
            rw [hl] at HV4
            go_wp2_with fail
            refine (HCC.out _ _ HV3.out.dig).mono ?_
            rintro e w7 ⟨rfl, hB7⟩
            have hBy := hBb.trans (hB7.mono hBb.size)
            go_wp2_with fail
            refine (HTT.out _ _ (DigAt.below HV4.out.dig hB7)).mono ?_
            rintro e w8 ⟨rfl, hB8⟩
            have hBz := hBy.trans (hB8.mono hBy.size)
            go_wp2
            refine bodyPost_ret (v := .tuple #[.string (N3.S (N3.sgn (!y) (k / l))), .string (N3.S ((k % l : Nat) : Int)), .int .i64 0]) (by simp [results, Tryz.results48, go_sem]) rfl ?_
            exact ⟨rfl, hBz⟩
          · have hds := N3.div_sgn_up y k l hl0 hr0
            simp only [Bool.false_bne, Bool.true_bne] at hds
            rw [hds.1, hds.2]
            have hl2 : 2 ≤ l := Classical.byContradiction fun hc => hr0 (by rw [show l = 1 from (by omega)]; exact Nat.mod_one k)
            have hk2 : k / l + 1 ≤ k := by
              have h1 : k / l ≤ k / 2 := Nat.div_le_div_left hl2 (by decide)
              have h2 : k ≠ 0 := fun e => hr0 (by rw [e, Nat.zero_mod])
              have h3 : k ≠ 1 ∨ k / l = 0 := by
                by_cases e : k = 1
                · right; rw [e]; exact Nat.div_eq_of_lt (by omega)
                · exact .inl e
              omega
            have u1 : (N3.sgn (!y) (k / l + 1)).natAbs < N3.lim := by rw [N3.sgn_abs]; omega
            have u2 : ((l - k % l : Nat) : Int).natAbs < N3.lim := by rw [Int.natAbs_natCast]; omega
            have q5 : (D10.toG (k / l + 1)).length ≤ 200 := len_of_lim (by omega)
            have q6 : (D10.toG (l - k % l)).length ≤ 200 := len_of_lim (by omega)
            have q7 : (D10.toG 1).length ≤ 200 := len_of_lim (by decide)
            have HCC := Lib.hid (fun v V (h : DigAt V v (k / l + 1)) => HC.out (!y) v (k / l + 1) V h (by omega))
            rw [N3.outS_some u1, N3.outE_some u1] at HCC
            have HTT := Lib.hid (fun v V (h : DigAt V v (l - k % l)) => HT.out false v (l - k % l) V h (by omega))
            rw [show N3.sgn false (l - k % l) = ((l - k % l : Nat) : Int) from rfl] at HTT
            rw [N3.outS_some u1, N3.outS_some u2, N3.outE_some u1]
            have hl : 0 < (D10.toG (k % l)).length := Nat.pos_of_ne_zero (fun e => hr0 (len_zero10.1 e))
            have HLT := Lib.hid hrl
            clear hds u1 u2 hk2
            go_enter Tryz.func48, Tryz.ntmps48
            go_wp2_with fail
            refine (HA.out _).mono ?_
            rintro e w' ⟨rfl, rfl⟩
            go_wp2_with fail
            refine (HB.out _).mono ?_
            rintro e w' ⟨rfl, rfl⟩
            go_wp2_with fail
            refine (HD1.out _).mono ?_
            rintro e w1 ⟨v1, rfl, hv1, hB1⟩
            have HV1 := Lib.hid hv1
            clear hv1
            go_wp2_with fail
            refine (HD2.out _).mono ?_
            rintro e w2 ⟨v2, rfl, hv2, hB2⟩
            have HW1 := Lib.hid (HV1.out.below hB2)
            have HW2 := Lib.hid hv2
            have hBa := hB1.trans (hB2.mono hB1.size)
            clear hv2
            go_wp2_with fail
            refine (HDV.out _ _ k l _ HW1.out.dig HW2.out.dig hl0 (by omega) (by omega)).mono ?_
            rintro e w3 ⟨v3, v4, rfl, hv3, hv4, hB3⟩
            have hBb := hBa.trans (hB3.mono hBa.size)
            obtain ⟨pa, pc, rfl, -, -⟩ := owned_len hv4
            have HW3 := Lib.hid (HW2.out.below hB3)
            have HV3 := Lib.hid hv3
            have HV4 := Lib.hid hv4
            clear hv3 hv4
            clear hr0
            go_wp2_with fail
            have hBc1 := (Below.refl w3.heap.size w3).alloc (Nat.le_refl _) (.cells #[.int .i64 1] 3)
            refine (HP.out _ _ (k / l) 1 _ (HV3.out.dig.below hBc1) (dig_one w3) (by omega) (by omega) (by omega)).mono ?_
            rintro e w4 ⟨v5, rfl, hv5, hB4⟩
            have hB4' := hBc1.trans (hB4.mono hBc1.size)
            have hBc := hBb.trans (hB4'.mono hBb.size)
            have HV5 := Lib.hid hv5.dig
            have HX2 := Lib.hid (HW3.out.below hB4')
            have HX4 := Lib.hid (HV4.out.below hB4')
            clear hv5
            go_wp2_with fail
            refine (HM.out _ _ l (k % l) _ HX2.out.dig HX4.out.dig (Nat.le_of_lt HLT.out) (by omega) (by omega)).mono ?_
            rintro e w5 ⟨v6, rfl, hv6, hB5⟩
            have hBd := hBc.trans (hB5.mono hBc.size)
            have HV6 := Lib.hid hv6.dig
            have HV7 := Lib.hid (HV5.out.below hB5)
            clear hv6
            go_wp2_with fail
            refine (HCC.out _ _ HV7.out).mono ?_
            rintro e w7 ⟨rfl, hB7⟩
            have hBy := hBd.trans (hB7.mono hBd.size)
            go_wp2_with fail
            refine (HTT.out _ _ (DigAt.below HV6.out hB7)).mono ?_
            rintro e w8 ⟨rfl, hB8⟩
            have hBz := hBy.trans (hB8.mono hBy.size)
            go_wp2
            refine bodyPost_ret (v := .tuple #[.string (N3.S (N3.sgn (!y) (k / l + 1))), .string (N3.S ((l - k % l : Nat) : Int)), .int .i64 0]) (by simp [results, Tryz.results48, go_sem]) rfl ?_
            exact ⟨rfl, hBz⟩

set_option maxRecDepth 100000 in
set_option maxHeartbeats 2000000 in
theorem gcd10 (a b : ByteArray) (w : World) (ha : a.size ≤ 9223372036854775806) (hb : b.size ≤ 9223372036854775806) :
    Calls Tryz.prog 49 #[.string a, .string b] w fun e w' => e = .returned (.tuple #[.string (N3.outS (N3.gcdO a b)), .int .i64 (N3.outE (N3.gcdO a b))]) ∧ Below w.heap.size w w' := by
  have HA := Lib.hid (fun V => valid10 a V ha)
  have HB := Lib.hid (fun V => valid10 b V hb)
  clear ha hb
  cases hoa : N3.okS a with
  | false =>
    have e1 : N3.gcdO a b = none := by unfold N3.gcdO N3.ok2; rw [hoa]; rfl
    rw [e1, out_none'.1, out_none'.2]
    rw [hoa] at HA
    clear hoa e1
    go_enter Tryz.func49, Tryz.ntmps49
    go_wp2_with fail
    refine (HA.out _).mono ?_
    rintro e w' ⟨rfl, rfl⟩
    go_wp2
    go_ret2
    exact ⟨rfl, Below.refl _ _⟩
  | true =>
    cases hob : N3.okS b with
    | false =>
      have e1 : N3.gcdO a b = none := by unfold N3.gcdO N3.ok2; rw [hoa, hob]; rfl
      rw [e1, out_none'.1, out_none'.2]
      rw [hoa] at HA
      rw [hob] at HB
      clear hoa hob e1
      go_enter Tryz.func49, Tryz.ntmps49
      go_wp2_with fail
      refine (HA.out _).mono ?_
      rintro e w' ⟨rfl, rfl⟩
      go_wp2_with fail
      refine (HB.out _).mono ?_
      rintro e w' ⟨rfl, rfl⟩
      go_wp2
      go_ret2
      exact ⟨rfl, Below.refl _ _⟩
    | true =>
      have e1 : N3.gcdO a b = some (N3.gcdI (N3.iV a) (N3.iV b)) := by unfold N3.gcdO N3.ok2; rw [hoa, hob]; rfl
      rw [e1, show N3.gcdI (N3.iV a) (N3.iV b) = N3.sgn false (Nat.gcd (magS a) (magS b)) from rfl]
      have m1 := mag_lim hoa
      have m2 := mag_lim hob
      have HD1 := Lib.hid (fun V => digits10 a V hoa)
      have HD2 := Lib.hid (fun V => digits10 b V hob)
      rw [hoa] at HA
      rw [hob] at HB
      clear hoa hob e1
      generalize negS a = x at *
      generalize negS b = y at *
      generalize magS a = k at *
      generalize magS b = l at *
      have HDV := Lib.hid divided10
      have HC := Lib.hid checked10
      have q1 := len_of_lim m1
      have q2 := len_of_lim m2
      go_enter Tryz.func49, Tryz.ntmps49
      go_wp2_with fail
      refine (HA.out _).mono ?_
      rintro e w' ⟨rfl, rfl⟩
      go_wp2_with fail
      refine (HB.out _).mono ?_
      rintro e w' ⟨rfl, rfl⟩
      go_wp2_with fail
      refine (HD1.out _).mono ?_
      rintro e w1 ⟨v1, rfl, hv1, hB1⟩
      have HV1 := Lib.hid hv1
      clear hv1
      go_wp2_with fail
      refine (HD2.out _).mono ?_
      rintro e w2 ⟨v2, rfl, hv2, hB2⟩
      have HW1 := Lib.hid (HV1.out.below hB2)
      have HW2 := Lib.hid hv2
      have hBa := hB1.trans (hB2.mono hB1.size)
      clear hv2
      go_wp2_with fail
      go_loopw [7, 9, 10, 11] (fun u7 u9 _ _ wr => ∃ (n m : Nat), DigAt wr u7 n ∧ DigAt wr u9 m ∧ Nat.gcd n m = Nat.gcd k l ∧ n < N3.lim ∧ m < N3.lim ∧ Below w.heap.size w wr) (fun _ u9 _ _ wr => digOf wr u9)
      case atStart => exact ⟨k, l, HW1.out.dig, HW2.out.dig, rfl, m1, m2, hBa⟩
      case round =>
        obtain ⟨n, m, hn, hm, hg, b1, b2, hBr⟩ := hrel
        rename World => wr
        have HN := Lib.hid hn
        have HM := Lib.hid hm
        have HG := Lib.hid hg
        have HDG := Lib.hid (digOf_eq hm)
        have r1 := len_of_lim b1
        have r2 := len_of_lim b2
        obtain ⟨ca, cc, rfl, -, -⟩ := (show IntsAt wr _ _ from hm).len
        rw [castL_len] at *
        clear hn hm hg
        by_cases hm0 : m = 0
        · have hl := len_zero10.2 hm0
          have HE := Lib.hid (show Nat.gcd k l = n by rw [← HG.out, hm0, Nat.gcd_zero_right])
          rw [hl]
          clear hm0
          have HCC := Lib.hid (HC.out false _ n _ HN.out (by omega))
          rw [← HE.out] at HCC
          go_wp2_with fail
          refine (HCC.out).mono ?_
          rintro e w3 ⟨rfl, hB3⟩
          have hB := hBr.trans (hB3.mono hBr.size)
          go_wp2
          go_ret2
          exact ⟨rfl, hB⟩
        · have hl : 0 < (D10.toG m).length := Nat.pos_of_ne_zero (fun e => hm0 (len_zero10.1 e))
          have hmp : 0 < m := Nat.pos_of_ne_zero hm0
          have HLT := Lib.hid (Nat.mod_lt n hmp)
          have HGG := Lib.hid (show Nat.gcd m (n % m) = Nat.gcd k l by rw [← HG.out, Nat.gcd_comm n m, Nat.gcd_rec m n, Nat.gcd_comm])
          clear hm0
          go_wp2_with fail
          refine (HDV.out _ _ n m _ HN.out HM.out hmp (by omega) (by omega)).mono ?_
          rintro e w3 ⟨v3, v4, rfl, hv3, hv4, hB3⟩
          have HV4 := Lib.hid hv4.dig
          have HM3 := Lib.hid (HM.out.below hB3)
          have hB := hBr.trans (hB3.mono hBr.size)
          have HD4 := Lib.hid (digOf_eq hv4.dig)
          clear hv3 hv4
          go_wp2_with fail
          go_roundw
          case rel => exact ⟨m, n % m, HM3.out, HV4.out, HGG.out, b2, Nat.lt_trans HLT.out b2, hB⟩
          case measure => (show digOf _ _ < digOf _ _); rw [HD4.out, HDG.out]; exact HLT.out

end Go.Proofs.YtjnpenljgfdaiaaGreatDoor

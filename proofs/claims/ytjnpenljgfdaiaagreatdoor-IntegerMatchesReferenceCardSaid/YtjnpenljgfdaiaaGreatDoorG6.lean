/- package nadirref03: sums, differences, products, the order. -/
import Derived.Test.YtjnpenljgfdaiaaGreatDoorG5
import Derived.Test.YtjnpenljgfdaiaaGreatDoorG4
namespace Go.Proofs.YtjnpenljgfdaiaaGreatDoor
open Go.RowKit Go.Shelf Lib

theorem lim10 : N3.lim = 10 ^ 200 := rfl
theorem len_of_lim {n : Nat} (h : n < N3.lim) : (D10.toG n).length ≤ 200 := D10.toG_len_le h
theorem len_add {n m : Nat} (h : n < N3.lim) (k : m < N3.lim) : (D10.toG (n + m)).length ≤ 201 := D10.toG_len_le (by
  rw [lim10] at h k
  rw [show (201 : Nat) = 200 + 1 from rfl, Nat.pow_succ]
  omega)
theorem len_times10 (n m : Nat) : (D10.toG (n * m)).length ≤ (D10.toG n).length + (D10.toG m).length := D10.toG_len_le (by
  rw [Nat.pow_add]
  exact Nat.mul_lt_mul'' (D10.lt_pow n) (D10.lt_pow m))
theorem mag_lim {s : ByteArray} (h : N3.okS s = true) : magS s < N3.lim := N3.iV_lim h
set_option maxRecDepth 100000 in
set_option maxHeartbeats 2000000 in
theorem checked10 (b : Bool) (v : Value) (n : Nat) (w : World) (h1 : DigAt w v n) (l1 : (D10.toG n).length ≤ 100000) :
    Calls Tryz.prog 96 #[.bool b, v] w fun e w' => e = .returned (.tuple #[.string (N3.outS (some (N3.sgn b n))), .int .i64 (N3.outE (some (N3.sgn b n)))]) ∧ Below w.heap.size w w' := by
  have ht := text10_any b v n w h1 l1
  clear h1
  by_cases h : n < N3.lim
  · have h2 : (N3.sgn b n).natAbs < N3.lim := by rw [N3.sgn_abs]; exact h
    rw [N3.outS_some h2, N3.outE_some h2]
    rw [decide_eq_true h] at ht
    have HT := Lib.hid ht
    clear ht h2 h
    generalize N3.S (N3.sgn b n) = s at *
    go_enter Tryz.func96, Tryz.ntmps96
    go_wp2_with fail
    refine HT.out.mono ?_
    rintro e w' ⟨rfl, hB⟩
    go_wp2
    go_ret2
    exact ⟨rfl, hB⟩
  · have h2 : ¬ (N3.sgn b n).natAbs < N3.lim := by rw [N3.sgn_abs]; exact h
    rw [N3.outS_big h2, N3.outE_big h2]
    rw [decide_eq_false h] at ht
    have HT := Lib.hid ht
    clear ht h2 h
    generalize N3.S (N3.sgn b n) = s at *
    go_enter Tryz.func96, Tryz.ntmps96
    go_wp2_with fail
    refine HT.out.mono ?_
    rintro e w' ⟨rfl, hB⟩
    go_wp2
    go_ret2
    exact ⟨rfl, hB⟩

set_option maxRecDepth 100000 in
set_option maxHeartbeats 2000000 in
theorem sum10 (x y : Bool) (v1 v2 : Value) (k l : Nat) (w : World) (h1 : DigAt w v1 k) (h2 : DigAt w v2 l) (b1 : k < N3.lim) (b2 : l < N3.lim) :
    Calls Tryz.prog 95 #[.bool x, v1, .bool y, v2] w fun e w' => e = .returned (.tuple #[.string (N3.outS (some (N3.sgn x k + N3.sgn y l))), .int .i64 (N3.outE (some (N3.sgn x k + N3.sgn y l)))]) ∧ Below w.heap.size w w' := by
  have H1 := Lib.hid h1
  have H2 := Lib.hid h2
  have q1 := len_of_lim b1
  have q2 := len_of_lim b2
  have q3 := len_add b1 b2
  have HC := Lib.hid checked10
  have HP := Lib.hid plus10
  have HM := Lib.hid minus10
  have HO := Lib.hid order10
  clear h1 h2
  by_cases hxy : x = y
  · subst hxy
    rw [N3.sgn_add_same]
    have hq : (x == x) = true := by cases x <;> rfl
    clear b1 b2
    go_enter Tryz.func95, Tryz.ntmps95
    go_wp2_with fail
    refine (HP.out _ _ k l _ H1.out H2.out (by omega) (by omega) (by omega)).mono ?_
    rintro e w2 ⟨v2, rfl, hv2, hB2⟩
    have HV := Lib.hid hv2.dig
    clear hv2
    go_wp2_with fail
    refine (HC.out x _ (k + l) _ HV.out (by omega)).mono ?_
    rintro e w3 ⟨rfl, hB3⟩
    have hB := hB2.trans (hB3.mono hB2.size)
    go_wp2
    go_ret2
    exact ⟨rfl, hB⟩
  · have hq : (x == y) = false := beq_eq_false_iff_ne.2 hxy
    by_cases hkl : l ≤ k
    · rw [N3.sgn_add_ge hxy hkl]
      have hz : 0 ≤ N3.cmpI (k : Int) (l : Int) := by unfold N3.cmpI; (repeat' split) <;> omega
      have q4 : (D10.toG (k - l)).length ≤ 200 := len_of_lim (by omega)
      clear b1 b2 hxy
      go_enter Tryz.func95, Tryz.ntmps95
      go_wp2_with fail
      refine (HO.out _ _ k l _ H1.out H2.out (by omega) (by omega)).mono ?_
      rintro e w1 ⟨rfl, hB1⟩
      generalize N3.cmpI (k : Int) (l : Int) = z at *
      go_wp2_with fail
      refine (HM.out _ _ k l _ (H1.out.below hB1) (H2.out.below hB1) hkl (by omega) (by omega)).mono ?_
      rintro e w2 ⟨v2, rfl, hv2, hB2⟩
      have HV := Lib.hid hv2.dig
      clear hv2
      go_wp2_with fail
      refine (HC.out x _ (k - l) _ HV.out (by omega)).mono ?_
      rintro e w3 ⟨rfl, hB3⟩
      have hB := hB1.trans ((hB2.trans (hB3.mono hB2.size)).mono hB1.size)
      go_wp2
      go_ret2
      exact ⟨rfl, hB⟩
    · rw [N3.sgn_add_lt hxy (by omega)]
      have hz : ¬ 0 ≤ N3.cmpI (k : Int) (l : Int) := by unfold N3.cmpI; (repeat' split) <;> omega
      have hz2 : N3.cmpI (k : Int) (l : Int) < 0 := by omega
      have q4 : (D10.toG (l - k)).length ≤ 200 := len_of_lim (by omega)
      clear b1 b2 hxy
      go_enter Tryz.func95, Tryz.ntmps95
      go_wp2_with fail
      refine (HO.out _ _ k l _ H1.out H2.out (by omega) (by omega)).mono ?_
      rintro e w1 ⟨rfl, hB1⟩
      generalize N3.cmpI (k : Int) (l : Int) = z at *
      go_wp2_with fail
      refine (HM.out _ _ l k _ (H2.out.below hB1) (H1.out.below hB1) (by omega) (by omega) (by omega)).mono ?_
      rintro e w2 ⟨v2, rfl, hv2, hB2⟩
      have HV := Lib.hid hv2.dig
      clear hv2
      go_wp2_with fail
      refine (HC.out y _ (l - k) _ HV.out (by omega)).mono ?_
      rintro e w3 ⟨rfl, hB3⟩
      have hB := hB1.trans ((hB2.trans (hB3.mono hB2.size)).mono hB1.size)
      go_wp2
      go_ret2
      exact ⟨rfl, hB⟩

theorem out_none' : N3.outS none = ⟨#[]⟩ ∧ N3.outE none = 30 := ⟨rfl, rfl⟩

set_option maxRecDepth 100000 in
set_option maxHeartbeats 2000000 in
theorem add10 (a b : ByteArray) (w : World) (ha : a.size ≤ 9223372036854775806) (hb : b.size ≤ 9223372036854775806) :
    Calls Tryz.prog 45 #[.string a, .string b] w fun e w' => e = .returned (.tuple #[.string (N3.outS (N3.addO a b)), .int .i64 (N3.outE (N3.addO a b))]) ∧ Below w.heap.size w w' := by
  have HA := Lib.hid (fun V => valid10 a V ha)
  have HB := Lib.hid (fun V => valid10 b V hb)
  clear ha hb
  cases hoa : N3.okS a with
  | false =>
    have e1 : N3.addO a b = none := by unfold N3.addO N3.ok2; rw [hoa]; rfl
    rw [e1, out_none'.1, out_none'.2]
    rw [hoa] at HA
    clear hoa e1
    go_enter Tryz.func45, Tryz.ntmps45
    go_wp2_with fail
    refine (HA.out _).mono ?_
    rintro e w' ⟨rfl, rfl⟩
    go_wp2
    go_ret2
    exact ⟨rfl, Below.refl _ _⟩
  | true =>
    cases hob : N3.okS b with
    | false =>
      have e1 : N3.addO a b = none := by unfold N3.addO N3.ok2; rw [hoa, hob]; rfl
      rw [e1, out_none'.1, out_none'.2]
      rw [hoa] at HA
      rw [hob] at HB
      clear hoa hob e1
      go_enter Tryz.func45, Tryz.ntmps45
      go_wp2_with fail
      refine (HA.out _).mono ?_
      rintro e w' ⟨rfl, rfl⟩
      go_wp2_with fail
      refine (HB.out _).mono ?_
      rintro e w' ⟨rfl, rfl⟩
      go_wp2
      go_ret2
      exact ⟨rfl, Below.refl _ _⟩
    | true =>
      have e1 : N3.addO a b = some (N3.iV a + N3.iV b) := by unfold N3.addO N3.ok2; rw [hoa, hob]; rfl
      rw [e1, (neg_mag (s := a)).1, (neg_mag (s := b)).1]
      have m1 := mag_lim hoa
      have m2 := mag_lim hob
      have HD1 := Lib.hid (fun V => digits10 a V hoa)
      have HD2 := Lib.hid (fun V => digits10 b V hob)
      rw [hoa] at HA
      rw [hob] at HB
      clear hoa hob e1
      generalize negS a = x at *
      generalize negS b = y at *
      generalize magS a = k at *
      generalize magS b = l at *
      have HS := Lib.hid sum10
      go_enter Tryz.func45, Tryz.ntmps45
      go_wp2_with fail
      refine (HA.out _).mono ?_
      rintro e w' ⟨rfl, rfl⟩
      go_wp2_with fail
      refine (HB.out _).mono ?_
      rintro e w' ⟨rfl, rfl⟩
      go_wp2_with fail
      refine (HD1.out _).mono ?_
      rintro e w1 ⟨v1, rfl, hv1, hB1⟩
      have HV1 := Lib.hid hv1
      clear hv1
      go_wp2_with fail
      refine (HD2.out _).mono ?_
      rintro e w2 ⟨v2, rfl, hv2, hB2⟩
      have HW1 := Lib.hid (HV1.out.below hB2)
      have HW2 := Lib.hid hv2
      have hBa := hB1.trans (hB2.mono hB1.size)
      clear hv2
      go_wp2_with fail
      refine (HS.out x y _ _ k l _ HW1.out.dig HW2.out.dig m1 m2).mono ?_
      rintro e w3 ⟨rfl, hB3⟩
      have hB := hBa.trans (hB3.mono hBa.size)
      go_wp2
      go_ret2
      exact ⟨rfl, hB⟩

set_option maxRecDepth 100000 in
set_option maxHeartbeats 2000000 in
theorem sub10 (a b : ByteArray) (w : World) (ha : a.size ≤ 9223372036854775806) (hb : b.size ≤ 9223372036854775806) :
    Calls Tryz.prog 46 #[.string a, .string b] w fun e w' => e = .returned (.tuple #[.string (N3.outS (N3.subO a b)), .int .i64 (N3.outE (N3.subO a b))]) ∧ Below w.heap.size w w' := by
  have HA := Lib.hid (fun V => valid10 a V ha)
  have HB := Lib.hid (fun V => valid10 b V hb)
  clear ha hb
  cases hoa : N3.okS a with
  | false =>
    have e1 : N3.subO a b = none := by unfold N3.subO N3.ok2; rw [hoa]; rfl
    rw [e1, out_none'.1, out_none'.2]
    rw [hoa] at HA
    clear hoa e1
    go_enter Tryz.func46, Tryz.ntmps46
    go_wp2_with fail
    refine (HA.out _).mono ?_
    rintro e w' ⟨rfl, rfl⟩
    go_wp2
    go_ret2
    exact ⟨rfl, Below.refl _ _⟩
  | true =>
    cases hob : N3.okS b with
    | false =>
      have e1 : N3.subO a b = none := by unfold N3.subO N3.ok2; rw [hoa, hob]; rfl
      rw [e1, out_none'.1, out_none'.2]
      rw [hoa] at HA
      rw [hob] at HB
      clear hoa hob e1
      go_enter Tryz.func46, Tryz.ntmps46
      go_wp2_with fail
      refine (HA.out _).mono ?_
      rintro e w' ⟨rfl, rfl⟩
      go_wp2_with fail
      refine (HB.out _).mono ?_
      rintro e w' ⟨rfl, rfl⟩
      go_wp2
      go_ret2
      exact ⟨rfl, Below.refl _ _⟩
    | true =>
      have e1 : N3.subO a b = some (N3.iV a - N3.iV b) := by unfold N3.subO N3.ok2; rw [hoa, hob]; rfl
      rw [e1, (neg_mag (s := a)).1, (neg_mag (s := b)).1]
      have m1 := mag_lim hoa
      have m2 := mag_lim hob
      have HD1 := Lib.hid (fun V => digits10 a V hoa)
      have HD2 := Lib.hid (fun V => digits10 b V hob)
      rw [hoa] at HA
      rw [hob] at HB
      clear hoa hob e1
      generalize negS a = x at *
      generalize negS b = y at *
      generalize magS a = k at *
      generalize magS b = l at *
      rw [Int.sub_eq_add_neg, N3.sgn_neg]
      have HS := Lib.hid sum10
      go_enter Tryz.func46, Tryz.ntmps46
      go_wp2_with fail
      refine (HA.out _).mono ?_
      rintro e w' ⟨rfl, rfl⟩
      go_wp2_with fail
      refine (HB.out _).mono ?_
      rintro e w' ⟨rfl, rfl⟩
      go_wp2_with fail
      refine (HD1.out _).mono ?_
      rintro e w1 ⟨v1, rfl, hv1, hB1⟩
      have HV1 := Lib.hid hv1
      clear hv1
      go_wp2_with fail
      refine (HD2.out _).mono ?_
      rintro e w2 ⟨v2, rfl, hv2, hB2⟩
      have HW1 := Lib.hid (HV1.out.below hB2)
      have HW2 := Lib.hid hv2
      have hBa := hB1.trans (hB2.mono hB1.size)
      clear hv2
      go_wp2_with fail
      refine (HS.out x (!y) _ _ k l _ HW1.out.dig HW2.out.dig m1 m2).mono ?_
      rintro e w3 ⟨rfl, hB3⟩
      have hB := hBa.trans (hB3.mono hBa.size)
      go_wp2
      go_ret2
      exact ⟨rfl, hB⟩

set_option maxRecDepth 100000 in
set_option maxHeartbeats 2000000 in
theorem mul10 (a b : ByteArray) (w : World) (ha : a.size ≤ 9223372036854775806) (hb : b.size ≤ 9223372036854775806) :
    Calls Tryz.prog 47 #[.string a, .string b] w fun e w' => e = .returned (.tuple #[.string (N3.outS (N3.mulO a b)), .int .i64 (N3.outE (N3.mulO a b))]) ∧ Below w.heap.size w w' := by
  have HA := Lib.hid (fun V => valid10 a V ha)
  have HB := Lib.hid (fun V => valid10 b V hb)
  clear ha hb
  cases hoa : N3.okS a with
  | false =>
    have e1 : N3.mulO a b = none := by unfold N3.mulO N3.ok2; rw [hoa]; rfl
    rw [e1, out_none'.1, out_none'.2]
    rw [hoa] at HA
    clear hoa e1
    go_enter Tryz.func47, Tryz.ntmps47
    go_wp2_with fail
    refine (HA.out _).mono ?_
    rintro e w' ⟨rfl, rfl⟩
    go_wp2
    go_ret2
    exact ⟨rfl, Below.refl _ _⟩
  | true =>
    cases hob : N3.okS b with
    | false =>
      have e1 : N3.mulO a b = none := by unfold N3.mulO N3.ok2; rw [hoa, hob]; rfl
      rw [e1, out_none'.1, out_none'.2]
      rw [hoa] at HA
      rw [hob] at HB
      clear hoa hob e1
      go_enter Tryz.func47, Tryz.ntmps47
      go_wp2_with fail
      refine (HA.out _).mono ?_
      rintro e w' ⟨rfl, rfl⟩
      go_wp2_with fail
      refine (HB.out _).mono ?_
      rintro e w' ⟨rfl, rfl⟩
      go_wp2
      go_ret2
      exact ⟨rfl, Below.refl _ _⟩
    | true =>
      have e1 : N3.mulO a b = some (N3.iV a * N3.iV b) := by unfold N3.mulO N3.ok2; rw [hoa, hob]; rfl
      rw [e1, (neg_mag (s := a)).1, (neg_mag (s := b)).1]
      have m1 := mag_lim hoa
      have m2 := mag_lim hob
      have HD1 := Lib.hid (fun V => digits10 a V hoa)
      have HD2 := Lib.hid (fun V => digits10 b V hob)
      rw [hoa] at HA
      rw [hob] at HB
      clear hoa hob e1
      generalize negS a = x at *
      generalize negS b = y at *
      generalize magS a = k at *
      generalize magS b = l at *
      rw [N3.sgn_mul]
      have HP := Lib.hid times10
      have HC := Lib.hid checked10
      have q1 := len_of_lim m1
      have q2 := len_of_lim m2
      have q3 := len_times10 k l
      go_enter Tryz.func47, Tryz.ntmps47
      go_wp2_with fail
      refine (HA.out _).mono ?_
      rintro e w' ⟨rfl, rfl⟩
      go_wp2_with fail
      refine (HB.out _).mono ?_
      rintro e w' ⟨rfl, rfl⟩
      go_wp2_with fail
      refine (HD1.out _).mono ?_
      rintro e w1 ⟨v1, rfl, hv1, hB1⟩
      have HV1 := Lib.hid hv1
      clear hv1
      go_wp2_with fail
      refine (HD2.out _).mono ?_
      rintro e w2 ⟨v2, rfl, hv2, hB2⟩
      have HW1 := Lib.hid (HV1.out.below hB2)
      have HW2 := Lib.hid hv2
      have hBa := hB1.trans (hB2.mono hB1.size)
      clear hv2
      go_wp2_with fail
      refine (HP.out _ _ k l _ HW1.out.dig HW2.out.dig (by omega) (by omega)).mono ?_
      rintro e w4 ⟨v4, rfl, hv4, hB4⟩
      have HV4 := Lib.hid hv4.dig
      have hBb := hBa.trans (hB4.mono hBa.size)
      clear hv4
      go_wp2_with fail
      refine (HC.out (x != y) _ (k * l) _ HV4.out (by omega)).mono ?_
      rintro e w3 ⟨rfl, hB3⟩
      have hB := hBb.trans (hB3.mono hBb.size)
      go_wp2
      go_ret2
      exact ⟨rfl, hB⟩

theorem neg_pos10 {s : ByteArray} (h : N3.okS s = true) : negS s = true → 0 < magS s := by
  intro hn
  have h1 : s.data.toList.head? = some 45 := by unfold negS at hn; exact of_decide_eq_true hn
  have hb : N3.bare s.data.toList ≠ [48] := fun hb => by have := okT_bad h1 hb; unfold N3.okS at h; rw [this] at h; cases h
  have hT : okT (N3.bare s.data.toList) = true := by rw [← okT_bare (fun _ => hb)]; exact h
  unfold okT at hT
  simp only [Bool.and_eq_true, Bool.or_eq_true, decide_eq_true_eq] at hT
  have hh := hT.2.2.2.resolve_left hb
  refine Nat.pos_of_ne_zero fun e => ?_
  rw [neg_mag.2] at e
  have e2 := N3.digs_toG hT.2.2.1 hh
  rw [e, D10.toG_zero] at e2
  have e3 := congrArg List.length e2
  unfold N3.digs at e3
  rw [List.length_map, List.length_reverse] at e3
  have := hT.1
  simp at e3
  rw [e3] at this
  exact absurd this (by decide)

set_option maxRecDepth 100000 in
set_option maxHeartbeats 2000000 in
theorem compare10 (a b : ByteArray) (w : World) (ha : a.size ≤ 9223372036854775806) (hb : b.size ≤ 9223372036854775806) :
    Calls Tryz.prog 54 #[.string a, .string b] w fun e w' => e = .returned (.int .i64 (N3.cmpS a b)) ∧ Below w.heap.size w w' := by
  have HA := Lib.hid (fun V => valid10 a V ha)
  have HB := Lib.hid (fun V => valid10 b V hb)
  clear ha hb
  cases hoa : N3.okS a with
  | false =>
    have e1 : N3.cmpS a b = 0 := by unfold N3.cmpS N3.ok2; rw [hoa]; rfl
    rw [e1]
    rw [hoa] at HA
    clear hoa e1
    go_enter Tryz.func54, Tryz.ntmps54
    go_wp2_with fail
    refine (HA.out _).mono ?_
    rintro e w' ⟨rfl, rfl⟩
    go_wp2
    go_ret
    exact ⟨rfl, Below.refl _ _⟩
  | true =>
    cases hob : N3.okS b with
    | false =>
      have e1 : N3.cmpS a b = 0 := by unfold N3.cmpS N3.ok2; rw [hoa, hob]; rfl
      rw [e1]
      rw [hoa] at HA
      rw [hob] at HB
      clear hoa hob e1
      go_enter Tryz.func54, Tryz.ntmps54
      go_wp2_with fail
      refine (HA.out _).mono ?_
      rintro e w' ⟨rfl, rfl⟩
      go_wp2_with fail
      refine (HB.out _).mono ?_
      rintro e w' ⟨rfl, rfl⟩
      go_wp2
      go_ret
      exact ⟨rfl, Below.refl _ _⟩
    | true =>
      have e1 : N3.cmpS a b = N3.cmpI (N3.iV a) (N3.iV b) := by unfold N3.cmpS N3.ok2; rw [hoa, hob]; rfl
      rw [e1, (neg_mag (s := a)).1, (neg_mag (s := b)).1]
      have m1 := mag_lim hoa
      have m2 := mag_lim hob
      have p1 := neg_pos10 hoa
      have p2 := neg_pos10 hob
      have HD1 := Lib.hid (fun V => digits10 a V hoa)
      have HD2 := Lib.hid (fun V => digits10 b V hob)
      rw [hoa] at HA
      rw [hob] at HB
      clear hoa hob e1
      generalize negS a = x at *
      generalize negS b = y at *
      generalize magS a = k at *
      generalize magS b = l at *
      have HO := Lib.hid order10
      have q1 := len_of_lim m1
      have q2 := len_of_lim m2
      cases x <;> cases y
      · have e2 : N3.cmpI (N3.sgn false k) (N3.sgn false l) = N3.cmpI (k : Int) (l : Int) := rfl
        rw [e2]
        clear e2 m1 m2 p1 p2
        go_enter Tryz.func54, Tryz.ntmps54
        go_wp2_with fail
        refine (HA.out _).mono ?_
        rintro e w' ⟨rfl, rfl⟩
        go_wp2_with fail
        refine (HB.out _).mono ?_
        rintro e w' ⟨rfl, rfl⟩
        go_wp2_with fail
        refine (HD1.out _).mono ?_
        rintro e w1 ⟨v1, rfl, hv1, hB1⟩
        have HV1 := Lib.hid hv1
        clear hv1
        go_wp2_with fail
        refine (HD2.out _).mono ?_
        rintro e w2 ⟨v2, rfl, hv2, hB2⟩
        have HW1 := Lib.hid (HV1.out.below hB2)
        have HW2 := Lib.hid hv2
        have hBa := hB1.trans (hB2.mono hB1.size)
        clear hv2
        go_wp2_with fail
        refine (HO.out _ _ k l _ HW1.out.dig HW2.out.dig (by omega) (by omega)).mono ?_
        rintro e w3 ⟨rfl, hB3⟩
        have hB := hBa.trans (hB3.mono hBa.size)
        go_wp2
        go_ret
        exact ⟨rfl, hB⟩
      · have e2 : N3.cmpI (N3.sgn false k) (N3.sgn true l) = 1 := by have := p2 rfl; unfold N3.cmpI N3.sgn; simp; omega
        rw [e2]
        clear e2 m1 m2 p1 p2
        go_enter Tryz.func54, Tryz.ntmps54
        go_wp2_with fail
        refine (HA.out _).mono ?_
        rintro e w' ⟨rfl, rfl⟩
        go_wp2_with fail
        refine (HB.out _).mono ?_
        rintro e w' ⟨rfl, rfl⟩
        go_wp2_with fail
        refine (HD1.out _).mono ?_
        rintro e w1 ⟨v1, rfl, hv1, hB1⟩
        have HV1 := Lib.hid hv1
        clear hv1
        go_wp2_with fail
        refine (HD2.out _).mono ?_
        rintro e w2 ⟨v2, rfl, hv2, hB2⟩
        have HW1 := Lib.hid (HV1.out.below hB2)
        have HW2 := Lib.hid hv2
        have hBa := hB1.trans (hB2.mono hB1.size)
        clear hv2
        go_wp2_with fail
        go_ret
        exact ⟨rfl, hBa⟩
      · have e2 : N3.cmpI (N3.sgn true k) (N3.sgn false l) = -1 := by have := p1 rfl; unfold N3.cmpI N3.sgn; simp; omega
        rw [e2]
        clear e2 m1 m2 p1 p2
        go_enter Tryz.func54, Tryz.ntmps54
        go_wp2_with fail
        refine (HA.out _).mono ?_
        rintro e w' ⟨rfl, rfl⟩
        go_wp2_with fail
        refine (HB.out _).mono ?_
        rintro e w' ⟨rfl, rfl⟩
        go_wp2_with fail
        refine (HD1.out _).mono ?_
        rintro e w1 ⟨v1, rfl, hv1, hB1⟩
        have HV1 := Lib.hid hv1
        clear hv1
        go_wp2_with fail
        refine (HD2.out _).mono ?_
        rintro e w2 ⟨v2, rfl, hv2, hB2⟩
        have HW1 := Lib.hid (HV1.out.below hB2)
        have HW2 := Lib.hid hv2
        have hBa := hB1.trans (hB2.mono hB1.size)
        clear hv2
        go_wp2_with fail
        go_ret
        exact ⟨rfl, hBa⟩
      · have e2 : N3.cmpI (N3.sgn true k) (N3.sgn true l) = N3.cmpI (l : Int) (k : Int) := by unfold N3.cmpI N3.sgn; simp
        rw [e2]
        clear e2 m1 m2 p1 p2
        go_enter Tryz.func54, Tryz.ntmps54
        go_wp2_with fail
        refine (HA.out _).mono ?_
        rintro e w' ⟨rfl, rfl⟩
        go_wp2_with fail
        refine (HB.out _).mono ?_
        rintro e w' ⟨rfl, rfl⟩
        go_wp2_with fail
        refine (HD1.out _).mono ?_
        rintro e w1 ⟨v1, rfl, hv1, hB1⟩
        have HV1 := Lib.hid hv1
        clear hv1
        go_wp2_with fail
        refine (HD2.out _).mono ?_
        rintro e w2 ⟨v2, rfl, hv2, hB2⟩
        have HW1 := Lib.hid (HV1.out.below hB2)
        have HW2 := Lib.hid hv2
        have hBa := hB1.trans (hB2.mono hB1.size)
        clear hv2
        go_wp2_with fail
        refine (HO.out _ _ l k _ HW2.out.dig HW1.out.dig (by omega) (by omega)).mono ?_
        rintro e w3 ⟨rfl, hB3⟩
        have hB := hBa.trans (hB3.mono hBa.size)
        go_wp2
        go_ret
        exact ⟨rfl, hB⟩

end Go.Proofs.YtjnpenljgfdaiaaGreatDoor

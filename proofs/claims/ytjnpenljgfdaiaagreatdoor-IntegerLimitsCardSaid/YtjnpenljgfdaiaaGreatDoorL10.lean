/- nadirlaw03: IntegerLimits. -/
import Derived.Test.YtjnpenljgfdaiaaGreatDoorLK
namespace Go.Proofs.YtjnpenljgfdaiaaGreatDoor
open Go.RowKit Go.Shelf Lib

theorem i64_bd {x : Int} (h : (Lit.int .i64 x).wf = true) : -9223372036854775808 ≤ x ∧ x ≤ 9223372036854775807 := by
  simp [Lit.wf, IntKind.min, IntKind.max, IntKind.signed, IntKind.bits] at h
  exact ⟨by omega, by omega⟩
def nineB (n : Nat) : ByteArray := ⟨(N3.ninesL n).toArray⟩
theorem nineB_size (n : Nat) : (nineB n).size = n := by show (N3.ninesL n).length = n; unfold N3.ninesL; rw [List.length_replicate]
theorem nineB_succ (n : Nat) : nineB n ++ ⟨#[57]⟩ = nineB (n + 1) := bytes_ext (by unfold nineB; rw [N3.ninesL_succ]; simp)
theorem nineB_S (n : Nat) (h : n ≠ 0) : nineB n = N3.S ((10 ^ n - 1 : Nat) : Int) := by unfold nineB N3.S; rw [N3.itoa_nat, N3.nines_dig n h]
theorem one_nineB (n : Nat) : (⟨#[49]⟩ : ByteArray) ++ nineB n = N3.S ((2 * 10 ^ n - 1 : Nat) : Int) := bytes_ext (by unfold nineB N3.S; rw [N3.itoa_nat, N3.one_nines_dig n]; simp)
theorem neg_nineB (n : Nat) (h : n ≠ 0) : (⟨#[45]⟩ : ByteArray) ++ nineB n = N3.S (-((10 ^ n - 1 : Nat) : Int)) := bytes_ext (by
  have hp : 1 < 10 ^ n := Nat.one_lt_pow h (by decide)
  unfold nineB N3.S itoa
  rw [if_pos (by omega), Int.natAbs_neg, Int.natAbs_natCast, N3.nines_dig n h]
  simp)
theorem nine_bad : N3.okS (nineB 201) = false := by
  cases hk : N3.okS (nineB 201) with
  | false => rfl
  | true =>
    have hb := (okS_bare hk).2.1
    have e : N3.bare (nineB 201).data.toList = N3.ninesL 201 := by
      unfold N3.bare
      exact if_neg (by decide)
    rw [e] at hb
    unfold N3.ninesL at hb
    rw [List.length_replicate] at hb
    omega
set_option maxRecDepth 100000 in
set_option maxHeartbeats 4000000 in
theorem nines_any (n : Nat) (w : World) (hn : n ≤ 200) :
    Calls Tryz.prog 42 #[.int .i64 (n : Int)] w fun e w' => e = .returned (.string (nineB n)) ∧ w = w' := by
  have hz : nineB 0 = ⟨#[]⟩ := rfl
  go_enter Tryz.func42, Tryz.ntmps42
  go_wp2_with fail
  go_loopw [3, 4] (fun u3 u4 wr => ∃ k : Nat, k ≤ n ∧ u3 = .string (nineB k) ∧ u4 = .int .i64 (k : Int) ∧ w = wr) (fun _ u4 _ => (n - Go.RowKit.intOf u4).toNat)
  case atStart => exact ⟨0, Nat.zero_le _, by first | rfl | trivial, by first | rfl | trivial, by first | rfl | trivial⟩
  case round =>
    obtain ⟨k, hk, rfl, rfl, rfl⟩ := hrel
    by_cases hkn : k < n
    · have hki : (k : Int) < (n : Int) := by omega
      have hw1 : IntKind.i64.wrap ((k : Int) + 1) = ((k + 1 : Nat) : Int) := by rw [IntKind.wrap_i64]; omega
      have hs := nineB_size k
      have q1 : ¬ 9223372036854775807 < (nineB k).size + 1 := by omega
      have q2 : ¬ 9223372036854775807 < (nineB k).size + (⟨#[57]⟩ : ByteArray).size := by rw [hs]; show ¬ 9223372036854775807 < k + 1; omega
      have hs' := nineB_succ k
      go_wp2_with fail
      go_roundw
      case rel => exact ⟨k + 1, by omega, by first | rfl | trivial, by first | rfl | trivial, by first | rfl | trivial⟩
      case measure => simp only [Go.RowKit.intOf]; omega
    · have hki : ¬ (k : Int) < (n : Int) := by omega
      obtain rfl : k = n := by omega
      go_wp2_with fail
      go_ret
      exact ⟨rfl, rfl⟩
def pickI (c n : Int) : Int := if c < 0 then (-(c + 1)) % n else c % n
set_option maxRecDepth 100000 in
set_option maxHeartbeats 4000000 in
theorem pick_any (c : Int) (w : World) (h0 : -9223372036854775808 ≤ c) (h1 : c ≤ 9223372036854775807) :
    Calls Tryz.prog 43 #[.int .i64 c, .int .i64 200] w fun e w' => e = .returned (.int .i64 (pickI c 200)) ∧ w = w' := by
  by_cases h : c < 0
  · have hw1 : IntKind.i64.wrap (c + 1) = c + 1 := by rw [IntKind.wrap_i64]; omega
    have hw2 : IntKind.i64.wrap (-(c + 1)) = -(c + 1) := by rw [IntKind.wrap_i64]; omega
    have e : pickI c 200 = -(Int.tmod (c + 1) 200) := by unfold pickI; rw [if_pos h, ← Int.neg_tmod]; exact (Int.tmod_eq_emod_of_nonneg (by omega)).symm
    have hp : 0 ≤ pickI c 200 ∧ pickI c 200 < 200 := by unfold pickI; rw [if_pos h]; omega
    rw [e] at hp
    have hw3 : IntKind.i64.wrap (-(Int.tmod (c + 1) 200)) = -(Int.tmod (c + 1) 200) := by rw [IntKind.wrap_i64]; omega
    rw [e]
    clear hp e
    go_enter Tryz.func43, Tryz.ntmps43
    go_wp2
    go_ret
    exact ⟨rfl, rfl⟩
  · have e : pickI c 200 = c % 200 := by unfold pickI; rw [if_neg h]
    have hw3 : IntKind.i64.wrap (c % 200) = c % 200 := by rw [IntKind.wrap_i64]; omega
    rw [e]
    clear e
    go_enter Tryz.func43, Tryz.ntmps43
    go_wp2
    go_ret
    exact ⟨rfl, rfl⟩
set_option maxRecDepth 100000 in
set_option maxHeartbeats 4000000 in
theorem limits_zsp (a : ByteArray) (p q x : Int) (n : Nat) (w : World) (he : EnvW w) (bx : x.natAbs < 10 ^ 5) (hx : 0 < x) (hn : n < 200)
    (Mx : ∀ V, EnvW V → Calls Tryz.prog 33 #[.string a, .int .i64 5] V fun e w' => e = .returned (.string (N3.S x)) ∧ Below V.heap.size V w')
    (hp : ∀ V, EnvW V → Calls Tryz.prog 43 #[.int .i64 p, .int .i64 200] V fun e w' => e = .returned (.int .i64 0) ∧ Below V.heap.size V w')
    (hq : ∀ V, EnvW V → Calls Tryz.prog 43 #[.int .i64 q, .int .i64 200] V fun e w' => e = .returned (.int .i64 (n : Int)) ∧ Below V.heap.size V w') :
    Calls Tryz.prog 10 #[.string a, .int .i64 p, .int .i64 q] w fun e w' => e = .returned (.bool true) ∧ Below w.heap.size w w' := by
  have HE := Lib.hid he
  have F0 := Lib.hid (fun V (_ : EnvW V) => sane_true V ‹EnvW V›)
  have M1 := Lib.hid Mx
  have PM := Lib.hid hp
  have PN := Lib.hid hq
  have lx := N3.lim_of bx (by decide)
  have lm : (10 ^ 5 : Nat) < N3.lim := by decide
  have e200 : (10 ^ 200 : Nat) = N3.lim := rfl
  have hB := nineB_S 200 (by decide)
  have hNB := neg_nineB 200 (by decide)
  rw [e200] at hB hNB
  have lM : ((N3.lim - 1 : Nat) : Int).natAbs < N3.lim := by omega
  have lN : (-((N3.lim - 1 : Nat) : Int)).natAbs < N3.lim := by omega
  have p1 : 1 ≤ 10 ^ n := Nat.one_le_pow _ _ (by decide)
  have lT : ((2 * 10 ^ n - 1 : Nat) : Int).natAbs < N3.lim := by
    have k := (N3.prod_fits 0 n).2 (by omega)
    rw [Nat.pow_zero, Nat.one_mul] at k
    rw [Int.natAbs_natCast]; exact k
  have N0 := Lib.hid (fun V (hV : EnvW V) => (nines_any 200 V (by decide)).mono (fun e W h => (⟨h.1, h.2 ▸ Below.refl _ _⟩ : e = .returned (.string (nineB 200)) ∧ Below V.heap.size V W)))
  have A := Lib.hid (fun V (hV : EnvW V) => by have k := add_big lM lx (by omega) V hV; rw [← hB] at k; exact k)
  have SB := Lib.hid (fun V (hV : EnvW V) => by have k := sub_big lN lx (by omega) V hV; rw [← hNB] at k; exact k)
  have NN := Lib.hid (fun V (hV : EnvW V) => (nines_any n V (by omega)).mono (fun e W h => (⟨h.1, h.2 ▸ Below.refl _ _⟩ : e = .returned (.string (nineB n)) ∧ Below V.heap.size V W)))
  have V9 := Lib.hid (fun V (hV : EnvW V) => by have k := valid_f (nineB 201) V (by rw [nineB_size]; decide); rw [nine_bad] at k; exact k)
  have VM := Lib.hid (fun V (hV : EnvW V) => by have k := valid_s lN V; rw [← hNB] at k; exact k)
  have C := Lib.hid (fun V (hV : EnvW V) => by have k := compare_s lx lim0 V; rw [S_zero] at k; exact k)
  have ec : 0 < N3.cmpI x 0 := by unfold N3.cmpI; (repeat' split) <;> omega
  have NM := Lib.hid (fun V (hV : EnvW V) => (nines_any 0 V (by omega)).mono (fun e W h => (⟨h.1, h.2 ▸ Below.refl _ _⟩ : e = .returned (.string ⟨#[]⟩) ∧ Below V.heap.size V W)))
  have A1 := Lib.hid (fun V (hV : EnvW V) => by have k := add_f ⟨#[]⟩ ⟨#[49]⟩ V (by decide) (by decide) hV; rw [show N3.addO ⟨#[]⟩ ⟨#[49]⟩ = none from rfl] at k; exact k)
  have A0 := Lib.hid (fun V (hV : EnvW V) => by have k := add_s lim0 lim1 (by decide) V hV; rw [show (0 : Int) + 1 = 1 from rfl, S_zero, S_one] at k; exact k)
  have MU := Lib.hid (fun V (hV : EnvW V) => (by have k := mul_s lim1 lT (by rw [Int.one_mul]; exact lT) V hV; rw [Int.one_mul, S_one] at k; rw [one_nineB n]; exact k : Calls Tryz.prog 35 #[.string ⟨#[49]⟩, .string ((⟨#[49]⟩ : ByteArray) ++ nineB n)] V fun e w' => e = .returned (.tuple #[.string (N3.S ((2 * 10 ^ n - 1 : Nat) : Int)), .int .i64 0]) ∧ Below V.heap.size V w'))
  have hsz : ((N3.S ((2 * 10 ^ n - 1 : Nat) : Int)).size : Int) = (n : Int) + 1 := by
    have k := N3.prod_digits 0 n
    rw [Nat.pow_zero, Nat.one_mul] at k
    have e : (N3.S ((2 * 10 ^ n - 1 : Nat) : Int)).size = 0 + n + 1 := by rw [← k, ← decDigits_length, ← N3.itoa_nat]; rfl
    rw [e]; omega
  have hnn : (n : Int) < 200 := by omega
  have hs0 := nineB_size 200
  have hs1 := nineB_size n
  have h9 := nineB_succ 200
  have q1 : ¬ 9223372036854775807 < (nineB 200).size + 1 := by omega
  have q2 : ¬ 9223372036854775807 < 1 + (nineB 200).size := by omega
  have q3 : ¬ 9223372036854775807 < 1 + (nineB n).size := by omega
  have q4 : ¬ 9223372036854775807 < (⟨#[45]⟩ : ByteArray).size + (nineB 200).size := by show ¬ 9223372036854775807 < 1 + (nineB 200).size; omega
  have q5 : ¬ 9223372036854775807 < (⟨#[49]⟩ : ByteArray).size + (nineB n).size := by show ¬ 9223372036854775807 < 1 + (nineB n).size; omega
  have q6 : ¬ 9223372036854775807 < (nineB 200).size + (⟨#[57]⟩ : ByteArray).size := by show ¬ 9223372036854775807 < (nineB 200).size + 1; omega
  generalize nineB 201 = B9 at *
  generalize nineB 200 = B at *
  generalize N3.S ((2 * 10 ^ n - 1 : Nat) : Int) = sp at *
  generalize nineB n = Bn at *
  generalize N3.S x = sx at *
  generalize N3.cmpI x 0 = cx at *
  clear he bx hx lx lm e200 hB hNB lM lN p1 lT hs0 hs1 Mx hp hq
  go_enter Tryz.func10, Tryz.ntmps10
  go_wp2_with omega
  refine (F0.out _ HE.out).mono ?_
  rintro e W1 ⟨rfl, hb1⟩
  have hB1 := hb1
  go_wp2_with omega
  refine (M1.out _ (HE.out.below hB1)).mono ?_
  rintro e W2 ⟨rfl, hb2⟩
  have hB2 := hB1.trans (hb2.mono hB1.size)
  go_wp2_with omega
  refine (N0.out _ (HE.out.below hB2)).mono ?_
  rintro e W3 ⟨rfl, hb3⟩
  have hB3 := hB2.trans (hb3.mono hB2.size)
  go_wp2_with omega
  refine (A.out _ (HE.out.below hB3)).mono ?_
  rintro e W4 ⟨rfl, hb4⟩
  have hB4 := hB3.trans (hb4.mono hB3.size)
  go_wp2_with omega
  refine (SB.out _ (HE.out.below hB4)).mono ?_
  rintro e W5 ⟨rfl, hb5⟩
  have hB5 := hB4.trans (hb5.mono hB4.size)
  go_wp2_with omega
  refine (PM.out _ (HE.out.below hB5)).mono ?_
  rintro e W6 ⟨rfl, hb6⟩
  have hB6 := hB5.trans (hb6.mono hB5.size)
  go_wp2_with omega
  refine (PN.out _ (HE.out.below hB6)).mono ?_
  rintro e W7 ⟨rfl, hb7⟩
  have hB7 := hB6.trans (hb7.mono hB6.size)
  go_wp2_with omega
  refine (NM.out _ (HE.out.below hB7)).mono ?_
  rintro e W8 ⟨rfl, hb8⟩
  have hB8 := hB7.trans (hb8.mono hB7.size)
  go_wp2_with omega
  refine (A1.out _ (HE.out.below hB8)).mono ?_
  rintro e W9 ⟨rfl, hb9⟩
  have hB9 := hB8.trans (hb9.mono hB8.size)
  go_wp2_with omega
  refine (A0.out _ (HE.out.below hB9)).mono ?_
  rintro e W10 ⟨rfl, hb10⟩
  have hB10 := hB9.trans (hb10.mono hB9.size)
  go_wp2_with omega
  refine (NN.out _ (HE.out.below hB10)).mono ?_
  rintro e W11 ⟨rfl, hb11⟩
  have hB11 := hB10.trans (hb11.mono hB10.size)
  go_wp2_with omega
  refine (MU.out _ (HE.out.below hB11)).mono ?_
  rintro e W12 ⟨rfl, hb12⟩
  have hB12 := hB11.trans (hb12.mono hB11.size)
  go_wp2_with omega
  refine (C.out _ (HE.out.below hB12)).mono ?_
  rintro e W13 ⟨rfl, hb13⟩
  have hB13 := hB12.trans (hb13.mono hB12.size)
  go_wp2_with omega
  refine (V9.out _ (HE.out.below hB13)).mono ?_
  rintro e W14 ⟨rfl, hb14⟩
  have hB14 := hB13.trans (hb14.mono hB13.size)
  go_wp2_with omega
  refine (VM.out _ (HE.out.below hB14)).mono ?_
  rintro e W15 ⟨rfl, hb15⟩
  have hB15 := hB14.trans (hb15.mono hB14.size)
  go_wp2_with omega
  go_ret
  exact ⟨rfl, hB15⟩
set_option maxRecDepth 100000 in
set_option maxHeartbeats 4000000 in
theorem limits_zsn (a : ByteArray) (p q x : Int) (n : Nat) (w : World) (he : EnvW w) (bx : x.natAbs < 10 ^ 5) (hx : ¬ 0 < x) (hn : n < 200)
    (Mx : ∀ V, EnvW V → Calls Tryz.prog 33 #[.string a, .int .i64 5] V fun e w' => e = .returned (.string (N3.S x)) ∧ Below V.heap.size V w')
    (hp : ∀ V, EnvW V → Calls Tryz.prog 43 #[.int .i64 p, .int .i64 200] V fun e w' => e = .returned (.int .i64 0) ∧ Below V.heap.size V w')
    (hq : ∀ V, EnvW V → Calls Tryz.prog 43 #[.int .i64 q, .int .i64 200] V fun e w' => e = .returned (.int .i64 (n : Int)) ∧ Below V.heap.size V w') :
    Calls Tryz.prog 10 #[.string a, .int .i64 p, .int .i64 q] w fun e w' => e = .returned (.bool true) ∧ Below w.heap.size w w' := by
  have HE := Lib.hid he
  have F0 := Lib.hid (fun V (_ : EnvW V) => sane_true V ‹EnvW V›)
  have M1 := Lib.hid Mx
  have PM := Lib.hid hp
  have PN := Lib.hid hq
  have lx := N3.lim_of bx (by decide)
  have lm : (10 ^ 5 : Nat) < N3.lim := by decide
  have e200 : (10 ^ 200 : Nat) = N3.lim := rfl
  have hB := nineB_S 200 (by decide)
  have hNB := neg_nineB 200 (by decide)
  rw [e200] at hB hNB
  have lM : ((N3.lim - 1 : Nat) : Int).natAbs < N3.lim := by omega
  have lN : (-((N3.lim - 1 : Nat) : Int)).natAbs < N3.lim := by omega
  have p1 : 1 ≤ 10 ^ n := Nat.one_le_pow _ _ (by decide)
  have lT : ((2 * 10 ^ n - 1 : Nat) : Int).natAbs < N3.lim := by
    have k := (N3.prod_fits 0 n).2 (by omega)
    rw [Nat.pow_zero, Nat.one_mul] at k
    rw [Int.natAbs_natCast]; exact k
  have N0 := Lib.hid (fun V (hV : EnvW V) => (nines_any 200 V (by decide)).mono (fun e W h => (⟨h.1, h.2 ▸ Below.refl _ _⟩ : e = .returned (.string (nineB 200)) ∧ Below V.heap.size V W)))
  have A := Lib.hid (fun V (hV : EnvW V) => by have k := add_s lM lx (by omega) V hV; rw [← hB] at k; exact k)
  have SB := Lib.hid (fun V (hV : EnvW V) => by have k := sub_s lN lx (by omega) V hV; rw [← hNB] at k; exact k)
  have NN := Lib.hid (fun V (hV : EnvW V) => (nines_any n V (by omega)).mono (fun e W h => (⟨h.1, h.2 ▸ Below.refl _ _⟩ : e = .returned (.string (nineB n)) ∧ Below V.heap.size V W)))
  have V9 := Lib.hid (fun V (hV : EnvW V) => by have k := valid_f (nineB 201) V (by rw [nineB_size]; decide); rw [nine_bad] at k; exact k)
  have VM := Lib.hid (fun V (hV : EnvW V) => by have k := valid_s lN V; rw [← hNB] at k; exact k)
  have C := Lib.hid (fun V (hV : EnvW V) => by have k := compare_s lx lim0 V; rw [S_zero] at k; exact k)
  have ec : ¬ 0 < N3.cmpI x 0 := by unfold N3.cmpI; (repeat' split) <;> omega
  have NM := Lib.hid (fun V (hV : EnvW V) => (nines_any 0 V (by omega)).mono (fun e W h => (⟨h.1, h.2 ▸ Below.refl _ _⟩ : e = .returned (.string ⟨#[]⟩) ∧ Below V.heap.size V W)))
  have A1 := Lib.hid (fun V (hV : EnvW V) => by have k := add_f ⟨#[]⟩ ⟨#[49]⟩ V (by decide) (by decide) hV; rw [show N3.addO ⟨#[]⟩ ⟨#[49]⟩ = none from rfl] at k; exact k)
  have A0 := Lib.hid (fun V (hV : EnvW V) => by have k := add_s lim0 lim1 (by decide) V hV; rw [show (0 : Int) + 1 = 1 from rfl, S_zero, S_one] at k; exact k)
  have MU := Lib.hid (fun V (hV : EnvW V) => (by have k := mul_s lim1 lT (by rw [Int.one_mul]; exact lT) V hV; rw [Int.one_mul, S_one] at k; rw [one_nineB n]; exact k : Calls Tryz.prog 35 #[.string ⟨#[49]⟩, .string ((⟨#[49]⟩ : ByteArray) ++ nineB n)] V fun e w' => e = .returned (.tuple #[.string (N3.S ((2 * 10 ^ n - 1 : Nat) : Int)), .int .i64 0]) ∧ Below V.heap.size V w'))
  have hsz : ((N3.S ((2 * 10 ^ n - 1 : Nat) : Int)).size : Int) = (n : Int) + 1 := by
    have k := N3.prod_digits 0 n
    rw [Nat.pow_zero, Nat.one_mul] at k
    have e : (N3.S ((2 * 10 ^ n - 1 : Nat) : Int)).size = 0 + n + 1 := by rw [← k, ← decDigits_length, ← N3.itoa_nat]; rfl
    rw [e]; omega
  have hnn : (n : Int) < 200 := by omega
  have hs0 := nineB_size 200
  have hs1 := nineB_size n
  have h9 := nineB_succ 200
  have q1 : ¬ 9223372036854775807 < (nineB 200).size + 1 := by omega
  have q2 : ¬ 9223372036854775807 < 1 + (nineB 200).size := by omega
  have q3 : ¬ 9223372036854775807 < 1 + (nineB n).size := by omega
  have q4 : ¬ 9223372036854775807 < (⟨#[45]⟩ : ByteArray).size + (nineB 200).size := by show ¬ 9223372036854775807 < 1 + (nineB 200).size; omega
  have q5 : ¬ 9223372036854775807 < (⟨#[49]⟩ : ByteArray).size + (nineB n).size := by show ¬ 9223372036854775807 < 1 + (nineB n).size; omega
  have q6 : ¬ 9223372036854775807 < (nineB 200).size + (⟨#[57]⟩ : ByteArray).size := by show ¬ 9223372036854775807 < (nineB 200).size + 1; omega
  generalize nineB 201 = B9 at *
  generalize nineB 200 = B at *
  generalize N3.S ((2 * 10 ^ n - 1 : Nat) : Int) = sp at *
  generalize nineB n = Bn at *
  generalize N3.S x = sx at *
  generalize N3.cmpI x 0 = cx at *
  generalize N3.S (((N3.lim - 1 : Nat) : Int) + x) = sA at *
  generalize N3.S (-((N3.lim - 1 : Nat) : Int) - x) = sS at *
  clear he bx hx lx lm e200 hB hNB lM lN p1 lT hs0 hs1 Mx hp hq
  have ec2 : cx ≤ 0 := Int.not_lt.1 ec
  have ec3 : decide (0 < cx) = false := decide_eq_false ec
  go_enter Tryz.func10, Tryz.ntmps10
  go_wp2_with omega
  refine (F0.out _ HE.out).mono ?_
  rintro e W1 ⟨rfl, hb1⟩
  have hB1 := hb1
  go_wp2_with omega
  refine (M1.out _ (HE.out.below hB1)).mono ?_
  rintro e W2 ⟨rfl, hb2⟩
  have hB2 := hB1.trans (hb2.mono hB1.size)
  go_wp2_with omega
  refine (N0.out _ (HE.out.below hB2)).mono ?_
  rintro e W3 ⟨rfl, hb3⟩
  have hB3 := hB2.trans (hb3.mono hB2.size)
  go_wp2_with omega
  refine (A.out _ (HE.out.below hB3)).mono ?_
  rintro e W4 ⟨rfl, hb4⟩
  have hB4 := hB3.trans (hb4.mono hB3.size)
  go_wp2_with omega
  refine (SB.out _ (HE.out.below hB4)).mono ?_
  rintro e W5 ⟨rfl, hb5⟩
  have hB5 := hB4.trans (hb5.mono hB4.size)
  go_wp2_with omega
  refine (PM.out _ (HE.out.below hB5)).mono ?_
  rintro e W6 ⟨rfl, hb6⟩
  have hB6 := hB5.trans (hb6.mono hB5.size)
  go_wp2_with omega
  refine (PN.out _ (HE.out.below hB6)).mono ?_
  rintro e W7 ⟨rfl, hb7⟩
  have hB7 := hB6.trans (hb7.mono hB6.size)
  go_wp2_with omega
  refine (NM.out _ (HE.out.below hB7)).mono ?_
  rintro e W8 ⟨rfl, hb8⟩
  have hB8 := hB7.trans (hb8.mono hB7.size)
  go_wp2_with omega
  refine (A1.out _ (HE.out.below hB8)).mono ?_
  rintro e W9 ⟨rfl, hb9⟩
  have hB9 := hB8.trans (hb9.mono hB8.size)
  go_wp2_with omega
  refine (A0.out _ (HE.out.below hB9)).mono ?_
  rintro e W10 ⟨rfl, hb10⟩
  have hB10 := hB9.trans (hb10.mono hB9.size)
  go_wp2_with omega
  refine (NN.out _ (HE.out.below hB10)).mono ?_
  rintro e W11 ⟨rfl, hb11⟩
  have hB11 := hB10.trans (hb11.mono hB10.size)
  go_wp2_with omega
  refine (MU.out _ (HE.out.below hB11)).mono ?_
  rintro e W12 ⟨rfl, hb12⟩
  have hB12 := hB11.trans (hb12.mono hB11.size)
  go_wp2_with omega
  refine (C.out _ (HE.out.below hB12)).mono ?_
  rintro e W13 ⟨rfl, hb13⟩
  have hB13 := hB12.trans (hb13.mono hB12.size)
  go_wp2_with omega
  refine (V9.out _ (HE.out.below hB13)).mono ?_
  rintro e W14 ⟨rfl, hb14⟩
  have hB14 := hB13.trans (hb14.mono hB13.size)
  go_wp2_with omega
  refine (VM.out _ (HE.out.below hB14)).mono ?_
  rintro e W15 ⟨rfl, hb15⟩
  have hB15 := hB14.trans (hb15.mono hB14.size)
  go_wp2_with omega
  go_ret
  exact ⟨rfl, hB15⟩
set_option maxRecDepth 100000 in
set_option maxHeartbeats 4000000 in
theorem limits_msp (a : ByteArray) (p q x : Int) (m : Nat) (n : Nat) (w : World) (he : EnvW w) (bx : x.natAbs < 10 ^ 5) (hx : 0 < x) (hm : m < 200) (hm0 : m ≠ 0) (hn : n < 200) (hf : m + n < 200)
    (Mx : ∀ V, EnvW V → Calls Tryz.prog 33 #[.string a, .int .i64 5] V fun e w' => e = .returned (.string (N3.S x)) ∧ Below V.heap.size V w')
    (hp : ∀ V, EnvW V → Calls Tryz.prog 43 #[.int .i64 p, .int .i64 200] V fun e w' => e = .returned (.int .i64 (m : Int)) ∧ Below V.heap.size V w')
    (hq : ∀ V, EnvW V → Calls Tryz.prog 43 #[.int .i64 q, .int .i64 200] V fun e w' => e = .returned (.int .i64 (n : Int)) ∧ Below V.heap.size V w') :
    Calls Tryz.prog 10 #[.string a, .int .i64 p, .int .i64 q] w fun e w' => e = .returned (.bool true) ∧ Below w.heap.size w w' := by
  have HE := Lib.hid he
  have F0 := Lib.hid (fun V (_ : EnvW V) => sane_true V ‹EnvW V›)
  have M1 := Lib.hid Mx
  have PM := Lib.hid hp
  have PN := Lib.hid hq
  have lx := N3.lim_of bx (by decide)
  have lm : (10 ^ 5 : Nat) < N3.lim := by decide
  have e200 : (10 ^ 200 : Nat) = N3.lim := rfl
  have hB := nineB_S 200 (by decide)
  have hNB := neg_nineB 200 (by decide)
  rw [e200] at hB hNB
  have lM : ((N3.lim - 1 : Nat) : Int).natAbs < N3.lim := by omega
  have lN : (-((N3.lim - 1 : Nat) : Int)).natAbs < N3.lim := by omega
  have p1 : 1 ≤ 10 ^ n := Nat.one_le_pow _ _ (by decide)
  have lT : ((2 * 10 ^ n - 1 : Nat) : Int).natAbs < N3.lim := by
    have k := (N3.prod_fits 0 n).2 (by omega)
    rw [Nat.pow_zero, Nat.one_mul] at k
    rw [Int.natAbs_natCast]; exact k
  have N0 := Lib.hid (fun V (hV : EnvW V) => (nines_any 200 V (by decide)).mono (fun e W h => (⟨h.1, h.2 ▸ Below.refl _ _⟩ : e = .returned (.string (nineB 200)) ∧ Below V.heap.size V W)))
  have A := Lib.hid (fun V (hV : EnvW V) => by have k := add_big lM lx (by omega) V hV; rw [← hB] at k; exact k)
  have SB := Lib.hid (fun V (hV : EnvW V) => by have k := sub_big lN lx (by omega) V hV; rw [← hNB] at k; exact k)
  have NN := Lib.hid (fun V (hV : EnvW V) => (nines_any n V (by omega)).mono (fun e W h => (⟨h.1, h.2 ▸ Below.refl _ _⟩ : e = .returned (.string (nineB n)) ∧ Below V.heap.size V W)))
  have V9 := Lib.hid (fun V (hV : EnvW V) => by have k := valid_f (nineB 201) V (by rw [nineB_size]; decide); rw [nine_bad] at k; exact k)
  have VM := Lib.hid (fun V (hV : EnvW V) => by have k := valid_s lN V; rw [← hNB] at k; exact k)
  have C := Lib.hid (fun V (hV : EnvW V) => by have k := compare_s lx lim0 V; rw [S_zero] at k; exact k)
  have ec : 0 < N3.cmpI x 0 := by unfold N3.cmpI; (repeat' split) <;> omega
  have p2 : 1 ≤ 10 ^ m := Nat.one_le_pow _ _ (by decide)
  have e4 : ((10 ^ m - 1 : Nat) : Int) + 1 = ((10 ^ m : Nat) : Int) := by omega
  have l10' := Nat.pow_lt_pow_right (a := 10) (by decide) hm
  rw [e200] at l10'
  have l10 : ((10 ^ m : Nat) : Int).natAbs < N3.lim := by rw [Int.natAbs_natCast]; exact l10'
  have l9 : ((10 ^ m - 1 : Nat) : Int).natAbs < N3.lim := by rw [Int.natAbs_natCast]; exact Nat.lt_of_le_of_lt (Nat.sub_le _ _) l10'
  have e5 : ((10 ^ m : Nat) : Int) * ((2 * 10 ^ n - 1 : Nat) : Int) = ((10 ^ m * (2 * 10 ^ n - 1) : Nat) : Int) := by rw [Int.natCast_mul]
  have hfit := N3.prod_fits m n
  have hmi : ¬ (m : Int) = 0 := by omega
  have NM := Lib.hid (fun V (hV : EnvW V) => (nines_any m V (by omega)).mono (fun e W h => (⟨h.1, h.2 ▸ Below.refl _ _⟩ : e = .returned (.string (nineB m)) ∧ Below V.heap.size V W)))
  have A1 := Lib.hid (fun V (hV : EnvW V) => by have k := add_s l9 lim1 (by rw [e4]; exact l10) V hV; rw [e4, S_one, ← nineB_S m hm0] at k; exact k)
  have MU := Lib.hid (fun V (hV : EnvW V) => by have k := mul_s l10 lT (by rw [e5, Int.natAbs_natCast]; exact hfit.2 hf) V hV; rw [e5, ← one_nineB] at k; exact k)
  have hsz : ((N3.S ((10 ^ m * (2 * 10 ^ n - 1) : Nat) : Int)).size : Int) = (m : Int) + (n : Int) + 1 := by
    have k := N3.prod_digits m n
    have e : (N3.S ((10 ^ m * (2 * 10 ^ n - 1) : Nat) : Int)).size = m + n + 1 := by rw [← k, ← decDigits_length, ← N3.itoa_nat]; rfl
    rw [e]; omega
  have hnn : (m : Int) + (n : Int) < 200 := by omega
  have hs0 := nineB_size 200
  have hs1 := nineB_size n
  have h9 := nineB_succ 200
  have q1 : ¬ 9223372036854775807 < (nineB 200).size + 1 := by omega
  have q2 : ¬ 9223372036854775807 < 1 + (nineB 200).size := by omega
  have q3 : ¬ 9223372036854775807 < 1 + (nineB n).size := by omega
  have q4 : ¬ 9223372036854775807 < (⟨#[45]⟩ : ByteArray).size + (nineB 200).size := by show ¬ 9223372036854775807 < 1 + (nineB 200).size; omega
  have q5 : ¬ 9223372036854775807 < (⟨#[49]⟩ : ByteArray).size + (nineB n).size := by show ¬ 9223372036854775807 < 1 + (nineB n).size; omega
  have q6 : ¬ 9223372036854775807 < (nineB 200).size + (⟨#[57]⟩ : ByteArray).size := by show ¬ 9223372036854775807 < (nineB 200).size + 1; omega
  generalize nineB 201 = B9 at *
  generalize nineB 200 = B at *
  generalize N3.S ((10 ^ m * (2 * 10 ^ n - 1) : Nat) : Int) = sp at *
  generalize N3.S ((10 ^ m : Nat) : Int) = st at *
  generalize nineB m = Bm at *
  generalize nineB n = Bn at *
  generalize N3.S x = sx at *
  generalize N3.cmpI x 0 = cx at *
  clear he bx hx lx lm e200 hB hNB lM lN p1 lT hs0 hs1 Mx hp hq p2 e4 l10' l10 l9 e5 hfit hm0 hm hf
  go_enter Tryz.func10, Tryz.ntmps10
  go_wp2_with omega
  refine (F0.out _ HE.out).mono ?_
  rintro e W1 ⟨rfl, hb1⟩
  have hB1 := hb1
  go_wp2_with omega
  refine (M1.out _ (HE.out.below hB1)).mono ?_
  rintro e W2 ⟨rfl, hb2⟩
  have hB2 := hB1.trans (hb2.mono hB1.size)
  go_wp2_with omega
  refine (N0.out _ (HE.out.below hB2)).mono ?_
  rintro e W3 ⟨rfl, hb3⟩
  have hB3 := hB2.trans (hb3.mono hB2.size)
  go_wp2_with omega
  refine (A.out _ (HE.out.below hB3)).mono ?_
  rintro e W4 ⟨rfl, hb4⟩
  have hB4 := hB3.trans (hb4.mono hB3.size)
  go_wp2_with omega
  refine (SB.out _ (HE.out.below hB4)).mono ?_
  rintro e W5 ⟨rfl, hb5⟩
  have hB5 := hB4.trans (hb5.mono hB4.size)
  go_wp2_with omega
  refine (PM.out _ (HE.out.below hB5)).mono ?_
  rintro e W6 ⟨rfl, hb6⟩
  have hB6 := hB5.trans (hb6.mono hB5.size)
  go_wp2_with omega
  refine (PN.out _ (HE.out.below hB6)).mono ?_
  rintro e W7 ⟨rfl, hb7⟩
  have hB7 := hB6.trans (hb7.mono hB6.size)
  go_wp2_with omega
  refine (NM.out _ (HE.out.below hB7)).mono ?_
  rintro e W8 ⟨rfl, hb8⟩
  have hB8 := hB7.trans (hb8.mono hB7.size)
  go_wp2_with omega
  refine (A1.out _ (HE.out.below hB8)).mono ?_
  rintro e W9 ⟨rfl, hb9⟩
  have hB9 := hB8.trans (hb9.mono hB8.size)
  go_wp2_with omega
  refine (NN.out _ (HE.out.below hB9)).mono ?_
  rintro e W10 ⟨rfl, hb10⟩
  have hB10 := hB9.trans (hb10.mono hB9.size)
  go_wp2_with omega
  refine (MU.out _ (HE.out.below hB10)).mono ?_
  rintro e W11 ⟨rfl, hb11⟩
  have hB11 := hB10.trans (hb11.mono hB10.size)
  go_wp2_with omega
  refine (C.out _ (HE.out.below hB11)).mono ?_
  rintro e W12 ⟨rfl, hb12⟩
  have hB12 := hB11.trans (hb12.mono hB11.size)
  go_wp2_with omega
  refine (V9.out _ (HE.out.below hB12)).mono ?_
  rintro e W13 ⟨rfl, hb13⟩
  have hB13 := hB12.trans (hb13.mono hB12.size)
  go_wp2_with omega
  refine (VM.out _ (HE.out.below hB13)).mono ?_
  rintro e W14 ⟨rfl, hb14⟩
  have hB14 := hB13.trans (hb14.mono hB13.size)
  go_wp2_with omega
  go_ret
  exact ⟨rfl, hB14⟩
set_option maxRecDepth 100000 in
set_option maxHeartbeats 4000000 in
theorem limits_msn (a : ByteArray) (p q x : Int) (m : Nat) (n : Nat) (w : World) (he : EnvW w) (bx : x.natAbs < 10 ^ 5) (hx : ¬ 0 < x) (hm : m < 200) (hm0 : m ≠ 0) (hn : n < 200) (hf : m + n < 200)
    (Mx : ∀ V, EnvW V → Calls Tryz.prog 33 #[.string a, .int .i64 5] V fun e w' => e = .returned (.string (N3.S x)) ∧ Below V.heap.size V w')
    (hp : ∀ V, EnvW V → Calls Tryz.prog 43 #[.int .i64 p, .int .i64 200] V fun e w' => e = .returned (.int .i64 (m : Int)) ∧ Below V.heap.size V w')
    (hq : ∀ V, EnvW V → Calls Tryz.prog 43 #[.int .i64 q, .int .i64 200] V fun e w' => e = .returned (.int .i64 (n : Int)) ∧ Below V.heap.size V w') :
    Calls Tryz.prog 10 #[.string a, .int .i64 p, .int .i64 q] w fun e w' => e = .returned (.bool true) ∧ Below w.heap.size w w' := by
  have HE := Lib.hid he
  have F0 := Lib.hid (fun V (_ : EnvW V) => sane_true V ‹EnvW V›)
  have M1 := Lib.hid Mx
  have PM := Lib.hid hp
  have PN := Lib.hid hq
  have lx := N3.lim_of bx (by decide)
  have lm : (10 ^ 5 : Nat) < N3.lim := by decide
  have e200 : (10 ^ 200 : Nat) = N3.lim := rfl
  have hB := nineB_S 200 (by decide)
  have hNB := neg_nineB 200 (by decide)
  rw [e200] at hB hNB
  have lM : ((N3.lim - 1 : Nat) : Int).natAbs < N3.lim := by omega
  have lN : (-((N3.lim - 1 : Nat) : Int)).natAbs < N3.lim := by omega
  have p1 : 1 ≤ 10 ^ n := Nat.one_le_pow _ _ (by decide)
  have lT : ((2 * 10 ^ n - 1 : Nat) : Int).natAbs < N3.lim := by
    have k := (N3.prod_fits 0 n).2 (by omega)
    rw [Nat.pow_zero, Nat.one_mul] at k
    rw [Int.natAbs_natCast]; exact k
  have N0 := Lib.hid (fun V (hV : EnvW V) => (nines_any 200 V (by decide)).mono (fun e W h => (⟨h.1, h.2 ▸ Below.refl _ _⟩ : e = .returned (.string (nineB 200)) ∧ Below V.heap.size V W)))
  have A := Lib.hid (fun V (hV : EnvW V) => by have k := add_s lM lx (by omega) V hV; rw [← hB] at k; exact k)
  have SB := Lib.hid (fun V (hV : EnvW V) => by have k := sub_s lN lx (by omega) V hV; rw [← hNB] at k; exact k)
  have NN := Lib.hid (fun V (hV : EnvW V) => (nines_any n V (by omega)).mono (fun e W h => (⟨h.1, h.2 ▸ Below.refl _ _⟩ : e = .returned (.string (nineB n)) ∧ Below V.heap.size V W)))
  have V9 := Lib.hid (fun V (hV : EnvW V) => by have k := valid_f (nineB 201) V (by rw [nineB_size]; decide); rw [nine_bad] at k; exact k)
  have VM := Lib.hid (fun V (hV : EnvW V) => by have k := valid_s lN V; rw [← hNB] at k; exact k)
  have C := Lib.hid (fun V (hV : EnvW V) => by have k := compare_s lx lim0 V; rw [S_zero] at k; exact k)
  have ec : ¬ 0 < N3.cmpI x 0 := by unfold N3.cmpI; (repeat' split) <;> omega
  have p2 : 1 ≤ 10 ^ m := Nat.one_le_pow _ _ (by decide)
  have e4 : ((10 ^ m - 1 : Nat) : Int) + 1 = ((10 ^ m : Nat) : Int) := by omega
  have l10' := Nat.pow_lt_pow_right (a := 10) (by decide) hm
  rw [e200] at l10'
  have l10 : ((10 ^ m : Nat) : Int).natAbs < N3.lim := by rw [Int.natAbs_natCast]; exact l10'
  have l9 : ((10 ^ m - 1 : Nat) : Int).natAbs < N3.lim := by rw [Int.natAbs_natCast]; exact Nat.lt_of_le_of_lt (Nat.sub_le _ _) l10'
  have e5 : ((10 ^ m : Nat) : Int) * ((2 * 10 ^ n - 1 : Nat) : Int) = ((10 ^ m * (2 * 10 ^ n - 1) : Nat) : Int) := by rw [Int.natCast_mul]
  have hfit := N3.prod_fits m n
  have hmi : ¬ (m : Int) = 0 := by omega
  have NM := Lib.hid (fun V (hV : EnvW V) => (nines_any m V (by omega)).mono (fun e W h => (⟨h.1, h.2 ▸ Below.refl _ _⟩ : e = .returned (.string (nineB m)) ∧ Below V.heap.size V W)))
  have A1 := Lib.hid (fun V (hV : EnvW V) => by have k := add_s l9 lim1 (by rw [e4]; exact l10) V hV; rw [e4, S_one, ← nineB_S m hm0] at k; exact k)
  have MU := Lib.hid (fun V (hV : EnvW V) => by have k := mul_s l10 lT (by rw [e5, Int.natAbs_natCast]; exact hfit.2 hf) V hV; rw [e5, ← one_nineB] at k; exact k)
  have hsz : ((N3.S ((10 ^ m * (2 * 10 ^ n - 1) : Nat) : Int)).size : Int) = (m : Int) + (n : Int) + 1 := by
    have k := N3.prod_digits m n
    have e : (N3.S ((10 ^ m * (2 * 10 ^ n - 1) : Nat) : Int)).size = m + n + 1 := by rw [← k, ← decDigits_length, ← N3.itoa_nat]; rfl
    rw [e]; omega
  have hnn : (m : Int) + (n : Int) < 200 := by omega
  have hs0 := nineB_size 200
  have hs1 := nineB_size n
  have h9 := nineB_succ 200
  have q1 : ¬ 9223372036854775807 < (nineB 200).size + 1 := by omega
  have q2 : ¬ 9223372036854775807 < 1 + (nineB 200).size := by omega
  have q3 : ¬ 9223372036854775807 < 1 + (nineB n).size := by omega
  have q4 : ¬ 9223372036854775807 < (⟨#[45]⟩ : ByteArray).size + (nineB 200).size := by show ¬ 9223372036854775807 < 1 + (nineB 200).size; omega
  have q5 : ¬ 9223372036854775807 < (⟨#[49]⟩ : ByteArray).size + (nineB n).size := by show ¬ 9223372036854775807 < 1 + (nineB n).size; omega
  have q6 : ¬ 9223372036854775807 < (nineB 200).size + (⟨#[57]⟩ : ByteArray).size := by show ¬ 9223372036854775807 < (nineB 200).size + 1; omega
  generalize nineB 201 = B9 at *
  generalize nineB 200 = B at *
  generalize N3.S ((10 ^ m * (2 * 10 ^ n - 1) : Nat) : Int) = sp at *
  generalize N3.S ((10 ^ m : Nat) : Int) = st at *
  generalize nineB m = Bm at *
  generalize nineB n = Bn at *
  generalize N3.S x = sx at *
  generalize N3.cmpI x 0 = cx at *
  generalize N3.S (((N3.lim - 1 : Nat) : Int) + x) = sA at *
  generalize N3.S (-((N3.lim - 1 : Nat) : Int) - x) = sS at *
  clear he bx hx lx lm e200 hB hNB lM lN p1 lT hs0 hs1 Mx hp hq p2 e4 l10' l10 l9 e5 hfit hm0 hm hf
  have ec2 : cx ≤ 0 := Int.not_lt.1 ec
  have ec3 : decide (0 < cx) = false := decide_eq_false ec
  go_enter Tryz.func10, Tryz.ntmps10
  go_wp2_with omega
  refine (F0.out _ HE.out).mono ?_
  rintro e W1 ⟨rfl, hb1⟩
  have hB1 := hb1
  go_wp2_with omega
  refine (M1.out _ (HE.out.below hB1)).mono ?_
  rintro e W2 ⟨rfl, hb2⟩
  have hB2 := hB1.trans (hb2.mono hB1.size)
  go_wp2_with omega
  refine (N0.out _ (HE.out.below hB2)).mono ?_
  rintro e W3 ⟨rfl, hb3⟩
  have hB3 := hB2.trans (hb3.mono hB2.size)
  go_wp2_with omega
  refine (A.out _ (HE.out.below hB3)).mono ?_
  rintro e W4 ⟨rfl, hb4⟩
  have hB4 := hB3.trans (hb4.mono hB3.size)
  go_wp2_with omega
  refine (SB.out _ (HE.out.below hB4)).mono ?_
  rintro e W5 ⟨rfl, hb5⟩
  have hB5 := hB4.trans (hb5.mono hB4.size)
  go_wp2_with omega
  refine (PM.out _ (HE.out.below hB5)).mono ?_
  rintro e W6 ⟨rfl, hb6⟩
  have hB6 := hB5.trans (hb6.mono hB5.size)
  go_wp2_with omega
  refine (PN.out _ (HE.out.below hB6)).mono ?_
  rintro e W7 ⟨rfl, hb7⟩
  have hB7 := hB6.trans (hb7.mono hB6.size)
  go_wp2_with omega
  refine (NM.out _ (HE.out.below hB7)).mono ?_
  rintro e W8 ⟨rfl, hb8⟩
  have hB8 := hB7.trans (hb8.mono hB7.size)
  go_wp2_with omega
  refine (A1.out _ (HE.out.below hB8)).mono ?_
  rintro e W9 ⟨rfl, hb9⟩
  have hB9 := hB8.trans (hb9.mono hB8.size)
  go_wp2_with omega
  refine (NN.out _ (HE.out.below hB9)).mono ?_
  rintro e W10 ⟨rfl, hb10⟩
  have hB10 := hB9.trans (hb10.mono hB9.size)
  go_wp2_with omega
  refine (MU.out _ (HE.out.below hB10)).mono ?_
  rintro e W11 ⟨rfl, hb11⟩
  have hB11 := hB10.trans (hb11.mono hB10.size)
  go_wp2_with omega
  refine (C.out _ (HE.out.below hB11)).mono ?_
  rintro e W12 ⟨rfl, hb12⟩
  have hB12 := hB11.trans (hb12.mono hB11.size)
  go_wp2_with omega
  refine (V9.out _ (HE.out.below hB12)).mono ?_
  rintro e W13 ⟨rfl, hb13⟩
  have hB13 := hB12.trans (hb13.mono hB12.size)
  go_wp2_with omega
  refine (VM.out _ (HE.out.below hB13)).mono ?_
  rintro e W14 ⟨rfl, hb14⟩
  have hB14 := hB13.trans (hb14.mono hB13.size)
  go_wp2_with omega
  go_ret
  exact ⟨rfl, hB14⟩
set_option maxRecDepth 100000 in
set_option maxHeartbeats 4000000 in
theorem limits_mbp (a : ByteArray) (p q x : Int) (m : Nat) (n : Nat) (w : World) (he : EnvW w) (bx : x.natAbs < 10 ^ 5) (hx : 0 < x) (hm : m < 200) (hm0 : m ≠ 0) (hn : n < 200) (hf : ¬ m + n < 200)
    (Mx : ∀ V, EnvW V → Calls Tryz.prog 33 #[.string a, .int .i64 5] V fun e w' => e = .returned (.string (N3.S x)) ∧ Below V.heap.size V w')
    (hp : ∀ V, EnvW V → Calls Tryz.prog 43 #[.int .i64 p, .int .i64 200] V fun e w' => e = .returned (.int .i64 (m : Int)) ∧ Below V.heap.size V w')
    (hq : ∀ V, EnvW V → Calls Tryz.prog 43 #[.int .i64 q, .int .i64 200] V fun e w' => e = .returned (.int .i64 (n : Int)) ∧ Below V.heap.size V w') :
    Calls Tryz.prog 10 #[.string a, .int .i64 p, .int .i64 q] w fun e w' => e = .returned (.bool true) ∧ Below w.heap.size w w' := by
  have HE := Lib.hid he
  have F0 := Lib.hid (fun V (_ : EnvW V) => sane_true V ‹EnvW V›)
  have M1 := Lib.hid Mx
  have PM := Lib.hid hp
  have PN := Lib.hid hq
  have lx := N3.lim_of bx (by decide)
  have lm : (10 ^ 5 : Nat) < N3.lim := by decide
  have e200 : (10 ^ 200 : Nat) = N3.lim := rfl
  have hB := nineB_S 200 (by decide)
  have hNB := neg_nineB 200 (by decide)
  rw [e200] at hB hNB
  have lM : ((N3.lim - 1 : Nat) : Int).natAbs < N3.lim := by omega
  have lN : (-((N3.lim - 1 : Nat) : Int)).natAbs < N3.lim := by omega
  have p1 : 1 ≤ 10 ^ n := Nat.one_le_pow _ _ (by decide)
  have lT : ((2 * 10 ^ n - 1 : Nat) : Int).natAbs < N3.lim := by
    have k := (N3.prod_fits 0 n).2 (by omega)
    rw [Nat.pow_zero, Nat.one_mul] at k
    rw [Int.natAbs_natCast]; exact k
  have N0 := Lib.hid (fun V (hV : EnvW V) => (nines_any 200 V (by decide)).mono (fun e W h => (⟨h.1, h.2 ▸ Below.refl _ _⟩ : e = .returned (.string (nineB 200)) ∧ Below V.heap.size V W)))
  have A := Lib.hid (fun V (hV : EnvW V) => by have k := add_big lM lx (by omega) V hV; rw [← hB] at k; exact k)
  have SB := Lib.hid (fun V (hV : EnvW V) => by have k := sub_big lN lx (by omega) V hV; rw [← hNB] at k; exact k)
  have NN := Lib.hid (fun V (hV : EnvW V) => (nines_any n V (by omega)).mono (fun e W h => (⟨h.1, h.2 ▸ Below.refl _ _⟩ : e = .returned (.string (nineB n)) ∧ Below V.heap.size V W)))
  have V9 := Lib.hid (fun V (hV : EnvW V) => by have k := valid_f (nineB 201) V (by rw [nineB_size]; decide); rw [nine_bad] at k; exact k)
  have VM := Lib.hid (fun V (hV : EnvW V) => by have k := valid_s lN V; rw [← hNB] at k; exact k)
  have C := Lib.hid (fun V (hV : EnvW V) => by have k := compare_s lx lim0 V; rw [S_zero] at k; exact k)
  have ec : 0 < N3.cmpI x 0 := by unfold N3.cmpI; (repeat' split) <;> omega
  have p2 : 1 ≤ 10 ^ m := Nat.one_le_pow _ _ (by decide)
  have e4 : ((10 ^ m - 1 : Nat) : Int) + 1 = ((10 ^ m : Nat) : Int) := by omega
  have l10' := Nat.pow_lt_pow_right (a := 10) (by decide) hm
  rw [e200] at l10'
  have l10 : ((10 ^ m : Nat) : Int).natAbs < N3.lim := by rw [Int.natAbs_natCast]; exact l10'
  have l9 : ((10 ^ m - 1 : Nat) : Int).natAbs < N3.lim := by rw [Int.natAbs_natCast]; exact Nat.lt_of_le_of_lt (Nat.sub_le _ _) l10'
  have e5 : ((10 ^ m : Nat) : Int) * ((2 * 10 ^ n - 1 : Nat) : Int) = ((10 ^ m * (2 * 10 ^ n - 1) : Nat) : Int) := by rw [Int.natCast_mul]
  have hfit := N3.prod_fits m n
  have hmi : ¬ (m : Int) = 0 := by omega
  have NM := Lib.hid (fun V (hV : EnvW V) => (nines_any m V (by omega)).mono (fun e W h => (⟨h.1, h.2 ▸ Below.refl _ _⟩ : e = .returned (.string (nineB m)) ∧ Below V.heap.size V W)))
  have A1 := Lib.hid (fun V (hV : EnvW V) => by have k := add_s l9 lim1 (by rw [e4]; exact l10) V hV; rw [e4, S_one, ← nineB_S m hm0] at k; exact k)
  have MU := Lib.hid (fun V (hV : EnvW V) => by have k := mul_big l10 lT (by rw [e5, Int.natAbs_natCast]; exact fun j => hf (hfit.1 j)) V hV; rw [← one_nineB] at k; exact k)
  have hnn : ¬ (m : Int) + (n : Int) < 200 := by omega
  have hnn2 : 200 ≤ (m : Int) + (n : Int) := by omega
  have hnn3 : decide ((m : Int) + (n : Int) < 200) = false := decide_eq_false hnn
  have hwmn : IntKind.i64.wrap ((m : Int) + (n : Int)) = (m : Int) + (n : Int) := by rw [IntKind.wrap_i64]; omega
  have hs0 := nineB_size 200
  have hs1 := nineB_size n
  have h9 := nineB_succ 200
  have q1 : ¬ 9223372036854775807 < (nineB 200).size + 1 := by omega
  have q2 : ¬ 9223372036854775807 < 1 + (nineB 200).size := by omega
  have q3 : ¬ 9223372036854775807 < 1 + (nineB n).size := by omega
  have q4 : ¬ 9223372036854775807 < (⟨#[45]⟩ : ByteArray).size + (nineB 200).size := by show ¬ 9223372036854775807 < 1 + (nineB 200).size; omega
  have q5 : ¬ 9223372036854775807 < (⟨#[49]⟩ : ByteArray).size + (nineB n).size := by show ¬ 9223372036854775807 < 1 + (nineB n).size; omega
  have q6 : ¬ 9223372036854775807 < (nineB 200).size + (⟨#[57]⟩ : ByteArray).size := by show ¬ 9223372036854775807 < (nineB 200).size + 1; omega
  generalize nineB 201 = B9 at *
  generalize nineB 200 = B at *
  generalize N3.S ((10 ^ m : Nat) : Int) = st at *
  generalize nineB m = Bm at *
  generalize nineB n = Bn at *
  generalize N3.S x = sx at *
  generalize N3.cmpI x 0 = cx at *
  clear he bx hx lx lm e200 hB hNB lM lN p1 lT hs0 hs1 Mx hp hq p2 e4 l10' l10 l9 e5 hfit hm0 hm hf
  go_enter Tryz.func10, Tryz.ntmps10
  go_wp2_with omega
  refine (F0.out _ HE.out).mono ?_
  rintro e W1 ⟨rfl, hb1⟩
  have hB1 := hb1
  go_wp2_with omega
  refine (M1.out _ (HE.out.below hB1)).mono ?_
  rintro e W2 ⟨rfl, hb2⟩
  have hB2 := hB1.trans (hb2.mono hB1.size)
  go_wp2_with omega
  refine (N0.out _ (HE.out.below hB2)).mono ?_
  rintro e W3 ⟨rfl, hb3⟩
  have hB3 := hB2.trans (hb3.mono hB2.size)
  go_wp2_with omega
  refine (A.out _ (HE.out.below hB3)).mono ?_
  rintro e W4 ⟨rfl, hb4⟩
  have hB4 := hB3.trans (hb4.mono hB3.size)
  go_wp2_with omega
  refine (SB.out _ (HE.out.below hB4)).mono ?_
  rintro e W5 ⟨rfl, hb5⟩
  have hB5 := hB4.trans (hb5.mono hB4.size)
  go_wp2_with omega
  refine (PM.out _ (HE.out.below hB5)).mono ?_
  rintro e W6 ⟨rfl, hb6⟩
  have hB6 := hB5.trans (hb6.mono hB5.size)
  go_wp2_with omega
  refine (PN.out _ (HE.out.below hB6)).mono ?_
  rintro e W7 ⟨rfl, hb7⟩
  have hB7 := hB6.trans (hb7.mono hB6.size)
  go_wp2_with omega
  refine (NM.out _ (HE.out.below hB7)).mono ?_
  rintro e W8 ⟨rfl, hb8⟩
  have hB8 := hB7.trans (hb8.mono hB7.size)
  go_wp2_with omega
  refine (A1.out _ (HE.out.below hB8)).mono ?_
  rintro e W9 ⟨rfl, hb9⟩
  have hB9 := hB8.trans (hb9.mono hB8.size)
  go_wp2_with omega
  refine (NN.out _ (HE.out.below hB9)).mono ?_
  rintro e W10 ⟨rfl, hb10⟩
  have hB10 := hB9.trans (hb10.mono hB9.size)
  go_wp2_with omega
  refine (MU.out _ (HE.out.below hB10)).mono ?_
  rintro e W11 ⟨rfl, hb11⟩
  have hB11 := hB10.trans (hb11.mono hB10.size)
  go_wp2_with omega
  refine (C.out _ (HE.out.below hB11)).mono ?_
  rintro e W12 ⟨rfl, hb12⟩
  have hB12 := hB11.trans (hb12.mono hB11.size)
  go_wp2_with omega
  refine (V9.out _ (HE.out.below hB12)).mono ?_
  rintro e W13 ⟨rfl, hb13⟩
  have hB13 := hB12.trans (hb13.mono hB12.size)
  go_wp2_with omega
  refine (VM.out _ (HE.out.below hB13)).mono ?_
  rintro e W14 ⟨rfl, hb14⟩
  have hB14 := hB13.trans (hb14.mono hB13.size)
  go_wp2_with omega
  go_ret
  exact ⟨rfl, hB14⟩
set_option maxRecDepth 100000 in
set_option maxHeartbeats 4000000 in
theorem limits_mbn (a : ByteArray) (p q x : Int) (m : Nat) (n : Nat) (w : World) (he : EnvW w) (bx : x.natAbs < 10 ^ 5) (hx : ¬ 0 < x) (hm : m < 200) (hm0 : m ≠ 0) (hn : n < 200) (hf : ¬ m + n < 200)
    (Mx : ∀ V, EnvW V → Calls Tryz.prog 33 #[.string a, .int .i64 5] V fun e w' => e = .returned (.string (N3.S x)) ∧ Below V.heap.size V w')
    (hp : ∀ V, EnvW V → Calls Tryz.prog 43 #[.int .i64 p, .int .i64 200] V fun e w' => e = .returned (.int .i64 (m : Int)) ∧ Below V.heap.size V w')
    (hq : ∀ V, EnvW V → Calls Tryz.prog 43 #[.int .i64 q, .int .i64 200] V fun e w' => e = .returned (.int .i64 (n : Int)) ∧ Below V.heap.size V w') :
    Calls Tryz.prog 10 #[.string a, .int .i64 p, .int .i64 q] w fun e w' => e = .returned (.bool true) ∧ Below w.heap.size w w' := by
  have HE := Lib.hid he
  have F0 := Lib.hid (fun V (_ : EnvW V) => sane_true V ‹EnvW V›)
  have M1 := Lib.hid Mx
  have PM := Lib.hid hp
  have PN := Lib.hid hq
  have lx := N3.lim_of bx (by decide)
  have lm : (10 ^ 5 : Nat) < N3.lim := by decide
  have e200 : (10 ^ 200 : Nat) = N3.lim := rfl
  have hB := nineB_S 200 (by decide)
  have hNB := neg_nineB 200 (by decide)
  rw [e200] at hB hNB
  have lM : ((N3.lim - 1 : Nat) : Int).natAbs < N3.lim := by omega
  have lN : (-((N3.lim - 1 : Nat) : Int)).natAbs < N3.lim := by omega
  have p1 : 1 ≤ 10 ^ n := Nat.one_le_pow _ _ (by decide)
  have lT : ((2 * 10 ^ n - 1 : Nat) : Int).natAbs < N3.lim := by
    have k := (N3.prod_fits 0 n).2 (by omega)
    rw [Nat.pow_zero, Nat.one_mul] at k
    rw [Int.natAbs_natCast]; exact k
  have N0 := Lib.hid (fun V (hV : EnvW V) => (nines_any 200 V (by decide)).mono (fun e W h => (⟨h.1, h.2 ▸ Below.refl _ _⟩ : e = .returned (.string (nineB 200)) ∧ Below V.heap.size V W)))
  have A := Lib.hid (fun V (hV : EnvW V) => by have k := add_s lM lx (by omega) V hV; rw [← hB] at k; exact k)
  have SB := Lib.hid (fun V (hV : EnvW V) => by have k := sub_s lN lx (by omega) V hV; rw [← hNB] at k; exact k)
  have NN := Lib.hid (fun V (hV : EnvW V) => (nines_any n V (by omega)).mono (fun e W h => (⟨h.1, h.2 ▸ Below.refl _ _⟩ : e = .returned (.string (nineB n)) ∧ Below V.heap.size V W)))
  have V9 := Lib.hid (fun V (hV : EnvW V) => by have k := valid_f (nineB 201) V (by rw [nineB_size]; decide); rw [nine_bad] at k; exact k)
  have VM := Lib.hid (fun V (hV : EnvW V) => by have k := valid_s lN V; rw [← hNB] at k; exact k)
  have C := Lib.hid (fun V (hV : EnvW V) => by have k := compare_s lx lim0 V; rw [S_zero] at k; exact k)
  have ec : ¬ 0 < N3.cmpI x 0 := by unfold N3.cmpI; (repeat' split) <;> omega
  have p2 : 1 ≤ 10 ^ m := Nat.one_le_pow _ _ (by decide)
  have e4 : ((10 ^ m - 1 : Nat) : Int) + 1 = ((10 ^ m : Nat) : Int) := by omega
  have l10' := Nat.pow_lt_pow_right (a := 10) (by decide) hm
  rw [e200] at l10'
  have l10 : ((10 ^ m : Nat) : Int).natAbs < N3.lim := by rw [Int.natAbs_natCast]; exact l10'
  have l9 : ((10 ^ m - 1 : Nat) : Int).natAbs < N3.lim := by rw [Int.natAbs_natCast]; exact Nat.lt_of_le_of_lt (Nat.sub_le _ _) l10'
  have e5 : ((10 ^ m : Nat) : Int) * ((2 * 10 ^ n - 1 : Nat) : Int) = ((10 ^ m * (2 * 10 ^ n - 1) : Nat) : Int) := by rw [Int.natCast_mul]
  have hfit := N3.prod_fits m n
  have hmi : ¬ (m : Int) = 0 := by omega
  have NM := Lib.hid (fun V (hV : EnvW V) => (nines_any m V (by omega)).mono (fun e W h => (⟨h.1, h.2 ▸ Below.refl _ _⟩ : e = .returned (.string (nineB m)) ∧ Below V.heap.size V W)))
  have A1 := Lib.hid (fun V (hV : EnvW V) => by have k := add_s l9 lim1 (by rw [e4]; exact l10) V hV; rw [e4, S_one, ← nineB_S m hm0] at k; exact k)
  have MU := Lib.hid (fun V (hV : EnvW V) => by have k := mul_big l10 lT (by rw [e5, Int.natAbs_natCast]; exact fun j => hf (hfit.1 j)) V hV; rw [← one_nineB] at k; exact k)
  have hnn : ¬ (m : Int) + (n : Int) < 200 := by omega
  have hnn2 : 200 ≤ (m : Int) + (n : Int) := by omega
  have hnn3 : decide ((m : Int) + (n : Int) < 200) = false := decide_eq_false hnn
  have hwmn : IntKind.i64.wrap ((m : Int) + (n : Int)) = (m : Int) + (n : Int) := by rw [IntKind.wrap_i64]; omega
  have hs0 := nineB_size 200
  have hs1 := nineB_size n
  have h9 := nineB_succ 200
  have q1 : ¬ 9223372036854775807 < (nineB 200).size + 1 := by omega
  have q2 : ¬ 9223372036854775807 < 1 + (nineB 200).size := by omega
  have q3 : ¬ 9223372036854775807 < 1 + (nineB n).size := by omega
  have q4 : ¬ 9223372036854775807 < (⟨#[45]⟩ : ByteArray).size + (nineB 200).size := by show ¬ 9223372036854775807 < 1 + (nineB 200).size; omega
  have q5 : ¬ 9223372036854775807 < (⟨#[49]⟩ : ByteArray).size + (nineB n).size := by show ¬ 9223372036854775807 < 1 + (nineB n).size; omega
  have q6 : ¬ 9223372036854775807 < (nineB 200).size + (⟨#[57]⟩ : ByteArray).size := by show ¬ 9223372036854775807 < (nineB 200).size + 1; omega
  generalize nineB 201 = B9 at *
  generalize nineB 200 = B at *
  generalize N3.S ((10 ^ m : Nat) : Int) = st at *
  generalize nineB m = Bm at *
  generalize nineB n = Bn at *
  generalize N3.S x = sx at *
  generalize N3.cmpI x 0 = cx at *
  generalize N3.S (((N3.lim - 1 : Nat) : Int) + x) = sA at *
  generalize N3.S (-((N3.lim - 1 : Nat) : Int) - x) = sS at *
  clear he bx hx lx lm e200 hB hNB lM lN p1 lT hs0 hs1 Mx hp hq p2 e4 l10' l10 l9 e5 hfit hm0 hm hf
  have ec2 : cx ≤ 0 := Int.not_lt.1 ec
  have ec3 : decide (0 < cx) = false := decide_eq_false ec
  go_enter Tryz.func10, Tryz.ntmps10
  go_wp2_with omega
  refine (F0.out _ HE.out).mono ?_
  rintro e W1 ⟨rfl, hb1⟩
  have hB1 := hb1
  go_wp2_with omega
  refine (M1.out _ (HE.out.below hB1)).mono ?_
  rintro e W2 ⟨rfl, hb2⟩
  have hB2 := hB1.trans (hb2.mono hB1.size)
  go_wp2_with omega
  refine (N0.out _ (HE.out.below hB2)).mono ?_
  rintro e W3 ⟨rfl, hb3⟩
  have hB3 := hB2.trans (hb3.mono hB2.size)
  go_wp2_with omega
  refine (A.out _ (HE.out.below hB3)).mono ?_
  rintro e W4 ⟨rfl, hb4⟩
  have hB4 := hB3.trans (hb4.mono hB3.size)
  go_wp2_with omega
  refine (SB.out _ (HE.out.below hB4)).mono ?_
  rintro e W5 ⟨rfl, hb5⟩
  have hB5 := hB4.trans (hb5.mono hB4.size)
  go_wp2_with omega
  refine (PM.out _ (HE.out.below hB5)).mono ?_
  rintro e W6 ⟨rfl, hb6⟩
  have hB6 := hB5.trans (hb6.mono hB5.size)
  go_wp2_with omega
  refine (PN.out _ (HE.out.below hB6)).mono ?_
  rintro e W7 ⟨rfl, hb7⟩
  have hB7 := hB6.trans (hb7.mono hB6.size)
  go_wp2_with omega
  refine (NM.out _ (HE.out.below hB7)).mono ?_
  rintro e W8 ⟨rfl, hb8⟩
  have hB8 := hB7.trans (hb8.mono hB7.size)
  go_wp2_with omega
  refine (A1.out _ (HE.out.below hB8)).mono ?_
  rintro e W9 ⟨rfl, hb9⟩
  have hB9 := hB8.trans (hb9.mono hB8.size)
  go_wp2_with omega
  refine (NN.out _ (HE.out.below hB9)).mono ?_
  rintro e W10 ⟨rfl, hb10⟩
  have hB10 := hB9.trans (hb10.mono hB9.size)
  go_wp2_with omega
  refine (MU.out _ (HE.out.below hB10)).mono ?_
  rintro e W11 ⟨rfl, hb11⟩
  have hB11 := hB10.trans (hb11.mono hB10.size)
  go_wp2_with omega
  refine (C.out _ (HE.out.below hB11)).mono ?_
  rintro e W12 ⟨rfl, hb12⟩
  have hB12 := hB11.trans (hb12.mono hB11.size)
  go_wp2_with omega
  refine (V9.out _ (HE.out.below hB12)).mono ?_
  rintro e W13 ⟨rfl, hb13⟩
  have hB13 := hB12.trans (hb13.mono hB12.size)
  go_wp2_with omega
  refine (VM.out _ (HE.out.below hB13)).mono ?_
  rintro e W14 ⟨rfl, hb14⟩
  have hB14 := hB13.trans (hb14.mono hB13.size)
  go_wp2_with omega
  go_ret
  exact ⟨rfl, hB14⟩
theorem pickI_bd (c : Int) : 0 ≤ pickI c 200 ∧ pickI c 200 < 200 := by unfold pickI; split <;> omega
theorem law_limits (a : ByteArray) (p q : Int) (w : World) (ha : a.size ≤ 9223372036854775807) (l1 : -9223372036854775808 ≤ p) (u1 : p ≤ 9223372036854775807) (l2 : -9223372036854775808 ≤ q) (u2 : q ≤ 9223372036854775807) (he : EnvW w) :
    Calls Tryz.prog 10 #[.string a, .int .i64 p, .int .i64 q] w fun e w' => e = .returned (.bool true) ∧ Below w.heap.size w w' := by
  have b1 := pickI_bd p
  have b2 := pickI_bd q
  have hM : ∀ V, EnvW V → Calls Tryz.prog 33 #[.string a, .int .i64 5] V fun e w' => e = .returned (.string (N3.S (madeV a 5))) ∧ Below V.heap.size V w' := fun V _ => made_any a 5 V (by decide) ha
  have hP : ∀ V, EnvW V → Calls Tryz.prog 43 #[.int .i64 p, .int .i64 200] V fun e w' => e = .returned (.int .i64 (pickI p 200)) ∧ Below V.heap.size V w' := fun V _ => (pick_any p V l1 u1).mono (fun e W h => ⟨h.1, h.2 ▸ Below.refl _ _⟩)
  have hQ : ∀ V, EnvW V → Calls Tryz.prog 43 #[.int .i64 q, .int .i64 200] V fun e w' => e = .returned (.int .i64 (pickI q 200)) ∧ Below V.heap.size V w' := fun V _ => (pick_any q V l2 u2).mono (fun e W h => ⟨h.1, h.2 ▸ Below.refl _ _⟩)
  obtain ⟨m, hm⟩ : ∃ m : Nat, pickI p 200 = (m : Int) := ⟨(pickI p 200).toNat, by omega⟩
  obtain ⟨n, hn⟩ : ∃ n : Nat, pickI q 200 = (n : Int) := ⟨(pickI q 200).toNat, by omega⟩
  rw [hm] at hP b1
  rw [hn] at hQ b2
  have bx := madeV_lt a 5
  by_cases hm0 : m = 0
  · subst hm0
    by_cases hx : 0 < madeV a 5
    · exact limits_zsp a p q _ n w he bx hx (by omega) hM hP hQ
    · exact limits_zsn a p q _ n w he bx hx (by omega) hM hP hQ
  · by_cases hf : m + n < 200
    · by_cases hx : 0 < madeV a 5
      · exact limits_msp a p q _ m n w he bx hx (by omega) hm0 (by omega) hf hM hP hQ
      · exact limits_msn a p q _ m n w he bx hx (by omega) hm0 (by omega) hf hM hP hQ
    · by_cases hx : 0 < madeV a 5
      · exact limits_mbp a p q _ m n w he bx hx (by omega) hm0 (by omega) hf hM hP hQ
      · exact limits_mbn a p q _ m n w he bx hx (by omega) hm0 (by omega) hf hM hP hQ
end Go.Proofs.YtjnpenljgfdaiaaGreatDoor

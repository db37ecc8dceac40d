/- nadirlaw04: pick; powers of ten as texts. -/
import Derived.Test.YtjnpenljgfdaiaaGreatDoorNL
namespace Go.Proofs.YtjnpenljgfdaiaaGreatDoor
open Go.RowKit Go.Shelf Lib

def pickN (c n : Int) : Int := if c < 0 then (-(c + 1)) % n else c % n
theorem pickN_bd (c : Int) {n : Int} (h : 0 < n) : 0 ≤ pickN c n ∧ pickN c n < n := by
  unfold pickN; split
  · exact ⟨Int.emod_nonneg _ (by omega), Int.emod_lt_of_pos _ h⟩
  · exact ⟨Int.emod_nonneg _ (by omega), Int.emod_lt_of_pos _ h⟩
set_option maxRecDepth 100000 in
theorem pick28 (c n : Int) (w : World) (h0 : -9223372036854775808 ≤ c) (h1 : c ≤ 9223372036854775807) (hn : 0 < n) (hn1 : n ≤ 9223372036854775807) :
    Calls Tryz.prog 28 #[.int .i64 c, .int .i64 n] w fun e w' => e = .returned (.int .i64 (pickN c n)) ∧ w = w' := by
  have hb := pickN_bd c hn
  have hnz : (n == 0) = false := beq_eq_false_iff_ne.2 (by omega)
  have hnz2 : ¬ n = 0 := by omega
  by_cases h : c < 0
  · have hw1 : IntKind.i64.wrap (c + 1) = c + 1 := by rw [IntKind.wrap_i64]; omega
    have hw2 : IntKind.i64.wrap (-(c + 1)) = -(c + 1) := by rw [IntKind.wrap_i64]; omega
    have e : pickN c n = -(Int.tmod (c + 1) n) := by unfold pickN; rw [if_pos h, ← Int.neg_tmod]; exact (Int.tmod_eq_emod_of_nonneg (by omega)).symm
    rw [e] at hb
    have hw3 : IntKind.i64.wrap (-(Int.tmod (c + 1) n)) = -(Int.tmod (c + 1) n) := by rw [IntKind.wrap_i64]; omega
    rw [e]
    clear hb e
    go_enter Tryz.func28, Tryz.ntmps28
    go_wp2
    go_ret
    exact ⟨rfl, rfl⟩
  · have e : pickN c n = c % n := by unfold pickN; rw [if_neg h]
    rw [e] at hb
    have hw3 : IntKind.i64.wrap (c % n) = c % n := by rw [IntKind.wrap_i64]; omega
    rw [e]
    clear e hb
    go_enter Tryz.func28, Tryz.ntmps28
    go_wp2
    go_ret
    exact ⟨rfl, rfl⟩
theorem S_ten (n : Nat) : (N3.S ((10 ^ n : Nat) : Int)).data.toList = 49 :: List.replicate n 48 := by
  unfold N3.S; rw [N3.itoa_nat, N3.ten_dig]
theorem S_ten_size (n : Nat) : (N3.S ((10 ^ n : Nat) : Int)).size = n + 1 := by
  rw [Lib.size_eq, S_ten, List.length_cons, List.length_replicate]
theorem S_ten_succ (n : Nat) : N3.S ((10 ^ n : Nat) : Int) ++ ⟨#[48]⟩ = N3.S ((10 ^ (n + 1) : Nat) : Int) := bytes_ext (by
  rw [ByteArray.data_append, Array.toList_append, S_ten, S_ten, List.replicate_succ']
  rfl)
theorem ten_lim {n : Nat} : (((10 ^ n : Nat) : Int)).natAbs < N3.lim ↔ n < 200 := by
  rw [Int.natAbs_natCast]
  exact Nat.pow_lt_pow_iff_right (by decide)
/-! ### RationalLimits, in numbers -/
theorem ten_fit {n : Nat} (h : n < 200) : Fit (((10 ^ n : Nat) : Int), 1) := int_fit (ten_lim.2 h)
theorem lim_mul {n m : Nat} (hn : n < 200) (hm : m < 200) : mulR (N3.S ((10 ^ n : Nat) : Int)) (N3.S 1) (N3.S ((10 ^ m : Nat) : Int)) (N3.S 1) = if n + m < 200 then some (strR (N3.mulF (((10 ^ n : Nat) : Int), 1) (((10 ^ m : Nat) : Int), 1))) else none := by
  rw [mulR_S (ten_fit hn) (ten_fit hm)]
  have h1 : (((10 ^ n : Nat) : Int) * ((10 ^ m : Nat) : Int)).natAbs < N3.lim ↔ n + m < 200 := by rw [← Int.natCast_mul, ← Nat.pow_add]; exact ten_lim
  have h2 : ((1 : Int) * 1).natAbs < N3.lim := lim1
  by_cases h : n + m < 200
  · rw [if_pos ⟨h1.2 h, h2⟩, if_pos h]
  · rw [if_neg (fun k => h (h1.1 k.1)), if_neg h]
theorem small_low (m : Nat) : N3.Low (1, ((10 ^ m : Nat) : Int)) := ⟨by show (0 : Int) < ((10 ^ m : Nat) : Int); have := Nat.pow_pos (n := m) (show 0 < 10 by decide); omega, by show Nat.gcd (Int.natAbs 1) _ = 1; exact Nat.gcd_one_left _⟩
theorem small_fit {m : Nat} (hm : m < 200) : Fit (1, ((10 ^ m : Nat) : Int)) := ⟨small_low m, lim1, ten_lim.2 hm⟩
theorem lim_div {m : Nat} (hm : m < 200) : divR (N3.S 1) (N3.S 1) (N3.S ((10 ^ m : Nat) : Int)) (N3.S 1) = some (N3.S 1, N3.S ((10 ^ m : Nat) : Int)) := by
  have hp := Nat.pow_pos (n := m) (show 0 < 10 by decide)
  rw [divR_S (r := (1, 1)) (int_fit lim1) (ten_fit hm) (by show ((10 ^ m : Nat) : Int) ≠ 0; omega)]
  rw [if_pos ⟨by show ((1 : Int) * 1).natAbs < _; exact lim1, by show ((1 : Int) * ((10 ^ m : Nat) : Int)).natAbs < _; rw [Int.one_mul]; exact ten_lim.2 hm⟩]
  have : N3.divF (1, 1) (((10 ^ m : Nat) : Int), 1) = (1, ((10 ^ m : Nat) : Int)) := by
    unfold N3.divF
    rw [show ((1, 1) : Int × Int).1 * (((10 ^ m : Nat) : Int), (1 : Int)).2 = 1 from rfl, show ((1, 1) : Int × Int).2 * (((10 ^ m : Nat) : Int), (1 : Int)).1 = ((10 ^ m : Nat) : Int) from Int.one_mul _]
    exact N3.mk_self (small_low m)
  rw [this]; rfl
theorem lim_add {n m : Nat} (hn : n < 200) (hm : m < 200) : errR (sumR N3.addO (N3.S ((10 ^ n : Nat) : Int)) (N3.S 1) (N3.S 1) (N3.S ((10 ^ m : Nat) : Int))) = if n + m < 200 then 0 else 40 := by
  rw [addR_S (ten_fit hn) (small_fit hm)]
  have h1 : (((10 ^ n : Nat) : Int) * ((10 ^ m : Nat) : Int)).natAbs < N3.lim ↔ n + m < 200 := by rw [← Int.natCast_mul, ← Nat.pow_add]; exact ten_lim
  by_cases h : n + m < 200
  · have h3 : (((10 ^ n : Nat) : Int) * ((10 ^ m : Nat) : Int) + 1 * 1).natAbs < N3.lim := by
      have e : ((10 ^ n : Nat) : Int) * ((10 ^ m : Nat) : Int) + 1 * 1 = ((10 ^ (n + m) + 1 : Nat) : Int) := by rw [← Int.natCast_mul, ← Nat.pow_add]; omega
      rw [e, Int.natAbs_natCast]
      have h4 : 10 ^ (n + m) ≤ 10 ^ 199 := Nat.pow_le_pow_right (by decide) (by omega)
      have h5 : (10 : Nat) ^ 199 + 1 < N3.lim := by decide
      omega
    rw [if_pos ⟨h1.2 h, lim1, h3, by show ((1 : Int) * ((10 ^ m : Nat) : Int)).natAbs < _; rw [Int.one_mul]; exact ten_lim.2 hm⟩, if_pos h]; rfl
  · rw [if_neg (fun k => h (h1.1 k.1)), if_neg h]; rfl
theorem cmpI_ten (n m : Nat) : N3.cmpI ((10 ^ n : Nat) : Int) ((10 ^ m : Nat) : Int) = if n < m then -1 else if m < n then 1 else 0 := by
  unfold N3.cmpI
  have h1 : ((10 ^ n : Nat) : Int) < ((10 ^ m : Nat) : Int) ↔ n < m := by
    rw [Int.ofNat_lt]; exact Nat.pow_lt_pow_iff_right (by decide)
  have h2 : ((10 ^ m : Nat) : Int) < ((10 ^ n : Nat) : Int) ↔ m < n := by
    rw [Int.ofNat_lt]; exact Nat.pow_lt_pow_iff_right (by decide)
  simp only [h1, h2]
theorem lim_cmp1 {n m : Nat} (hn : n < 200) (hm : m < 200) : cmpR (N3.S ((10 ^ n : Nat) : Int)) (N3.S 1) (N3.S ((10 ^ m : Nat) : Int)) (N3.S 1) = if n < m then -1 else if m < n then 1 else 0 := by
  rw [cmp_S (ten_fit hn) (ten_fit hm)]
  unfold N3.cmpF
  rw [show (((10 ^ n : Nat) : Int), (1 : Int)).1 * (((10 ^ m : Nat) : Int), (1 : Int)).2 = ((10 ^ n : Nat) : Int) from Int.mul_one _, show (((10 ^ m : Nat) : Int), (1 : Int)).1 * (((10 ^ n : Nat) : Int), (1 : Int)).2 = ((10 ^ m : Nat) : Int) from Int.mul_one _]
  exact cmpI_ten n m
theorem lim_cmp2 {n m : Nat} (hn : n < 200) (hm : m < 200) : cmpR (N3.S ((10 ^ n : Nat) : Int)) (N3.S 1) (N3.S 1) (N3.S ((10 ^ m : Nat) : Int)) = if n + m = 0 then 0 else 1 := by
  rw [cmp_S (ten_fit hn) (small_fit hm)]
  unfold N3.cmpF
  rw [show (((10 ^ n : Nat) : Int), (1 : Int)).1 * ((1 : Int), ((10 ^ m : Nat) : Int)).2 = ((10 ^ (n + m) : Nat) : Int) from by rw [Nat.pow_add, Int.natCast_mul], show ((1 : Int), ((10 ^ m : Nat) : Int)).1 * (((10 ^ n : Nat) : Int), (1 : Int)).2 = ((10 ^ 0 : Nat) : Int) from rfl, cmpI_ten]
  by_cases h : n + m = 0
  · rw [if_pos h, h]; rfl
  · rw [if_neg h, if_neg (by omega), if_pos (by omega)]
end Go.Proofs.YtjnpenljgfdaiaaGreatDoor

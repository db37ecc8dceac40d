/- Plain: nines, and products at the limit of 200 digits (IntegerLimits). -/
import Derived.Test.YtjnpenljgfdaiaaGreatDoorLaw3
namespace N3
open Go Go.Lib

def ninesL (n : Nat) : List UInt8 := List.replicate n 57
theorem ninesL_succ (n : Nat) : ninesL (n + 1) = ninesL n ++ [57] := by unfold ninesL; rw [List.replicate_succ']
theorem dig_snoc (a d : Nat) (ha : a ≠ 0) (hd : d < 10) : decDigits (a * 10 + d) = decDigits a ++ [UInt8.ofNat (48 + d)] := by
  conv => lhs; rw [decDigits, dif_neg (by omega)]
  rw [show (a * 10 + d) / 10 = a by omega, show (a * 10 + d) % 10 = d by omega]
theorem nines_dig : ∀ n, n ≠ 0 → decDigits (10 ^ n - 1) = ninesL n := by
  intro n
  induction n with
  | zero => intro h; exact absurd rfl h
  | succ n ih =>
    intro _
    by_cases h : n = 0
    · subst h; rw [decDigits_one (by decide)]; rfl
    · have hp : 1 < 10 ^ n := Nat.one_lt_pow h (by decide)
      rw [show 10 ^ (n + 1) - 1 = (10 ^ n - 1) * 10 + 9 by rw [Nat.pow_succ]; omega, dig_snoc _ _ (by omega) (by decide), ih h, ninesL_succ]
      rfl
theorem one_nines_dig : ∀ n, decDigits (2 * 10 ^ n - 1) = 49 :: ninesL n := by
  intro n
  induction n with
  | zero => rw [decDigits_one (by decide)]; rfl
  | succ n ih =>
    have hp : 1 ≤ 10 ^ n := Nat.one_le_pow _ _ (by decide)
    rw [show 2 * 10 ^ (n + 1) - 1 = (2 * 10 ^ n - 1) * 10 + 9 by rw [Nat.pow_succ]; omega, dig_snoc _ _ (by omega) (by decide), ih, ninesL_succ]
    rfl
theorem ten_dig : ∀ n, decDigits (10 ^ n) = 49 :: List.replicate n 48 := by
  intro n
  induction n with
  | zero => rw [Nat.pow_zero, decDigits_one (by decide)]; rfl
  | succ n ih =>
    have hp : 1 ≤ 10 ^ n := Nat.one_le_pow _ _ (by decide)
    rw [show 10 ^ (n + 1) = 10 ^ n * 10 + 0 by rw [Nat.pow_succ]; omega, dig_snoc _ _ (by omega) (by decide), ih, List.replicate_succ']
    rfl
/-- How many digits the product has. -/
theorem prod_digits (m n : Nat) : nDigits (10 ^ m * (2 * 10 ^ n - 1)) = m + n + 1 := by
  have hm : 1 ≤ 10 ^ m := Nat.one_le_pow _ _ (by decide)
  have hn : 1 ≤ 10 ^ n := Nat.one_le_pow _ _ (by decide)
  refine nDigits_unique _ _ ?_ ?_
  · rw [Nat.pow_add]; exact Nat.mul_le_mul_left _ (by omega)
  · rw [Nat.pow_succ, Nat.pow_add, Nat.mul_assoc]
    exact Nat.mul_lt_mul_of_pos_left (by omega) (by omega)
theorem prod_fits (m n : Nat) : 10 ^ m * (2 * 10 ^ n - 1) < lim ↔ m + n < 200 := by
  unfold lim
  rw [← nDigits_le (by decide), prod_digits]
  omega
end N3

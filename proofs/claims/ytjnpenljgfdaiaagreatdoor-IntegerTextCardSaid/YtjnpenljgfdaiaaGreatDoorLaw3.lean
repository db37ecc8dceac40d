/- Plain: what the laws of chapter 03 say of numbers. -/
import Derived.Test.YtjnpenljgfdaiaaGreatDoorSgn
namespace N3
open Go Go.Lib

/-- The greatest common divisor, as an integer. -/
def gcdI (x y : Int) : Int := (Nat.gcd x.natAbs y.natAbs : Nat)
theorem gcdI_comm (x y : Int) : gcdI x y = gcdI y x := by unfold gcdI; rw [Nat.gcd_comm]
theorem gcdI_nonneg (x y : Int) : 0 ≤ gcdI x y := by unfold gcdI; omega
theorem gcdI_zero {x y : Int} : gcdI x y = 0 ↔ x = 0 ∧ y = 0 := by
  unfold gcdI
  constructor
  · intro h
    have h0 : Nat.gcd x.natAbs y.natAbs = 0 := by omega
    have h1 := Nat.eq_zero_of_gcd_eq_zero_left h0
    have h2 := Nat.eq_zero_of_gcd_eq_zero_right h0
    omega
  · rintro ⟨rfl, rfl⟩; rfl
theorem gcdI_dvd_left (x y : Int) : x % gcdI x y = 0 := by
  unfold gcdI
  have h := Nat.gcd_dvd_left x.natAbs y.natAbs
  exact Int.emod_eq_zero_of_dvd (Int.ofNat_dvd_left.2 h)
theorem gcdI_dvd_right (x y : Int) : y % gcdI x y = 0 := by rw [gcdI_comm]; exact gcdI_dvd_left y x
theorem gcd_parts {X Y A B : Nat} (h : 0 < Nat.gcd X Y) (hx : X = Nat.gcd X Y * A) (hy : Y = Nat.gcd X Y * B) : Nat.gcd A B = 1 := by
  have h3 := Nat.gcd_mul_left (Nat.gcd X Y) A B
  rw [← hx, ← hy] at h3
  exact Nat.eq_of_mul_eq_mul_left h (by rw [← h3, Nat.mul_one])
theorem gcdI_div {x y : Int} (h : ¬ (x = 0 ∧ y = 0)) : gcdI (x / gcdI x y) (y / gcdI x y) = 1 := by
  have hg : gcdI x y ≠ 0 := fun h0 => h (gcdI_zero.1 h0)
  have hx := Int.mul_ediv_add_emod x (gcdI x y)
  have hy := Int.mul_ediv_add_emod y (gcdI x y)
  rw [gcdI_dvd_left] at hx
  rw [gcdI_dvd_right] at hy
  have hgn : 0 < Nat.gcd x.natAbs y.natAbs := by unfold gcdI at hg; omega
  generalize hA : x / gcdI x y = A at hx ⊢
  generalize hB : y / gcdI x y = B at hy ⊢
  have e1 : x.natAbs = Nat.gcd x.natAbs y.natAbs * A.natAbs := by
    have : x = gcdI x y * A := by omega
    have h2 := congrArg Int.natAbs this
    rw [Int.natAbs_mul] at h2
    unfold gcdI at h2
    rwa [Int.natAbs_natCast] at h2
  have e2 : y.natAbs = Nat.gcd x.natAbs y.natAbs * B.natAbs := by
    have : y = gcdI x y * B := by omega
    have h2 := congrArg Int.natAbs this
    rw [Int.natAbs_mul] at h2
    unfold gcdI at h2
    rwa [Int.natAbs_natCast] at h2
  have h3 := gcd_parts hgn e1 e2
  unfold gcdI
  rw [h3]; rfl
theorem gcdI_mul (x y z : Int) : gcdI (x * z) (y * z) = (gcdI x y * z).natAbs := by
  unfold gcdI
  rw [Int.natAbs_mul, Int.natAbs_mul, Int.natAbs_mul, Nat.gcd_mul_right, Int.natAbs_natCast]
/-- The root of a square. -/
theorem root_sq (x : Int) : IsRoot x.natAbs (x * x).natAbs := by
  rw [Int.natAbs_mul]
  refine ⟨Nat.le_refl _, ?_⟩
  simp only [Nat.add_mul, Nat.mul_add]
  omega
theorem natAbs_lt {x y : Int} {a b k : Nat} (hx : x.natAbs < 10 ^ a) (hy : y.natAbs < 10 ^ b) (h : a + b ≤ k) : (x * y).natAbs < 10 ^ k := by
  rw [Int.natAbs_mul]
  have h1 : x.natAbs * y.natAbs < 10 ^ a * 10 ^ b := by
    rcases Nat.eq_zero_or_pos y.natAbs with h0 | h0
    · rw [h0, Nat.mul_zero]; exact Nat.mul_pos (Nat.pow_pos (by decide)) (Nat.pow_pos (by decide))
    · exact Nat.lt_of_lt_of_le (Nat.mul_lt_mul_of_pos_right hx h0) (Nat.mul_le_mul_left _ (Nat.le_of_lt hy))
  rw [← Nat.pow_add] at h1
  exact Nat.lt_of_lt_of_le h1 (Nat.pow_le_pow_right (by decide) h)
theorem natAbs_add_lt {x y : Int} {a b k : Nat} (hx : x.natAbs < 10 ^ a) (hy : y.natAbs < 10 ^ b) (h1 : a < k) (h2 : b < k) : (x + y).natAbs < 10 ^ k := by
  have e1 : 10 ^ a ≤ 10 ^ (k - 1) := Nat.pow_le_pow_right (by decide) (by omega)
  have e2 : 10 ^ b ≤ 10 ^ (k - 1) := Nat.pow_le_pow_right (by decide) (by omega)
  have e3 : 10 ^ k = 10 ^ (k - 1) * 10 := by rw [← Nat.pow_succ]; congr 1; omega
  omega
end N3

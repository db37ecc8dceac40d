/- Bit operations as arithmetic. -/
import Derived.WalkKit
import Derived.Laws.BitsLemmas
import Derived.Laws.Bits64b
namespace Go.Proofs.YtnckpnbecmmcpaaGreatDoor
open Go.RowKit

theorem wraps_u64 (n : Int) (h₀ : 0 ≤ n) (h₁ : n < 2 ^ 64) : IntKind.u64.wrap n = n := by rw [IntKind.wrap_u64]; omega
theorem wraps_i64 (n : Int) (h₀ : 0 ≤ n) (h₁ : n < 2 ^ 63) : IntKind.i64.wrap n = n := by rw [IntKind.wrap_i64]; omega
theorem wraps_u32 (n : Int) (h₀ : 0 ≤ n) (h₁ : n < 2 ^ 32) : IntKind.u32.wrap n = n := by rw [IntKind.wrap_u32]; omega

theorem u64_and127 (x : Int) (h₀ : 0 ≤ x) (h₁ : x < 18446744073709551616) : bits .and .u64 x 127 = x % 128 :=
  bits_mask .u64 64 (by decide) wraps_u64 7 (by decide) x h₀ h₁
theorem u64_and1 (x : Int) (h₀ : 0 ≤ x) (h₁ : x < 18446744073709551616) : bits .and .u64 x 1 = x % 2 :=
  bits_mask .u64 64 (by decide) wraps_u64 1 (by decide) x h₀ h₁
theorem u8_and127 (x : Int) (h₀ : 0 ≤ x) (h₁ : x < 256) : bits .and .u8 x 127 = x % 128 :=
  bits_mask .u8 8 (by decide) wraps_u8 7 (by decide) x h₀ h₁
theorem i64_and1 (x : Int) (h₀ : 0 ≤ x) (h₁ : x < 9223372036854775808) : bits .and .i64 x 1 = x % 2 :=
  bits_mask .i64 63 (by decide) wraps_i64 1 (by decide) x h₀ h₁
theorem u8_orhi (x : Int) (h₀ : 0 ≤ x) (h₁ : x < 128) : bits .or .u8 x 128 = x + 128 := by
  obtain ⟨a, rfl⟩ := Int.eq_ofNat_of_zero_le h₀
  have h := (bits_nat .u8 8 (by decide) wraps_u8 a 128 (by omega) (by decide)).2
  have h2 := (bits_nat .u8 8 (by decide) wraps_u8 128 a (by decide) (by omega)).2
  have h3 := bits_join .u8 8 (by decide) wraps_u8 7 128 (a : Int) (by decide) (by decide) (by decide) h₀ (by omega) (by omega)
  rw [show ((128 : Nat) : Int) = 128 from rfl] at h h2
  rw [h, Nat.or_comm, ← h2, h3]; omega
theorem u64_orhi (i : Nat) (x y : Int) (hy₀ : 0 ≤ y) (hy : y % 2 ^ i = 0) (hy₁ : y < 2 ^ 64) (hx₀ : 0 ≤ x) (hx : x < 2 ^ i) (hx1 : x < 2 ^ 64) : bits .or .u64 x y = x + y := by
  have h3 := bits_join .u64 64 (by decide) wraps_u64 i y x hy₀ hy hy₁ hx₀ hx hx1
  obtain ⟨a, rfl⟩ := Int.eq_ofNat_of_zero_le hx₀
  obtain ⟨b, rfl⟩ := Int.eq_ofNat_of_zero_le hy₀
  rw [(bits_nat .u64 64 (by decide) wraps_u64 b a (by exact_mod_cast hy₁) (by exact_mod_cast hx1)).2] at h3
  rw [(bits_nat .u64 64 (by decide) wraps_u64 a b (by exact_mod_cast hx1) (by exact_mod_cast hy₁)).2, Nat.or_comm, h3]; omega
theorem u64_xor0 (x : Int) (h₀ : 0 ≤ x) (h₁ : x < 18446744073709551616) : bits .xor .u64 x 0 = x := by
  obtain ⟨a, rfl⟩ := Int.eq_ofNat_of_zero_le h₀
  have := bits_xor_u64_nat a 0 (by omega) (by decide)
  simpa using this
theorem u64_xor1 (x : Int) (h₀ : 0 ≤ x) (h₁ : x < 18446744073709551616) : bits .xor .u64 x 18446744073709551615 = 18446744073709551615 - x := by
  obtain ⟨a, rfl⟩ := Int.eq_ofNat_of_zero_le h₀
  have ha : a < 2 ^ 64 := by omega
  have h := bits_xor_u64_nat a 18446744073709551615 (by omega) (by decide)
  have h2 : a ^^^ 18446744073709551615 = 18446744073709551615 - a := by
    have h3 := congrArg BitVec.toNat (BitVec.xor_allOnes (x := BitVec.ofNat 64 a))
    rw [BitVec.toNat_not, BitVec.toNat_xor, BitVec.toNat_allOnes, BitVec.toNat_ofNat, Nat.mod_eq_of_lt ha] at h3
    simpa using h3
  rw [h2] at h
  rw [show (18446744073709551615 : Int) = ((18446744073709551615 : Nat) : Int) from rfl, h]
  omega
theorem i64_xor0 (x : Int) (h₀ : -9223372036854775808 ≤ x) (h₁ : x ≤ 9223372036854775807) : bits .xor .i64 x 0 = x := by
  show IntKind.i64.wrap ((BitVec.ofInt 64 x ^^^ BitVec.ofInt 64 0).toNat : Int) = x
  rw [show BitVec.ofInt 64 0 = 0#64 from rfl, BitVec.xor_zero, BitVec.toNat_ofInt, IntKind.wrap_i64]
  omega
theorem i64_xorm1 (x : Int) (h₀ : -9223372036854775808 ≤ x) (h₁ : x ≤ 9223372036854775807) : bits .xor .i64 x (-1) = -x - 1 := by
  show IntKind.i64.wrap ((BitVec.ofInt 64 x ^^^ BitVec.ofInt 64 (-1)).toNat : Int) = _
  rw [show BitVec.ofInt 64 (-1) = BitVec.allOnes 64 from by decide, BitVec.xor_allOnes, BitVec.toNat_not, BitVec.toNat_ofInt, IntKind.wrap_i64]
  omega
theorem bits_xor_nat (k : IntKind) (j : Nat) (hj : j ≤ k.bits) (hk : ∀ n : Int, 0 ≤ n → n < 2 ^ j → k.wrap n = n) (a b : Nat) (ha : a < 2 ^ j) (hb : b < 2 ^ j) :
    bits .xor k a b = ((a ^^^ b : Nat) : Int) := by
  have hp : 2 ^ j ≤ 2 ^ k.bits := Nat.pow_le_pow_right (by decide) hj
  have ha' : a % 2 ^ k.bits = a := Nat.mod_eq_of_lt (Nat.lt_of_lt_of_le ha hp)
  have hb' : b % 2 ^ k.bits = b := Nat.mod_eq_of_lt (Nat.lt_of_lt_of_le hb hp)
  have cast : ∀ n : Nat, n < 2 ^ j → ((n : Nat) : Int) < 2 ^ j := fun n h => by exact_mod_cast h
  simp only [bits, BitVec.ofInt_natCast, BitVec.toNat_xor, BitVec.toNat_ofNat, ha', hb']
  exact hk _ (Int.natCast_nonneg _) (cast _ (Nat.xor_lt_two_pow ha hb))
theorem u32_xor (a b : Nat) (ha : a < 4294967296) (hb : b < 4294967296) : bits .xor .u32 (a : Int) (b : Int) = ((a ^^^ b : Nat) : Int) :=
  bits_xor_nat .u32 32 (by decide) wraps_u32 a b ha hb
theorem u32_and15 (x : Int) (h₀ : 0 ≤ x) (h₁ : x < 4294967296) : bits .and .u32 x 15 = x % 16 :=
  bits_mask .u32 32 (by decide) wraps_u32 4 (by decide) x h₀ h₁
theorem u8_xor (a b : Nat) (ha : a < 256) (hb : b < 256) : bits .xor .u8 (a : Int) (b : Int) = ((a ^^^ b : Nat) : Int) :=
  bits_xor_nat .u8 8 (by decide) wraps_u8 a b ha hb
theorem i64_xor (a b : Nat) (ha : a < 9223372036854775808) (hb : b < 9223372036854775808) : bits .xor .i64 (a : Int) (b : Int) = ((a ^^^ b : Nat) : Int) :=
  bits_xor_nat .i64 63 (by decide) wraps_i64 a b ha hb
theorem u32_not (a : Nat) (ha : a < 4294967296) : bits .xor .u32 IntKind.u32.max (a : Int) = 4294967295 - (a : Int) := by
  have h := u32_xor 4294967295 a (by decide) ha
  have h2 : 4294967295 ^^^ a = 4294967295 - a := by
    have h3 := congrArg BitVec.toNat (BitVec.allOnes_xor (x := BitVec.ofNat 32 a))
    rw [BitVec.toNat_not, BitVec.toNat_xor, BitVec.toNat_allOnes, BitVec.toNat_ofNat, Nat.mod_eq_of_lt ha] at h3
    simpa using h3
  rw [h2] at h
  rw [show IntKind.u32.max = ((4294967295 : Nat) : Int) from by decide, h]
  omega
end Go.Proofs.YtnckpnbecmmcpaaGreatDoor

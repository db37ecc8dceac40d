/- Plain mathematics of the wire encoding: no program in sight. -/
import Derived.Below
namespace Go.Proofs.YtgjihgdomicijaaDoor

def encF : Nat → Nat → List Int
  | 0, z => [(z : Int)]
  | f + 1, z => if z < 128 then [(z : Int)] else ((z % 128 + 128 : Nat) : Int) :: encF f (z / 128)
def enc (z : Nat) : List Int := encF z z

theorem encF_fuel : ∀ (f g z : Nat), z ≤ f → z ≤ g → encF f z = encF g z := by
  intro f
  induction f with
  | zero =>
    intro g z hz _
    obtain rfl : z = 0 := by omega
    cases g <;> simp [encF]
  | succ f ih =>
    intro g z hf hg
    cases g with
    | zero => obtain rfl : z = 0 := by omega
              simp [encF]
    | succ g =>
      unfold encF
      split
      · rfl
      · rw [ih g (z / 128) (by omega) (by omega)]

theorem enc_lt {z : Nat} (h : z < 128) : enc z = [(z : Int)] := by
  unfold enc; cases z <;> simp [encF]; omega
theorem enc_ge {z : Nat} (h : 128 ≤ z) : enc z = ((z % 128 + 128 : Nat) : Int) :: enc (z / 128) := by
  unfold enc
  cases z with
  | zero => omega
  | succ z =>
    conv => lhs; unfold encF
    rw [if_neg (by omega), encF_fuel z ((z + 1) / 128) _ (by omega) (by omega)]

theorem enc_len : ∀ (k z : Nat), z < 128 ^ (k + 1) → (enc z).length ≤ k + 1 := by
  intro k
  induction k with
  | zero => intro z h; rw [enc_lt (by simpa using h)]; simp
  | succ k ih =>
    intro z h
    by_cases hz : z < 128
    · rw [enc_lt hz]; simp
    · rw [enc_ge (by omega)]
      have := ih (z / 128) (by rw [Nat.div_lt_iff_lt_mul (by omega)]; rw [Nat.pow_succ] at h; exact h)
      simp; omega

def zig (n : Int) : Nat := if n < 0 then (-n).toNat * 2 - 1 else n.toNat * 2
theorem zig_lt {n : Int} (h0 : -4611686018427387903 ≤ n) (h1 : n ≤ 4611686018427387903) : zig n < 9223372036854775808 := by
  unfold zig; split <;> omega
theorem enc_zig_len {n : Int} (h0 : -4611686018427387903 ≤ n) (h1 : n ≤ 4611686018427387903) : (enc (zig n)).length ≤ 9 :=
  enc_len 8 _ (by have := zig_lt h0 h1; have e : 128 ^ (8 + 1) = 9223372036854775808 := by decide
                  rw [e]; exact this)
end Go.Proofs.YtgjihgdomicijaaDoor

/- The walks of the small functions of package program: bounds, sums, searches with a function. -/
import Derived.Test.YtblmpmapcdpaiaaProg
import Derived.Test.YtblmpmapcdpaiaaView
import Derived.Test.YtblmpmapcdpaiaaBits
import Derived.Test.YtblmpmapcdpaiaaRangeM
import Derived.Outline
namespace Go.Proofs.Ytblmpmapcdpaiaa
open Go.RowKit

def inB (n lo hi : Int) : Bool := decide (lo ≤ n) && decide (n ≤ hi)
theorem isIn_any (n lo hi : Int) (w : World) : Calls Try.prog 71 #[.int .i64 n, .int .i64 lo, .int .i64 hi] w fun e w' => e = .returned (.bool (inB n lo hi)) ∧ w = w' := by
  by_cases h : lo ≤ n
  · have hd : decide (lo ≤ n) = true := by simpa using h
    go_enter Try.func71, Try.ntmps71
    go_wp2
    go_ret
    exact ⟨by unfold inB; rw [hd]; rfl, rfl⟩
  · have hd : decide (lo ≤ n) = false := by simpa using h
    go_enter Try.func71, Try.ntmps71
    go_wp2
    go_ret
    exact ⟨by unfold inB; rw [hd]; rfl, rfl⟩

theorem pow_div (m i : Nat) : ((m : Int) / 2 ^ i) = ((m / 2 ^ i : Nat) : Int) := by simp
/-- 'set >> i & 1'. -/
theorem bit_and (set i : Nat) (h : set < 4611686018427387904) : bits .and .i64 ((set : Int) / 2 ^ i) 1 = ((set / 2 ^ i % 2 : Nat) : Int) := by
  have hle : set / 2 ^ i ≤ set := Nat.div_le_self _ _
  rw [pow_div, i64_and1 _ (Int.natCast_nonneg _) (by omega)]
  omega
theorem bit_true {set i : Nat} (h : bitOn set i = true) : (((set / 2 ^ i % 2 : Nat) : Int) == 1) = true := by
  have : set / 2 ^ i % 2 = 1 := by simpa [bitOn] using h
  rw [this]; rfl
theorem bit_false {set i : Nat} (h : bitOn set i = false) : (((set / 2 ^ i % 2 : Nat) : Int) == 1) = false := by
  have h1 : ¬ set / 2 ^ i % 2 = 1 := by simpa [bitOn] using h
  have : set / 2 ^ i % 2 = 0 := by omega
  rw [this]; rfl

set_option maxRecDepth 100000 in
theorem chosen_any (v : Value) (l : List Int) (set : Nat) (w : World) (hv : IntsAt w v l) (hl : l.length ≤ 60) (hc : coefOK l = true) (hs : set < 4611686018427387904) :
    Calls Try.prog 61 #[v, .int .i64 set] w fun e w' => e = .returned (.int .i64 (ch l set)) ∧ w = w' := by
  have HV := Lib.hid hv
  obtain ⟨a, cap, rfl, hle, hcm, -⟩ := hv
  have HC := Lib.hid hc
  clear hc
  unfold maxLen at hcm
  go_enter Try.func61, Try.ntmps61
  go_wp2
  go_loop [5, 6, 7, 10] (fun u5 _ _ u10 => ∃ k : Nat, k ≤ l.length ∧ u10 = .int .i64 k ∧ u5 = .int .i64 (chK l set k)) (fun _ _ _ u10 => (l.length - intOf u10).toNat)
  case atStart => exact ⟨0, by omega, rfl, rfl⟩
  case round =>
    obtain ⟨k, hk, rfl, rfl⟩ := hrel
    by_cases hkl : k < l.length
    · obtain ⟨b, off, rfl, hcell⟩ := HV.out.get (getD_some 0 hkl)
      obtain ⟨c0, c1⟩ := coefOK_get HC.out k
      obtain ⟨s0, s1⟩ := chK_bd (M := 1000000000) (by omega) (coefOK_get HC.out) set k
      have hand := bit_and set k hs
      have hk64 : k < 64 := by omega
      cases hb : bitOn set k with
      | true =>
        have hz := bit_true hb
        have HS : Hid (chK l set (k + 1) = chK l set k + l.getD k 0) := by unfold Hid; simp only [chK]; rw [hb]; rfl
        clear hb
        generalize l.getD k 0 = x at hcell c0 c1 HS
        generalize chK l set k = sm at s0 s1 HS ⊢
        generalize set / 2 ^ k % 2 = z at hand hz
        go_wp2
        go_round
        case rel => exact ⟨k + 1, by omega, by go_num, by rw [HS.out]⟩
        case measure => simp [intOf]; omega
      | false =>
        have hz := bit_false hb
        have HS : Hid (chK l set (k + 1) = chK l set k) := by unfold Hid; simp only [chK]; rw [hb]; simp
        clear hb
        generalize l.getD k 0 = x at hcell c0 c1
        generalize chK l set k = sm at s0 s1 HS ⊢
        generalize set / 2 ^ k % 2 = z at hand hz
        go_wp2
        go_round
        case rel => exact ⟨k + 1, by omega, by go_num, by rw [HS.out]⟩
        case measure => simp [intOf]; omega
    · obtain rfl : k = l.length := by omega
      go_wp2
      go_ret
      exact ⟨rfl, rfl⟩
end Go.Proofs.Ytblmpmapcdpaiaa

/- Plain: integers as strings: what each function of the chapter answers. -/
import Derived.Test.YtjnpenljgfdaiaaGreatDoorLaw3
namespace N3
open Go Go.Lib

def S (x : Int) : ByteArray := ⟨(itoa x).toArray⟩
def okS (s : ByteArray) : Bool := isI s.data.toList
def iV (s : ByteArray) : Int := intV s.data.toList
theorem iV_S (x : Int) : iV (S x) = x := by unfold iV S; exact intV_itoa x
theorem okS_S {x : Int} (h : x.natAbs < lim) : okS (S x) = true := by unfold okS S; exact isI_itoa h
theorem S_iV {s : ByteArray} (h : okS s = true) : S (iV s) = s := by
  unfold S iV
  unfold okS at h
  rw [(itoa_intV h).1]
theorem iV_lim {s : ByteArray} (h : okS s = true) : (iV s).natAbs < lim := (itoa_intV h).2
theorem S_inj {x y : Int} (h : S x = S y) : x = y := by rw [← iV_S x, h, iV_S]
theorem S_eq {x y : Int} : S x = S y ↔ x = y := ⟨S_inj, fun h => by rw [h]⟩
/-- An answer: an integer, or an error. -/
def outS (o : Option Int) : ByteArray := match o with
  | some x => if x.natAbs < lim then S x else ⟨#[]⟩
  | none => ⟨#[]⟩
def outE (o : Option Int) : Int := match o with
  | some x => if x.natAbs < lim then 0 else 30
  | none => 30
theorem outS_some {x : Int} (h : x.natAbs < lim) : outS (some x) = S x := by unfold outS; simp only [if_pos h]
theorem outE_some {x : Int} (h : x.natAbs < lim) : outE (some x) = 0 := by unfold outE; simp only [if_pos h]
theorem outS_big {x : Int} (h : ¬ x.natAbs < lim) : outS (some x) = ⟨#[]⟩ := by unfold outS; simp only [if_neg h]
theorem outE_big {x : Int} (h : ¬ x.natAbs < lim) : outE (some x) = 30 := by unfold outE; simp only [if_neg h]
def ok2 (a b : ByteArray) : Bool := okS a && okS b
def addO (a b : ByteArray) : Option Int := if ok2 a b = true then some (iV a + iV b) else none
def subO (a b : ByteArray) : Option Int := if ok2 a b = true then some (iV a - iV b) else none
def mulO (a b : ByteArray) : Option Int := if ok2 a b = true then some (iV a * iV b) else none
def gcdO (a b : ByteArray) : Option Int := if ok2 a b = true then some (gcdI (iV a) (iV b)) else none
def cmpS (a b : ByteArray) : Int := if ok2 a b = true then cmpI (iV a) (iV b) else 0
def okDiv (a b : ByteArray) : Bool := ok2 a b && decide (iV b ≠ 0)
def quoO (a b : ByteArray) : Option Int := if okDiv a b = true then some (iV a / iV b) else none
def remO (a b : ByteArray) : Option Int := if okDiv a b = true then some (iV a % iV b) else none
/-- The root, by search. -/
theorem root_ex (n : Nat) : ∃ r, IsRoot r n := by
  induction n with
  | zero => exact ⟨0, Nat.le_refl _, by decide⟩
  | succ n ih =>
    obtain ⟨r, h1, h2⟩ := ih
    by_cases h : (r + 1) * (r + 1) ≤ n + 1
    · refine ⟨r + 1, h, ?_⟩
      have e : (r + 1 + 1) * (r + 1 + 1) = (r + 1) * (r + 1) + 2 * r + 3 := by simp only [Nat.add_mul, Nat.mul_add]; omega
      omega
    · exact ⟨r, by omega, by omega⟩
noncomputable def rootN (n : Nat) : Nat := Classical.choose (root_ex n)
theorem rootN_is (n : Nat) : IsRoot (rootN n) n := Classical.choose_spec (root_ex n)
theorem rootN_eq {r n : Nat} (h : IsRoot r n) : rootN n = r := root_unique (rootN_is n) h
theorem rootN_le (n : Nat) : rootN n ≤ n := by
  have h := (rootN_is n).1
  generalize rootN n = r at h
  cases r with
  | zero => exact Nat.zero_le _
  | succ r => have : (r + 1) * 1 ≤ (r + 1) * (r + 1) := Nat.mul_le_mul_left _ (by omega)
              omega
noncomputable def rootO (a : ByteArray) : Option Int := if (okS a && decide (0 ≤ iV a)) = true then some ((rootN (iV a).natAbs : Nat) : Int) else none
/-- As a number of the machine. -/
def inM (x : Int) : Bool := decide (-9223372036854775808 ≤ x) && decide (x ≤ 9223372036854775807)
def toM (s : ByteArray) : Int := if (okS s && inM (iV s)) = true then iV s else 0
def toE (s : ByteArray) : Int := if (okS s && inM (iV s)) = true then 0 else 30
theorem ok2_S {x y : Int} (hx : x.natAbs < lim) (hy : y.natAbs < lim) : ok2 (S x) (S y) = true := by unfold ok2; rw [okS_S hx, okS_S hy]; rfl
theorem addO_S {x y : Int} (hx : x.natAbs < lim) (hy : y.natAbs < lim) : addO (S x) (S y) = some (x + y) := by unfold addO; rw [if_pos (ok2_S hx hy), iV_S, iV_S]
theorem subO_S {x y : Int} (hx : x.natAbs < lim) (hy : y.natAbs < lim) : subO (S x) (S y) = some (x - y) := by unfold subO; rw [if_pos (ok2_S hx hy), iV_S, iV_S]
theorem mulO_S {x y : Int} (hx : x.natAbs < lim) (hy : y.natAbs < lim) : mulO (S x) (S y) = some (x * y) := by unfold mulO; rw [if_pos (ok2_S hx hy), iV_S, iV_S]
theorem gcdO_S {x y : Int} (hx : x.natAbs < lim) (hy : y.natAbs < lim) : gcdO (S x) (S y) = some (gcdI x y) := by unfold gcdO; rw [if_pos (ok2_S hx hy), iV_S, iV_S]
theorem cmpS_S {x y : Int} (hx : x.natAbs < lim) (hy : y.natAbs < lim) : cmpS (S x) (S y) = cmpI x y := by unfold cmpS; rw [if_pos (ok2_S hx hy), iV_S, iV_S]
theorem okDiv_S {x y : Int} (hx : x.natAbs < lim) (hy : y.natAbs < lim) (h0 : y ≠ 0) : okDiv (S x) (S y) = true := by unfold okDiv; rw [ok2_S hx hy, iV_S, decide_eq_true h0]; rfl
theorem quoO_S {x y : Int} (hx : x.natAbs < lim) (hy : y.natAbs < lim) (h0 : y ≠ 0) : quoO (S x) (S y) = some (x / y) := by unfold quoO; rw [if_pos (okDiv_S hx hy h0), iV_S, iV_S]
theorem remO_S {x y : Int} (hx : x.natAbs < lim) (hy : y.natAbs < lim) (h0 : y ≠ 0) : remO (S x) (S y) = some (x % y) := by unfold remO; rw [if_pos (okDiv_S hx hy h0), iV_S, iV_S]
theorem rootO_S {x : Int} (hx : x.natAbs < lim) (h0 : 0 ≤ x) : rootO (S x) = some ((rootN x.natAbs : Nat) : Int) := by unfold rootO; rw [okS_S hx, iV_S, decide_eq_true h0]; rfl
/-- A quotient and a remainder fit. -/
theorem div_natAbs_le (x y : Int) : (x / y).natAbs ≤ x.natAbs := Int.natAbs_ediv_le_natAbs x y
theorem mod_natAbs_lt {x y : Int} (h : y ≠ 0) : (x % y).natAbs < y.natAbs := by
  have h1 := Int.emod_nonneg x h
  have h2 := Int.emod_lt x h
  omega
theorem gcd_natAbs_lt {x y : Int} (hx : x.natAbs < lim) (hy : y.natAbs < lim) : (gcdI x y).natAbs < lim := by
  unfold gcdI
  rw [Int.natAbs_natCast]
  by_cases h : x.natAbs = 0
  · rw [h, Nat.gcd_zero_left]; exact hy
  · exact Nat.lt_of_le_of_lt (Nat.gcd_le_left _ (by omega)) hx
theorem root_lt {x : Int} (hx : x.natAbs < lim) : ((rootN x.natAbs : Nat) : Int).natAbs < lim := by
  rw [Int.natAbs_natCast]; exact Nat.lt_of_le_of_lt (rootN_le _) hx
theorem lim_of {x : Int} {k : Nat} (h : x.natAbs < 10 ^ k) (hk : k ≤ 200) : x.natAbs < lim := Nat.lt_of_lt_of_le h (Nat.pow_le_pow_right (by decide) hk)
end N3

/- Plain: numbers with a sign: sum, product, quotient, order. -/
import Derived.Test.YtjnpenljgfdaiaaGreatDoorAlg
namespace N3
open Go Go.Lib

def sgn (neg : Bool) (n : Nat) : Int := if neg = true then -(n : Int) else (n : Int)
theorem sgn_abs (neg : Bool) (n : Nat) : (sgn neg n).natAbs = n := by unfold sgn; split <;> omega
theorem sgn_self (x : Int) : sgn (decide (x < 0)) x.natAbs = x := by
  unfold sgn
  by_cases h : x < 0
  · rw [decide_eq_true h, if_pos rfl]; omega
  · rw [decide_eq_false h, if_neg (by decide)]; omega
theorem sgn_mul (nx ny : Bool) (a b : Nat) : sgn nx a * sgn ny b = sgn (nx != ny) (a * b) := by
  unfold sgn
  cases nx <;> cases ny <;> simp [Int.mul_neg, Int.neg_mul, Int.natCast_mul]
theorem sgn_add_same (nx : Bool) (a b : Nat) : sgn nx a + sgn nx b = sgn nx (a + b) := by
  unfold sgn
  cases nx <;> simp <;> omega
theorem sgn_add_ge {nx ny : Bool} {a b : Nat} (h : nx ≠ ny) (hab : b ≤ a) : sgn nx a + sgn ny b = sgn nx (a - b) := by
  unfold sgn
  cases nx <;> cases ny <;> simp at h ⊢ <;> omega
theorem sgn_add_lt {nx ny : Bool} {a b : Nat} (h : nx ≠ ny) (hab : a < b) : sgn nx a + sgn ny b = sgn ny (b - a) := by
  unfold sgn
  cases nx <;> cases ny <;> simp at h ⊢ <;> omega
theorem sgn_neg (nx : Bool) (a : Nat) : -sgn nx a = sgn (!nx) a := by
  unfold sgn
  cases nx <;> simp
/-- The quotient and the remainder of Euclid, of numbers with a sign. -/
theorem div_sgn_down (nx ny : Bool) (a b : Nat) (hb : 0 < b) (h : nx = false ∨ a % b = 0) : sgn nx a / sgn ny b = sgn (nx != ny) (a / b) ∧ sgn nx a % sgn ny b = ((a % b : Nat) : Int) := by
  have hm := Nat.div_add_mod a b
  have hl := Nat.mod_lt a hb
  have hd : (a : Int) = (b : Int) * ((a / b : Nat) : Int) + ((a % b : Nat) : Int) := by rw [← Int.natCast_mul, ← Int.natCast_add, hm]
  have key : ∀ x : Int, ∀ q r : Int, x = (b : Int) * q + r → 0 ≤ r → r < b → x / (b : Int) = q ∧ x % (b : Int) = r := fun x q r e h1 h2 =>
    (Int.ediv_emod_unique (by omega)).2 ⟨by rw [e, Int.add_comm], h1, h2⟩
  have hx : sgn nx a = (b : Int) * sgn nx (a / b) + ((a % b : Nat) : Int) := by
    rcases h with rfl | h
    · exact hd
    · rw [h] at hd ⊢
      cases nx
      · exact hd
      · unfold sgn
        simp only [if_pos]
        rw [Int.mul_neg]; omega
  obtain ⟨k1, k2⟩ := key _ _ _ hx (by omega) (by omega)
  cases ny
  · show sgn nx a / (b : Int) = _ ∧ sgn nx a % (b : Int) = _
    rw [k1, k2]
    cases nx <;> exact ⟨rfl, rfl⟩
  · show sgn nx a / (-(b : Int)) = _ ∧ sgn nx a % (-(b : Int)) = _
    rw [Int.ediv_neg, Int.emod_neg, k1, k2, sgn_neg]
    cases nx <;> exact ⟨rfl, rfl⟩
theorem div_sgn_up (ny : Bool) (a b : Nat) (hb : 0 < b) (h : a % b ≠ 0) : sgn true a / sgn ny b = sgn (true != ny) (a / b + 1) ∧ sgn true a % sgn ny b = ((b - a % b : Nat) : Int) := by
  have hm := Nat.div_add_mod a b
  have hl := Nat.mod_lt a hb
  have hd : (a : Int) = (b : Int) * ((a / b : Nat) : Int) + ((a % b : Nat) : Int) := by rw [← Int.natCast_mul, ← Int.natCast_add, hm]
  have hx : -(a : Int) = (b : Int) * (-(((a / b + 1 : Nat)) : Int)) + ((b - a % b : Nat) : Int) := by
    rw [Int.natCast_add, Int.mul_neg, Int.mul_add, Int.natCast_sub (by omega)]
    simp only [Int.natCast_one, Int.mul_one]
    omega
  obtain ⟨k1, k2⟩ := (Int.ediv_emod_unique (a := -(a : Int)) (b := (b : Int)) (q := -(((a / b + 1 : Nat)) : Int)) (r := ((b - a % b : Nat) : Int)) (by omega)).2 ⟨by omega, by omega, by omega⟩
  cases ny
  · show -(a : Int) / (b : Int) = _ ∧ -(a : Int) % (b : Int) = _
    rw [k1, k2]
    exact ⟨rfl, rfl⟩
  · show -(a : Int) / (-(b : Int)) = _ ∧ -(a : Int) % (-(b : Int)) = _
    rw [Int.ediv_neg, Int.emod_neg, k1, k2, Int.neg_neg]
    exact ⟨rfl, rfl⟩
/-- The order, as Compare tells it. -/
def cmpI (x y : Int) : Int := if x < y then -1 else if y < x then 1 else 0
theorem cmpI_bd (x y : Int) : -1 ≤ cmpI x y ∧ cmpI x y ≤ 1 := by unfold cmpI; split <;> (try split) <;> omega
theorem cmpI_neg (x y : Int) : cmpI y x = -cmpI x y := by unfold cmpI; split <;> split <;> (try split) <;> omega
theorem cmpI_eq (x y : Int) : cmpI x y = 0 ↔ x = y := by unfold cmpI; split <;> (try split) <;> omega
theorem cmpI_sub (x y : Int) : cmpI (x - y) 0 = cmpI x y := by unfold cmpI; (repeat' split) <;> omega
theorem cmpI_add (x y z : Int) : cmpI (x + z) (y + z) = cmpI x y := by unfold cmpI; (repeat' split) <;> omega
theorem cmpI_le (x y : Int) : cmpI x y ≤ 0 ↔ x ≤ y := by unfold cmpI; (repeat' split) <;> omega
theorem cmpI_lt (x y : Int) : cmpI x y < 0 ↔ x < y := by unfold cmpI; (repeat' split) <;> omega
/-- The order of lists of groups, from the highest one. -/
theorem val_lt_of_high {l m : List Nat} (hl : OKl l) (hm : OKl m) {i : Nat} (hlen : l.length = m.length) (hi : i < l.length) (hlt : l.getD i 0 < m.getD i 0) (heq : ∀ j, i < j → l.getD j 0 = m.getD j 0) : val l < val m := by
  induction l generalizing m i with
  | nil => simp at hi
  | cons x l ih =>
    cases m with
    | nil => simp at hlen
    | cons y m =>
      cases i with
      | zero =>
        have e : l = m := by
          apply List.ext_getElem (by simpa using hlen)
          intro j h1 h2
          have := heq (j + 1) (by omega)
          simpa [List.getD_eq_getElem?_getD, List.getElem?_eq_getElem h1, List.getElem?_eq_getElem h2] using this
        subst e
        have : x < y := by simpa using hlt
        simp only [val]; omega
      | succ i =>
        have h1 := ih (m := m) (i := i) hl.tail hm.tail (by simpa using hlen) (by simpa using hi) (by simpa using hlt) (fun j hj => by simpa using heq (j + 1) (by omega))
        have := hl.head
        simp only [val]; omega
end N3

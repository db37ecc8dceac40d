/- Plain: natural numbers as lists of digits, the lowest one first. -/
import Derived.Lib.ItoaNum
namespace D10

def val : List Nat → Nat
  | [] => 0
  | x :: l => x + 10 * val l
/-- The groups of a number, without zeros at the end. -/
def toG (n : Nat) : List Nat := if h : n = 0 then [] else n % 10 :: toG (n / 10)
termination_by n
decreasing_by omega
theorem toG_zero : toG 0 = [] := by rw [toG, dif_pos rfl]
theorem toG_pos {n : Nat} (h : n ≠ 0) : toG n = n % 10 :: toG (n / 10) := by rw [toG, dif_neg h]
theorem val_toG (n : Nat) : val (toG n) = n := by
  induction n using Nat.strongRecOn with
  | _ n ih =>
    by_cases h : n = 0
    · subst h; rw [toG_zero]; rfl
    · rw [toG_pos h, val, ih (n / 10) (by omega)]; omega
theorem toG_lt (n : Nat) : ∀ x ∈ toG n, x < 10 := by
  induction n using Nat.strongRecOn with
  | _ n ih =>
    by_cases h : n = 0
    · subst h; rw [toG_zero]; intro x hx; cases hx
    · rw [toG_pos h]
      intro x hx
      rcases List.mem_cons.1 hx with rfl | hx
      · omega
      · exact ih _ (by omega) x hx
theorem toG_nil {n : Nat} : toG n = [] ↔ n = 0 := by
  constructor
  · intro h
    by_cases h0 : n = 0
    · exact h0
    · rw [toG_pos h0] at h; cases h
  · rintro rfl; exact toG_zero
theorem val_app (l m : List Nat) : val (l ++ m) = val l + 10 ^ l.length * val m := by
  induction l with
  | nil => simp [val]
  | cons x l ih => simp only [List.cons_append, val, ih, List.length_cons, Nat.pow_succ]; rw [Nat.mul_add, Nat.mul_comm (10 ^ l.length) 10, Nat.mul_assoc]; omega
/-- Every group less than 10. -/
def OKl (l : List Nat) : Prop := ∀ x ∈ l, x < 10
theorem OKl.tail {x : Nat} {l : List Nat} (h : OKl (x :: l)) : OKl l := fun y hy => h y (List.mem_cons_of_mem _ hy)
theorem OKl.head {x : Nat} {l : List Nat} (h : OKl (x :: l)) : x < 10 := h x List.mem_cons_self
theorem val_lt {l : List Nat} (h : OKl l) : val l < 10 ^ l.length := by
  induction l with
  | nil => simp [val]
  | cons x l ih =>
    have h1 := ih h.tail
    have h2 := h.head
    simp only [val, List.length_cons, Nat.pow_succ]
    omega
/-- A list that does not end in a zero is the groups of its value. -/
theorem toG_val {l : List Nat} (h : OKl l) (hl : l.getLast? ≠ some 0) : toG (val l) = l := by
  induction l with
  | nil => exact toG_zero
  | cons x l ih =>
    have h2 := h.head
    have hl' : l.getLast? ≠ some 0 := by
      cases l with
      | nil => intro hc; cases hc
      | cons y l => rw [List.getLast?_cons_cons] at hl; exact hl
    have hne : val (x :: l) ≠ 0 := by
      intro hc
      simp only [val] at hc
      obtain rfl : x = 0 := by omega
      have : val l = 0 := by omega
      have e := ih h.tail hl'
      rw [this, toG_zero] at e
      subst e
      exact hl rfl
    rw [toG_pos hne]
    have e1 : val (x :: l) % 10 = x := by simp only [val]; omega
    have e2 : val (x :: l) / 10 = val l := by simp only [val]; omega
    rw [e1, e2, ih h.tail hl']
theorem toG_last (n : Nat) : (toG n).getLast? ≠ some 0 := by
  induction n using Nat.strongRecOn with
  | _ n ih =>
    by_cases h : n = 0
    · subst h; rw [toG_zero]; intro hc; cases hc
    · rw [toG_pos h]
      by_cases h2 : n / 10 = 0
      · rw [h2, toG_zero]
        intro hc
        have : n % 10 = 0 := by simpa using hc
        omega
      · have := ih (n / 10) (by omega)
        cases hg : toG (n / 10) with
        | nil => exact absurd (toG_nil.1 hg) h2
        | cons y l => rw [hg] at this; rw [List.getLast?_cons_cons]; exact this
theorem toG_len_le {n k : Nat} (h : n < 10 ^ k) : (toG n).length ≤ k := by
  induction k generalizing n with
  | zero => have : n = 0 := by simpa using h
            subst this; rw [toG_zero]; exact Nat.le_refl _
  | succ k ih =>
    by_cases h0 : n = 0
    · subst h0; rw [toG_zero]; exact Nat.zero_le _
    · rw [toG_pos h0, List.length_cons]
      have := ih (n := n / 10) (by rw [Nat.pow_succ] at h; omega)
      omega
theorem toG_len_gt {n k : Nat} (h : 10 ^ k ≤ n) : k < (toG n).length := by
  have h1 := val_lt (toG_lt n)
  rw [val_toG] at h1
  refine Classical.byContradiction fun hc => ?_
  have := Nat.pow_le_pow_right (show 0 < 10 by decide) (show (toG n).length ≤ k by omega)
  omega
/-- Zeros at the end are of no value. -/
theorem val_take {l : List Nat} {k : Nat} (h : ∀ j, k ≤ j → l.getD j 0 = 0) : val (l.take k) = val l := by
  induction l generalizing k with
  | nil => simp [val]
  | cons x l ih =>
    cases k with
    | zero =>
      have h0 : x = 0 := by simpa using h 0 (Nat.zero_le _)
      have h1 := ih (k := 0) (fun j _ => by simpa using h (j + 1) (Nat.zero_le _))
      simp only [List.take_zero, val] at h1 ⊢
      omega
    | succ k =>
      have h1 := ih (k := k) (fun j hj => by simpa using h (j + 1) (by omega))
      simp only [List.take_succ_cons, val, h1]
/-- What trimming leaves. -/
theorem trim_eq {l : List Nat} {k : Nat} (h : OKl l) (hk : k ≤ l.length) (hz : ∀ j, k ≤ j → l.getD j 0 = 0) (hl : k = 0 ∨ l.getD (k - 1) 0 ≠ 0) : l.take k = toG (val l) := by
  rw [← val_take hz]
  refine (toG_val (fun x hx => h x (List.mem_of_mem_take hx)) ?_).symm
  rcases hl with rfl | hl
  · simp
  · intro hc
    rw [List.getLast?_eq_getElem?, List.length_take, Nat.min_eq_left hk, List.getElem?_take] at hc
    by_cases h0 : k = 0
    · subst h0; simp at hc
    · rw [if_pos (by omega)] at hc
      rw [List.getD_eq_getElem?_getD, hc] at hl
      exact hl rfl
/-! ### Group by group, with a carry -/
/-- The sum of the first n groups, with their weights. -/
def sumK (d : Nat → Int) : Nat → Int
  | 0 => 0
  | n + 1 => sumK d n + d n * 10 ^ n
def carry (s : Int) : Int := if s < 0 then -1 else s / 10
def digit (s : Int) : Int := if s < 0 then s + 10 else s % 10
theorem carry_digit {s : Int} (h : -10 ≤ s) : carry s * 10 + digit s = s ∧ 0 ≤ digit s ∧ digit s < 10 := by
  unfold carry digit
  split <;> omega
/-- The carry behind the first i groups. -/
def cK (d : Nat → Int) (c : Int) : Nat → Int
  | 0 => c
  | i + 1 => carry (d i + cK d c i)
def oK (d : Nat → Int) (c : Int) (i : Nat) : Int := digit (d i + cK d c i)
def outK (d : Nat → Int) (c : Int) (n : Nat) : List Nat := (List.range n).map fun i => (oK d c i).toNat
theorem outK_succ (d : Nat → Int) (c : Int) (n : Nat) : outK d c (n + 1) = outK d c n ++ [(oK d c n).toNat] := by unfold outK; rw [List.range_succ, List.map_append]; rfl
theorem outK_len (d : Nat → Int) (c : Int) (n : Nat) : (outK d c n).length = n := by simp [outK]
theorem pow_cast (n : Nat) : ((10 ^ n : Nat) : Int) = (10 : Int) ^ n := by simp
theorem outK_sum {d : Nat → Int} {c : Int} : ∀ n, (∀ i, i < n → -10 ≤ d i + cK d c i) → (val (outK d c n) : Int) + cK d c n * 10 ^ n = c + sumK d n
  | 0, _ => by simp [outK, val, sumK, cK]
  | n + 1, h => by
    have ih := outK_sum n (fun i hi => h i (by omega))
    obtain ⟨h1, h2, h3⟩ := carry_digit (h n (by omega))
    rw [outK_succ, val_app, outK_len]
    simp only [val, Nat.mul_zero, Nat.add_zero, sumK, cK]
    have e : ((oK d c n).toNat : Int) = oK d c n := by unfold oK; omega
    have h1' : d n + cK d c n = carry (d n + cK d c n) * 10 + oK d c n := by unfold oK; omega
    rw [Int.natCast_add, Int.natCast_mul, pow_cast, e, Int.pow_succ]
    have e2 : carry (d n + cK d c n) * (10 ^ n * 10) = (carry (d n + cK d c n) * 10) * 10 ^ n := by rw [Int.mul_comm (10 ^ n) 10, Int.mul_assoc]
    rw [e2, show (10 : Int) ^ n * oK d c n = oK d c n * 10 ^ n from Int.mul_comm _ _, Int.add_assoc, ← Int.add_mul, Int.add_comm (oK d c n), ← h1', Int.add_mul]
    omega
theorem outK_ok {d : Nat → Int} {c : Int} {n : Nat} (h : ∀ i, i < n → -10 ≤ d i + cK d c i) : OKl (outK d c n) := by
  intro x hx
  unfold outK at hx
  obtain ⟨i, hi, rfl⟩ := List.mem_map.1 hx
  have hi := List.mem_range.1 hi
  obtain ⟨-, h2, h3⟩ := carry_digit (h i hi)
  unfold oK; omega
theorem val_sum : ∀ (n : Nat) (l : List Nat), l.length ≤ n → sumK (fun i => ((l.getD i 0 : Nat) : Int)) n = (val l : Int) := by
  intro n
  induction n with
  | zero => intro l h; obtain rfl : l = [] := List.eq_nil_of_length_eq_zero (by omega); rfl
  | succ n ih =>
    intro l h
    simp only [sumK]
    by_cases hn : n < l.length
    · have hl : l = l.take n ++ [l.getD n 0] := by
        obtain hlen : l.length = n + 1 := by omega
        rw [List.getD_eq_getElem?_getD, List.getElem?_eq_getElem hn, Option.getD_some, ← List.take_succ_eq_append_getElem hn, List.take_of_length_le (by omega)]
      have e1 := ih (l.take n) (by rw [List.length_take]; omega)
      have e2 : sumK (fun i => ((l.getD i 0 : Nat) : Int)) n = sumK (fun i => (((l.take n).getD i 0 : Nat) : Int)) n := by
        have hc : ∀ m, m ≤ n → sumK (fun i => ((l.getD i 0 : Nat) : Int)) m = sumK (fun i => (((l.take n).getD i 0 : Nat) : Int)) m := by
          intro m
          induction m with
          | zero => intro _; rfl
          | succ m ihm =>
            intro hm
            simp only [sumK]
            rw [ihm (by omega)]
            congr 2
            simp only [List.getD_eq_getElem?_getD]
            rw [List.getElem?_take, if_pos (by omega)]
        exact hc n (Nat.le_refl _)
      rw [e2, e1]
      conv => rhs; rw [hl, val_app]
      rw [List.length_take, Nat.min_eq_left (by omega)]
      simp only [val, Nat.mul_zero, Nat.add_zero]
      rw [Int.natCast_add, Int.natCast_mul, pow_cast, Int.mul_comm (10 ^ n)]
    · rw [ih l (by omega), List.getD_eq_getElem?_getD, List.getElem?_eq_none (by omega)]
      simp
end D10

/- The plain side: numbers as lists of digits and of groups, numerals, signs, fractions, grids; over no program. -/
import Derived.Lib.ItoaNum
import Derived.Lib.Atoi
import Derived.Lib.SlTrimSet
import Derived.Lib.Strings
import Derived.Lib.Repeat
import Derived.Lib.AtoiAll
/- Plain: natural numbers as lists of groups of four digits, the lowest one first. -/
namespace N3

def val : List Nat → Nat
  | [] => 0
  | x :: l => x + 10000 * val l
/-- The groups of a number, without zeros at the end. -/
def toG (n : Nat) : List Nat := if h : n = 0 then [] else n % 10000 :: toG (n / 10000)
termination_by n
decreasing_by omega
theorem toG_zero : toG 0 = [] := by rw [toG, dif_pos rfl]
theorem toG_pos {n : Nat} (h : n ≠ 0) : toG n = n % 10000 :: toG (n / 10000) := by rw [toG, dif_neg h]
theorem val_toG (n : Nat) : val (toG n) = n := by
  induction n using Nat.strongRecOn with
  | _ n ih =>
    by_cases h : n = 0
    · subst h; rw [toG_zero]; rfl
    · rw [toG_pos h, val, ih (n / 10000) (by omega)]; omega
theorem toG_lt (n : Nat) : ∀ x ∈ toG n, x < 10000 := by
  induction n using Nat.strongRecOn with
  | _ n ih =>
    by_cases h : n = 0
    · subst h; rw [toG_zero]; intro x hx; cases hx
    · rw [toG_pos h]
      intro x hx
      rcases List.mem_cons.1 hx with rfl | hx
      · omega
      · exact ih _ (by omega) x hx
theorem toG_nil {n : Nat} : toG n = [] ↔ n = 0 := by
  constructor
  · intro h
    by_cases h0 : n = 0
    · exact h0
    · rw [toG_pos h0] at h; cases h
  · rintro rfl; exact toG_zero
theorem val_app (l m : List Nat) : val (l ++ m) = val l + 10000 ^ l.length * val m := by
  induction l with
  | nil => simp [val]
  | cons x l ih => simp only [List.cons_append, val, ih, List.length_cons, Nat.pow_succ]; rw [Nat.mul_add, Nat.mul_comm (10000 ^ l.length) 10000, Nat.mul_assoc]; omega
/-- Every group less than 10000. -/
def OKl (l : List Nat) : Prop := ∀ x ∈ l, x < 10000
theorem OKl.tail {x : Nat} {l : List Nat} (h : OKl (x :: l)) : OKl l := fun y hy => h y (List.mem_cons_of_mem _ hy)
theorem OKl.head {x : Nat} {l : List Nat} (h : OKl (x :: l)) : x < 10000 := h x List.mem_cons_self
theorem val_lt {l : List Nat} (h : OKl l) : val l < 10000 ^ l.length := by
  induction l with
  | nil => simp [val]
  | cons x l ih =>
    have h1 := ih h.tail
    have h2 := h.head
    simp only [val, List.length_cons, Nat.pow_succ]
    omega
/-- A list that does not end in a zero is the groups of its value. -/
theorem toG_val {l : List Nat} (h : OKl l) (hl : l.getLast? ≠ some 0) : toG (val l) = l := by
  induction l with
  | nil => exact toG_zero
  | cons x l ih =>
    have h2 := h.head
    have hl' : l.getLast? ≠ some 0 := by
      cases l with
      | nil => intro hc; cases hc
      | cons y l => rw [List.getLast?_cons_cons] at hl; exact hl
    have hne : val (x :: l) ≠ 0 := by
      intro hc
      simp only [val] at hc
      obtain rfl : x = 0 := by omega
      have : val l = 0 := by omega
      have e := ih h.tail hl'
      rw [this, toG_zero] at e
      subst e
      exact hl rfl
    rw [toG_pos hne]
    have e1 : val (x :: l) % 10000 = x := by simp only [val]; omega
    have e2 : val (x :: l) / 10000 = val l := by simp only [val]; omega
    rw [e1, e2, ih h.tail hl']
theorem toG_last (n : Nat) : (toG n).getLast? ≠ some 0 := by
  induction n using Nat.strongRecOn with
  | _ n ih =>
    by_cases h : n = 0
    · subst h; rw [toG_zero]; intro hc; cases hc
    · rw [toG_pos h]
      by_cases h2 : n / 10000 = 0
      · rw [h2, toG_zero]
        intro hc
        have : n % 10000 = 0 := by simpa using hc
        omega
      · have := ih (n / 10000) (by omega)
        cases hg : toG (n / 10000) with
        | nil => exact absurd (toG_nil.1 hg) h2
        | cons y l => rw [hg] at this; rw [List.getLast?_cons_cons]; exact this
theorem toG_len_le {n k : Nat} (h : n < 10000 ^ k) : (toG n).length ≤ k := by
  induction k generalizing n with
  | zero => have : n = 0 := by simpa using h
            subst this; rw [toG_zero]; exact Nat.le_refl _
  | succ k ih =>
    by_cases h0 : n = 0
    · subst h0; rw [toG_zero]; exact Nat.zero_le _
    · rw [toG_pos h0, List.length_cons]
      have := ih (n := n / 10000) (by rw [Nat.pow_succ] at h; omega)
      omega
theorem toG_len_gt {n k : Nat} (h : 10000 ^ k ≤ n) : k < (toG n).length := by
  have h1 := val_lt (toG_lt n)
  rw [val_toG] at h1
  refine Classical.byContradiction fun hc => ?_
  have := Nat.pow_le_pow_right (show 0 < 10000 by decide) (show (toG n).length ≤ k by omega)
  omega
/-- Zeros at the end are of no value. -/
theorem val_take {l : List Nat} {k : Nat} (h : ∀ j, k ≤ j → l.getD j 0 = 0) : val (l.take k) = val l := by
  induction l generalizing k with
  | nil => simp [val]
  | cons x l ih =>
    cases k with
    | zero =>
      have h0 : x = 0 := by simpa using h 0 (Nat.zero_le _)
      have h1 := ih (k := 0) (fun j _ => by simpa using h (j + 1) (Nat.zero_le _))
      simp only [List.take_zero, val] at h1 ⊢
      omega
    | succ k =>
      have h1 := ih (k := k) (fun j hj => by simpa using h (j + 1) (by omega))
      simp only [List.take_succ_cons, val, h1]
/-- What trimming leaves. -/
theorem trim_eq {l : List Nat} {k : Nat} (h : OKl l) (hk : k ≤ l.length) (hz : ∀ j, k ≤ j → l.getD j 0 = 0) (hl : k = 0 ∨ l.getD (k - 1) 0 ≠ 0) : l.take k = toG (val l) := by
  rw [← val_take hz]
  refine (toG_val (fun x hx => h x (List.mem_of_mem_take hx)) ?_).symm
  rcases hl with rfl | hl
  · simp
  · intro hc
    rw [List.getLast?_eq_getElem?, List.length_take, Nat.min_eq_left hk, List.getElem?_take] at hc
    by_cases h0 : k = 0
    · subst h0; simp at hc
    · rw [if_pos (by omega)] at hc
      rw [List.getD_eq_getElem?_getD, hc] at hl
      exact hl rfl
/-! ### Group by group, with a carry -/
/-- The sum of the first n groups, with their weights. -/
def sumK (d : Nat → Int) : Nat → Int
  | 0 => 0
  | n + 1 => sumK d n + d n * 10000 ^ n
def carry (s : Int) : Int := if s < 0 then -1 else s / 10000
def digit (s : Int) : Int := if s < 0 then s + 10000 else s % 10000
theorem carry_digit {s : Int} (h : -10000 ≤ s) : carry s * 10000 + digit s = s ∧ 0 ≤ digit s ∧ digit s < 10000 := by
  unfold carry digit
  split <;> omega
/-- The carry behind the first i groups. -/
def cK (d : Nat → Int) (c : Int) : Nat → Int
  | 0 => c
  | i + 1 => carry (d i + cK d c i)
def oK (d : Nat → Int) (c : Int) (i : Nat) : Int := digit (d i + cK d c i)
def outK (d : Nat → Int) (c : Int) (n : Nat) : List Nat := (List.range n).map fun i => (oK d c i).toNat
theorem outK_succ (d : Nat → Int) (c : Int) (n : Nat) : outK d c (n + 1) = outK d c n ++ [(oK d c n).toNat] := by unfold outK; rw [List.range_succ, List.map_append]; rfl
theorem outK_len (d : Nat → Int) (c : Int) (n : Nat) : (outK d c n).length = n := by simp [outK]
theorem pow_cast (n : Nat) : ((10000 ^ n : Nat) : Int) = (10000 : Int) ^ n := by simp
theorem outK_sum {d : Nat → Int} {c : Int} : ∀ n, (∀ i, i < n → -10000 ≤ d i + cK d c i) → (val (outK d c n) : Int) + cK d c n * 10000 ^ n = c + sumK d n
  | 0, _ => by simp [outK, val, sumK, cK]
  | n + 1, h => by
    have ih := outK_sum n (fun i hi => h i (by omega))
    obtain ⟨h1, h2, h3⟩ := carry_digit (h n (by omega))
    rw [outK_succ, val_app, outK_len]
    simp only [val, Nat.mul_zero, Nat.add_zero, sumK, cK]
    have e : ((oK d c n).toNat : Int) = oK d c n := by unfold oK; omega
    have h1' : d n + cK d c n = carry (d n + cK d c n) * 10000 + oK d c n := by unfold oK; omega
    rw [Int.natCast_add, Int.natCast_mul, pow_cast, e, Int.pow_succ]
    have e2 : carry (d n + cK d c n) * (10000 ^ n * 10000) = (carry (d n + cK d c n) * 10000) * 10000 ^ n := by rw [Int.mul_comm (10000 ^ n) 10000, Int.mul_assoc]
    rw [e2, show (10000 : Int) ^ n * oK d c n = oK d c n * 10000 ^ n from Int.mul_comm _ _, Int.add_assoc, ← Int.add_mul, Int.add_comm (oK d c n), ← h1', Int.add_mul]
    omega
theorem outK_ok {d : Nat → Int} {c : Int} {n : Nat} (h : ∀ i, i < n → -10000 ≤ d i + cK d c i) : OKl (outK d c n) := by
  intro x hx
  unfold outK at hx
  obtain ⟨i, hi, rfl⟩ := List.mem_map.1 hx
  have hi := List.mem_range.1 hi
  obtain ⟨-, h2, h3⟩ := carry_digit (h i hi)
  unfold oK; omega
theorem val_sum : ∀ (n : Nat) (l : List Nat), l.length ≤ n → sumK (fun i => ((l.getD i 0 : Nat) : Int)) n = (val l : Int) := by
  intro n
  induction n with
  | zero => intro l h; obtain rfl : l = [] := List.eq_nil_of_length_eq_zero (by omega); rfl
  | succ n ih =>
    intro l h
    simp only [sumK]
    by_cases hn : n < l.length
    · have hl : l = l.take n ++ [l.getD n 0] := by
        obtain hlen : l.length = n + 1 := by omega
        rw [List.getD_eq_getElem?_getD, List.getElem?_eq_getElem hn, Option.getD_some, ← List.take_succ_eq_append_getElem hn, List.take_of_length_le (by omega)]
      have e1 := ih (l.take n) (by rw [List.length_take]; omega)
      have e2 : sumK (fun i => ((l.getD i 0 : Nat) : Int)) n = sumK (fun i => (((l.take n).getD i 0 : Nat) : Int)) n := by
        have hc : ∀ m, m ≤ n → sumK (fun i => ((l.getD i 0 : Nat) : Int)) m = sumK (fun i => (((l.take n).getD i 0 : Nat) : Int)) m := by
          intro m
          induction m with
          | zero => intro _; rfl
          | succ m ihm =>
            intro hm
            simp only [sumK]
            rw [ihm (by omega)]
            congr 2
            simp only [List.getD_eq_getElem?_getD]
            rw [List.getElem?_take, if_pos (by omega)]
        exact hc n (Nat.le_refl _)
      rw [e2, e1]
      conv => rhs; rw [hl, val_app]
      rw [List.length_take, Nat.min_eq_left (by omega)]
      simp only [val, Nat.mul_zero, Nat.add_zero]
      rw [Int.natCast_add, Int.natCast_mul, pow_cast, Int.mul_comm (10000 ^ n)]
    · rw [ih l (by omega), List.getD_eq_getElem?_getD, List.getElem?_eq_none (by omega)]
      simp
end N3

/- Plain: natural numbers as lists of digits, the lowest one first. -/
namespace D10

def val : List Nat → Nat
  | [] => 0
  | x :: l => x + 10 * val l
/-- The groups of a number, without zeros at the end. -/
def toG (n : Nat) : List Nat := if h : n = 0 then [] else n % 10 :: toG (n / 10)
termination_by n
decreasing_by omega
theorem toG_zero : toG 0 = [] := by rw [toG, dif_pos rfl]
theorem toG_pos {n : Nat} (h : n ≠ 0) : toG n = n % 10 :: toG (n / 10) := by rw [toG, dif_neg h]
theorem val_toG (n : Nat) : val (toG n) = n := by
  induction n using Nat.strongRecOn with
  | _ n ih =>
    by_cases h : n = 0
    · subst h; rw [toG_zero]; rfl
    · rw [toG_pos h, val, ih (n / 10) (by omega)]; omega
theorem toG_lt (n : Nat) : ∀ x ∈ toG n, x < 10 := by
  induction n using Nat.strongRecOn with
  | _ n ih =>
    by_cases h : n = 0
    · subst h; rw [toG_zero]; intro x hx; cases hx
    · rw [toG_pos h]
      intro x hx
      rcases List.mem_cons.1 hx with rfl | hx
      · omega
      · exact ih _ (by omega) x hx
theorem toG_nil {n : Nat} : toG n = [] ↔ n = 0 := by
  constructor
  · intro h
    by_cases h0 : n = 0
    · exact h0
    · rw [toG_pos h0] at h; cases h
  · rintro rfl; exact toG_zero
theorem val_app (l m : List Nat) : val (l ++ m) = val l + 10 ^ l.length * val m := by
  induction l with
  | nil => simp [val]
  | cons x l ih => simp only [List.cons_append, val, ih, List.length_cons, Nat.pow_succ]; rw [Nat.mul_add, Nat.mul_comm (10 ^ l.length) 10, Nat.mul_assoc]; omega
/-- Every group less than 10. -/
def OKl (l : List Nat) : Prop := ∀ x ∈ l, x < 10
theorem OKl.tail {x : Nat} {l : List Nat} (h : OKl (x :: l)) : OKl l := fun y hy => h y (List.mem_cons_of_mem _ hy)
theorem OKl.head {x : Nat} {l : List Nat} (h : OKl (x :: l)) : x < 10 := h x List.mem_cons_self
theorem val_lt {l : List Nat} (h : OKl l) : val l < 10 ^ l.length := by
  induction l with
  | nil => simp [val]
  | cons x l ih =>
    have h1 := ih h.tail
    have h2 := h.head
    simp only [val, List.length_cons, Nat.pow_succ]
    omega
/-- A list that does not end in a zero is the groups of its value. -/
theorem toG_val {l : List Nat} (h : OKl l) (hl : l.getLast? ≠ some 0) : toG (val l) = l := by
  induction l with
  | nil => exact toG_zero
  | cons x l ih =>
    have h2 := h.head
    have hl' : l.getLast? ≠ some 0 := by
      cases l with
      | nil => intro hc; cases hc
      | cons y l => rw [List.getLast?_cons_cons] at hl; exact hl
    have hne : val (x :: l) ≠ 0 := by
      intro hc
      simp only [val] at hc
      obtain rfl : x = 0 := by omega
      have : val l = 0 := by omega
      have e := ih h.tail hl'
      rw [this, toG_zero] at e
      subst e
      exact hl rfl
    rw [toG_pos hne]
    have e1 : val (x :: l) % 10 = x := by simp only [val]; omega
    have e2 : val (x :: l) / 10 = val l := by simp only [val]; omega
    rw [e1, e2, ih h.tail hl']
theorem toG_last (n : Nat) : (toG n).getLast? ≠ some 0 := by
  induction n using Nat.strongRecOn with
  | _ n ih =>
    by_cases h : n = 0
    · subst h; rw [toG_zero]; intro hc; cases hc
    · rw [toG_pos h]
      by_cases h2 : n / 10 = 0
      · rw [h2, toG_zero]
        intro hc
        have : n % 10 = 0 := by simpa using hc
        omega
      · have := ih (n / 10) (by omega)
        cases hg : toG (n / 10) with
        | nil => exact absurd (toG_nil.1 hg) h2
        | cons y l => rw [hg] at this; rw [List.getLast?_cons_cons]; exact this
theorem toG_len_le {n k : Nat} (h : n < 10 ^ k) : (toG n).length ≤ k := by
  induction k generalizing n with
  | zero => have : n = 0 := by simpa using h
            subst this; rw [toG_zero]; exact Nat.le_refl _
  | succ k ih =>
    by_cases h0 : n = 0
    · subst h0; rw [toG_zero]; exact Nat.zero_le _
    · rw [toG_pos h0, List.length_cons]
      have := ih (n := n / 10) (by rw [Nat.pow_succ] at h; omega)
      omega
theorem toG_len_gt {n k : Nat} (h : 10 ^ k ≤ n) : k < (toG n).length := by
  have h1 := val_lt (toG_lt n)
  rw [val_toG] at h1
  refine Classical.byContradiction fun hc => ?_
  have := Nat.pow_le_pow_right (show 0 < 10 by decide) (show (toG n).length ≤ k by omega)
  omega
/-- Zeros at the end are of no value. -/
theorem val_take {l : List Nat} {k : Nat} (h : ∀ j, k ≤ j → l.getD j 0 = 0) : val (l.take k) = val l := by
  induction l generalizing k with
  | nil => simp [val]
  | cons x l ih =>
    cases k with
    | zero =>
      have h0 : x = 0 := by simpa using h 0 (Nat.zero_le _)
      have h1 := ih (k := 0) (fun j _ => by simpa using h (j + 1) (Nat.zero_le _))
      simp only [List.take_zero, val] at h1 ⊢
      omega
    | succ k =>
      have h1 := ih (k := k) (fun j hj => by simpa using h (j + 1) (by omega))
      simp only [List.take_succ_cons, val, h1]
/-- What trimming leaves. -/
theorem trim_eq {l : List Nat} {k : Nat} (h : OKl l) (hk : k ≤ l.length) (hz : ∀ j, k ≤ j → l.getD j 0 = 0) (hl : k = 0 ∨ l.getD (k - 1) 0 ≠ 0) : l.take k = toG (val l) := by
  rw [← val_take hz]
  refine (toG_val (fun x hx => h x (List.mem_of_mem_take hx)) ?_).symm
  rcases hl with rfl | hl
  · simp
  · intro hc
    rw [List.getLast?_eq_getElem?, List.length_take, Nat.min_eq_left hk, List.getElem?_take] at hc
    by_cases h0 : k = 0
    · subst h0; simp at hc
    · rw [if_pos (by omega)] at hc
      rw [List.getD_eq_getElem?_getD, hc] at hl
      exact hl rfl
/-! ### Group by group, with a carry -/
/-- The sum of the first n groups, with their weights. -/
def sumK (d : Nat → Int) : Nat → Int
  | 0 => 0
  | n + 1 => sumK d n + d n * 10 ^ n
def carry (s : Int) : Int := if s < 0 then -1 else s / 10
def digit (s : Int) : Int := if s < 0 then s + 10 else s % 10
theorem carry_digit {s : Int} (h : -10 ≤ s) : carry s * 10 + digit s = s ∧ 0 ≤ digit s ∧ digit s < 10 := by
  unfold carry digit
  split <;> omega
/-- The carry behind the first i groups. -/
def cK (d : Nat → Int) (c : Int) : Nat → Int
  | 0 => c
  | i + 1 => carry (d i + cK d c i)
def oK (d : Nat → Int) (c : Int) (i : Nat) : Int := digit (d i + cK d c i)
def outK (d : Nat → Int) (c : Int) (n : Nat) : List Nat := (List.range n).map fun i => (oK d c i).toNat
theorem outK_succ (d : Nat → Int) (c : Int) (n : Nat) : outK d c (n + 1) = outK d c n ++ [(oK d c n).toNat] := by unfold outK; rw [List.range_succ, List.map_append]; rfl
theorem outK_len (d : Nat → Int) (c : Int) (n : Nat) : (outK d c n).length = n := by simp [outK]
theorem pow_cast (n : Nat) : ((10 ^ n : Nat) : Int) = (10 : Int) ^ n := by simp
theorem outK_sum {d : Nat → Int} {c : Int} : ∀ n, (∀ i, i < n → -10 ≤ d i + cK d c i) → (val (outK d c n) : Int) + cK d c n * 10 ^ n = c + sumK d n
  | 0, _ => by simp [outK, val, sumK, cK]
  | n + 1, h => by
    have ih := outK_sum n (fun i hi => h i (by omega))
    obtain ⟨h1, h2, h3⟩ := carry_digit (h n (by omega))
    rw [outK_succ, val_app, outK_len]
    simp only [val, Nat.mul_zero, Nat.add_zero, sumK, cK]
    have e : ((oK d c n).toNat : Int) = oK d c n := by unfold oK; omega
    have h1' : d n + cK d c n = carry (d n + cK d c n) * 10 + oK d c n := by unfold oK; omega
    rw [Int.natCast_add, Int.natCast_mul, pow_cast, e, Int.pow_succ]
    have e2 : carry (d n + cK d c n) * (10 ^ n * 10) = (carry (d n + cK d c n) * 10) * 10 ^ n := by rw [Int.mul_comm (10 ^ n) 10, Int.mul_assoc]
    rw [e2, show (10 : Int) ^ n * oK d c n = oK d c n * 10 ^ n from Int.mul_comm _ _, Int.add_assoc, ← Int.add_mul, Int.add_comm (oK d c n), ← h1', Int.add_mul]
    omega
theorem outK_ok {d : Nat → Int} {c : Int} {n : Nat} (h : ∀ i, i < n → -10 ≤ d i + cK d c i) : OKl (outK d c n) := by
  intro x hx
  unfold outK at hx
  obtain ⟨i, hi, rfl⟩ := List.mem_map.1 hx
  have hi := List.mem_range.1 hi
  obtain ⟨-, h2, h3⟩ := carry_digit (h i hi)
  unfold oK; omega
theorem val_sum : ∀ (n : Nat) (l : List Nat), l.length ≤ n → sumK (fun i => ((l.getD i 0 : Nat) : Int)) n = (val l : Int) := by
  intro n
  induction n with
  | zero => intro l h; obtain rfl : l = [] := List.eq_nil_of_length_eq_zero (by omega); rfl
  | succ n ih =>
    intro l h
    simp only [sumK]
    by_cases hn : n < l.length
    · have hl : l = l.take n ++ [l.getD n 0] := by
        obtain hlen : l.length = n + 1 := by omega
        rw [List.getD_eq_getElem?_getD, List.getElem?_eq_getElem hn, Option.getD_some, ← List.take_succ_eq_append_getElem hn, List.take_of_length_le (by omega)]
      have e1 := ih (l.take n) (by rw [List.length_take]; omega)
      have e2 : sumK (fun i => ((l.getD i 0 : Nat) : Int)) n = sumK (fun i => (((l.take n).getD i 0 : Nat) : Int)) n := by
        have hc : ∀ m, m ≤ n → sumK (fun i => ((l.getD i 0 : Nat) : Int)) m = sumK (fun i => (((l.take n).getD i 0 : Nat) : Int)) m := by
          intro m
          induction m with
          | zero => intro _; rfl
          | succ m ihm =>
            intro hm
            simp only [sumK]
            rw [ihm (by omega)]
            congr 2
            simp only [List.getD_eq_getElem?_getD]
            rw [List.getElem?_take, if_pos (by omega)]
        exact hc n (Nat.le_refl _)
      rw [e2, e1]
      conv => rhs; rw [hl, val_app]
      rw [List.length_take, Nat.min_eq_left (by omega)]
      simp only [val, Nat.mul_zero, Nat.add_zero]
      rw [Int.natCast_add, Int.natCast_mul, pow_cast, Int.mul_comm (10 ^ n)]
    · rw [ih l (by omega), List.getD_eq_getElem?_getD, List.getElem?_eq_none (by omega)]
      simp
end D10

/- Plain: decimal numerals: what they are worth, which lists of bytes are one, groups of four digits. -/
namespace N3
open Go Go.Lib

def isD (c : UInt8) : Bool := decide (48 ≤ c.toNat) && decide (c.toNat ≤ 57)
def decV (l : List UInt8) : Nat := l.foldl (fun a c => a * 10 + (c.toNat - 48)) 0
theorem foldV (l : List UInt8) : ∀ a, l.foldl (fun a c => a * 10 + (c.toNat - 48)) a = a * 10 ^ l.length + decV l := by
  induction l with
  | nil => intro a; simp [decV]
  | cons c l ih =>
    intro a
    unfold decV
    simp only [List.foldl_cons, List.length_cons]
    rw [ih, ih (0 * 10 + _), Nat.pow_succ, Nat.add_mul, Nat.zero_mul, Nat.zero_add, Nat.mul_assoc, Nat.mul_comm 10, Nat.add_assoc]
theorem decV_app (l m : List UInt8) : decV (l ++ m) = decV l * 10 ^ m.length + decV m := by
  unfold decV
  rw [List.foldl_append, foldV]
  rfl
theorem decV_snoc (l : List UInt8) (c : UInt8) : decV (l ++ [c]) = decV l * 10 + (c.toNat - 48) := by
  rw [decV_app]; simp [decV]
theorem toNat_digit {d : Nat} (h : d < 10) : (UInt8.ofNat (48 + d)).toNat = 48 + d := by
  rw [UInt8.toNat_ofNat']; exact Nat.mod_eq_of_lt (by omega)
theorem decV_digits (n : Nat) : decV (decDigits n) = n := by
  induction n using Nat.strongRecOn with
  | _ n ih =>
    by_cases h : n < 10
    · rw [decDigits, dif_pos h]
      show decV ([] ++ [_]) = n
      rw [decV_snoc, toNat_digit h]
      simp [decV]
    · rw [decDigits, dif_neg h, decV_snoc, ih (n / 10) (by omega), toNat_digit (by omega)]
      omega
theorem digits_isD (n : Nat) : (decDigits n).all isD = true := by
  induction n using Nat.strongRecOn with
  | _ n ih =>
    by_cases h : n < 10
    · rw [decDigits, dif_pos h]
      simp only [List.all_cons, List.all_nil, isD, toNat_digit h]
      simp; omega
    · rw [decDigits, dif_neg h, List.all_append, ih (n / 10) (by omega)]
      simp only [List.all_cons, List.all_nil, isD, toNat_digit (show n % 10 < 10 by omega)]
      simp; omega
theorem digits_ne (n : Nat) : decDigits n ≠ [] := by
  intro h
  have h2 := decDigits_length n
  have := nDigits_pos n
  rw [h] at h2
  simp at h2
  omega
theorem head_app {α : Type} {l : List α} (m : List α) (h : l ≠ []) : (l ++ m).head? = l.head? := by
  cases l with
  | nil => exact absurd rfl h
  | cons x l => rfl
theorem digits_head (n : Nat) (hn : n ≠ 0) : (decDigits n).head? ≠ some 48 := by
  induction n using Nat.strongRecOn with
  | _ n ih =>
    by_cases h : n < 10
    · rw [decDigits, dif_pos h]
      intro hc
      have h2 : UInt8.ofNat (48 + n) = 48 := by simpa using hc
      have := congrArg UInt8.toNat h2
      rw [toNat_digit h] at this
      simp at this
      omega
    · rw [decDigits, dif_neg h, head_app _ (digits_ne _)]
      exact ih (n / 10) (by omega) (by omega)
theorem snoc_rec {α : Type} {P : List α → Prop} (h0 : P []) (h1 : ∀ l x, P l → P (l ++ [x])) : ∀ l, P l := by
  intro l
  rw [← List.reverse_reverse l]
  induction l.reverse with
  | nil => exact h0
  | cons x l ih => rw [List.reverse_cons]; exact h1 _ _ ih
theorem isD_back {c : UInt8} (h : isD c = true) : c.toNat - 48 < 10 ∧ UInt8.ofNat (48 + (c.toNat - 48)) = c := by
  unfold isD at h
  simp only [Bool.and_eq_true, decide_eq_true_eq] at h
  refine ⟨by omega, ?_⟩
  rw [show 48 + (c.toNat - 48) = c.toNat by omega]
  exact UInt8.ofNat_toNat
/-- A numeral without zeros in front is the one of its value. -/
theorem digits_decV (l : List UInt8) : l.all isD = true → l ≠ [] → (l.head? ≠ some 48 ∨ l = [48]) → decDigits (decV l) = l := by
  refine snoc_rec (P := fun l => l.all isD = true → l ≠ [] → (l.head? ≠ some 48 ∨ l = [48]) → decDigits (decV l) = l) (fun _ h => absurd rfl h) (fun l c ih ha _ hh => ?_) l
  rw [List.all_append, Bool.and_eq_true] at ha
  obtain ⟨h1, h2⟩ := ha
  have hc : isD c = true := by simpa using h2
  obtain ⟨c1, c2⟩ := isD_back hc
  rw [decV_snoc]
  by_cases hl : l = []
  · subst hl
    rw [show decV [] = 0 from rfl, Nat.zero_mul, Nat.zero_add, decDigits, dif_pos c1, c2]; rfl
  · have hh' : l.head? ≠ some 48 := by
      rcases hh with hh | hh
      · rwa [head_app _ hl] at hh
      · have := congrArg List.length hh
        rw [List.length_append] at this
        have : l.length = 0 := by simpa using this
        exact absurd (List.eq_nil_of_length_eq_zero this) hl
    have e := ih h1 hl (.inl hh')
    have hpos : decV l ≠ 0 := by
      intro h0
      rw [h0, decDigits, dif_pos (by decide)] at e
      rw [← e] at hh'
      exact hh' rfl
    rw [decDigits, dif_neg (by omega)]
    rw [show (decV l * 10 + (c.toNat - 48)) / 10 = decV l by omega, show (decV l * 10 + (c.toNat - 48)) % 10 = c.toNat - 48 by omega, e, c2]
theorem nDigits_le {n k : Nat} (hk : 1 ≤ k) : nDigits n ≤ k ↔ n < 10 ^ k := by
  constructor
  · intro h
    exact Nat.lt_of_lt_of_le (lt_pow_nDigits n) (Nat.pow_le_pow_right (by decide) h)
  · intro h
    refine Classical.byContradiction fun hc => ?_
    obtain ⟨j, hj⟩ : ∃ j, nDigits n = j + 2 := ⟨nDigits n - 2, by omega⟩
    have hb : ∀ (m j : Nat), nDigits m = j + 1 → 10 ^ j ≤ m ∨ j = 0 := by
      intro m
      induction m using Nat.strongRecOn with
      | _ m ih =>
        intro j hj
        by_cases h : m < 10
        · rw [nDigits_small h] at hj; right; omega
        · rw [nDigits_big h] at hj
          left
          cases j with
          | zero => have := nDigits_pos (m / 10); omega
          | succ j =>
            rcases ih (m / 10) (by omega) j (by omega) with h2 | h2
            · rw [Nat.pow_succ]; omega
            · subst h2; simpa using Nat.not_lt.1 h
    rcases hb n (j + 1) (by omega) with h2 | h2
    · have := Nat.pow_le_pow_right (show 0 < 10 by decide) (show k ≤ j + 1 by omega)
      omega
    · omega
/-! ### Integers as strings -/
/-- A string is an integer of at most 200 digits. -/
def isI (l : List UInt8) : Bool :=
  let d := if l.head? = some 45 then l.tail else l
  !d.isEmpty && (decide (d.length ≤ 200) && (d.all isD && (decide (l = [48]) || decide (d.head? ≠ some 48))))
/-- What it is worth. -/
def intV (l : List UInt8) : Int := if l.head? = some 45 then -(decV l.tail : Int) else (decV l : Int)
def lim : Nat := 10 ^ 200
theorem itoa_nat (n : Nat) : itoa (n : Int) = decDigits n := by
  unfold itoa
  rw [if_neg (by omega), Int.toNat_natCast]
theorem digits_first (n : Nat) : (decDigits n).head? ≠ some 45 := by
  intro h
  cases hd : decDigits n with
  | nil => exact digits_ne n hd
  | cons c l =>
    rw [hd] at h
    obtain rfl : c = 45 := by simpa using h
    have := digits_isD n
    rw [hd, List.all_cons, Bool.and_eq_true] at this
    exact absurd this.1 (by decide)
theorem intV_itoa (n : Int) : intV (itoa n) = n := by
  by_cases h : n < 0
  · unfold itoa intV
    rw [if_pos h]
    simp only [List.head?_cons, if_pos, List.tail_cons]
    rw [decV_digits]; omega
  · obtain ⟨m, rfl⟩ := Int.eq_ofNat_of_zero_le (by omega : 0 ≤ n)
    rw [itoa_nat]
    unfold intV
    rw [if_neg (digits_first m), decV_digits]
theorem isI_itoa {n : Int} (h : n.natAbs < lim) : isI (itoa n) = true := by
  have hd : nDigits n.natAbs ≤ 200 := (nDigits_le (by decide)).2 h
  by_cases hn : n < 0
  · unfold isI itoa
    rw [if_pos hn]
    have h1 := digits_ne n.natAbs
    have h2 := digits_head n.natAbs (by omega)
    have h3 := digits_isD n.natAbs
    have h4 := decDigits_length n.natAbs
    simp [h1, h2, h4, hd]
    simpa using h3
  · obtain ⟨m, rfl⟩ := Int.eq_ofNat_of_zero_le (by omega : 0 ≤ n)
    rw [itoa_nat]
    rw [Int.natAbs_natCast] at hd
    unfold isI
    rw [if_neg (digits_first m)]
    have h1 := digits_ne m
    have h3 := digits_isD m
    have h4 := decDigits_length m
    simp only [h4, hd, h3]
    by_cases h0 : m = 0
    · subst h0
      have : decDigits 0 = [48] := by rw [decDigits, dif_pos (by decide)]; rfl
      rw [this]; rfl
    · have h2 := digits_head m h0
      simp [h1, h2]
/-- A valid string is the numeral of what it is worth. -/
theorem itoa_intV {l : List UInt8} (h : isI l = true) : itoa (intV l) = l ∧ (intV l).natAbs < lim := by
  unfold isI at h
  by_cases hm : l.head? = some 45
  · rw [if_pos hm] at h
    simp only [Bool.and_eq_true, Bool.or_eq_true, decide_eq_true_eq, Bool.not_eq_true'] at h
    obtain ⟨h1, h2, h3, h4⟩ := h
    have hne : l.tail ≠ [] := fun hc => by rw [hc] at h1; cases h1
    have hl : l = 45 :: l.tail := by
      cases l with
      | nil => cases hm
      | cons c l => obtain rfl : c = 45 := by simpa using hm
                    rfl
    have hh : l.tail.head? ≠ some 48 := by
      rcases h4 with h4 | h4
      · rw [h4] at hm; cases hm
      · exact h4
    have hv := digits_decV l.tail h3 hne (.inl hh)
    have hp : decV l.tail ≠ 0 := by
      intro h0
      rw [h0, decDigits, dif_pos (by decide)] at hv
      rw [← hv] at hh
      exact hh rfl
    have hlen : decV l.tail < lim := (nDigits_le (by decide)).1 (by rw [← decDigits_length, hv]; exact h2)
    unfold intV
    rw [if_pos hm]
    refine ⟨?_, by omega⟩
    unfold itoa
    rw [if_pos (by omega), show (-(decV l.tail : Int)).natAbs = decV l.tail by omega, hv]
    exact hl.symm
  · rw [if_neg hm] at h
    simp only [Bool.and_eq_true, Bool.or_eq_true, decide_eq_true_eq, Bool.not_eq_true'] at h
    obtain ⟨h1, h2, h3, h4⟩ := h
    have hne : l ≠ [] := fun hc => by rw [hc] at h1; cases h1
    have hv := digits_decV l h3 hne (h4.symm)
    have hlen : decV l < lim := (nDigits_le (by decide)).1 (by rw [← decDigits_length, hv]; exact h2)
    unfold intV
    rw [if_neg hm]
    refine ⟨?_, by omega⟩
    rw [itoa_nat, hv]
theorem itoa_inj {m n : Int} (h : itoa m = itoa n) : m = n := by rw [← intV_itoa m, h, intV_itoa]
/-- Four digits, with zeros in front. -/
def pad4 (b : Nat) : List UInt8 := List.replicate (4 - (decDigits b).length) 48 ++ decDigits b
theorem dig_div (a b : Nat) (ha : a ≠ 0) (hb : b < 10000) : decDigits (a * 10000 + b) = decDigits a ++ pad4 b := by
  have step : ∀ n, 10 ≤ n → decDigits n = decDigits (n / 10) ++ [UInt8.ofNat (48 + n % 10)] := fun n h => by rw [decDigits, dif_neg (by omega)]
  have p4 : pad4 b = [UInt8.ofNat (48 + b / 1000), UInt8.ofNat (48 + b / 100 % 10), UInt8.ofNat (48 + b / 10 % 10), UInt8.ofNat (48 + b % 10)] := by
    unfold pad4
    have one : ∀ n, n < 10 → decDigits n = [UInt8.ofNat (48 + n)] := fun n h => decDigits_one h
    by_cases h1 : b < 10
    · rw [one b h1, show b / 1000 = 0 by omega, show b / 100 % 10 = 0 by omega, show b / 10 % 10 = 0 by omega, show b % 10 = b by omega]; rfl
    · by_cases h2 : b < 100
      · rw [step b (by omega), one (b / 10) (by omega), show b / 1000 = 0 by omega, show b / 100 % 10 = 0 by omega, show b / 10 % 10 = b / 10 by omega]; rfl
      · by_cases h3 : b < 1000
        · rw [step b (by omega), step (b / 10) (by omega), one (b / 10 / 10) (by omega), show b / 1000 = 0 by omega, show b / 10 / 10 = b / 100 % 10 by omega]; rfl
        · rw [step b (by omega), step (b / 10) (by omega), step (b / 10 / 10) (by omega), one (b / 10 / 10 / 10) (by omega), show b / 10 / 10 / 10 = b / 1000 by omega, show b / 10 / 10 % 10 = b / 100 % 10 by omega]; rfl
  rw [step _ (by omega), step _ (by omega), step _ (by omega), step _ (by omega), p4]
  rw [show (a * 10000 + b) / 10 / 10 / 10 / 10 = a by omega, show (a * 10000 + b) / 10 / 10 / 10 % 10 = b / 1000 by omega, show (a * 10000 + b) / 10 / 10 % 10 = b / 100 % 10 by omega, show (a * 10000 + b) / 10 % 10 = b / 10 % 10 by omega, show (a * 10000 + b) % 10 = b % 10 by omega]
  simp
end N3

/- Plain: quotient and remainder group by group, the root by Newton's steps, the numeral of groups. -/
namespace N3
open Go Go.Lib

/-! ### Over -/
/-- The groups of a quotient, the lowest one first. -/
def quo (m : Nat) : List Nat → List Nat
  | [] => []
  | x :: l => (x + 10000 * (val l % m)) / m :: quo m l
theorem quo_len (m : Nat) (l : List Nat) : (quo m l).length = l.length := by
  induction l with
  | nil => rfl
  | cons x l ih => simp [quo, ih]
theorem quo_val {m : Nat} (hm : 0 < m) (l : List Nat) : val (quo m l) = val l / m := by
  induction l with
  | nil => simp [quo, val]
  | cons x l ih =>
    simp only [quo, val, ih]
    have e : x + 10000 * val l = (x + 10000 * (val l % m)) + m * (10000 * (val l / m)) := by
      have := Nat.div_add_mod (val l) m
      have h2 : m * (10000 * (val l / m)) = 10000 * (m * (val l / m)) := by rw [Nat.mul_left_comm]
      omega
    rw [e, Nat.add_mul_div_left _ _ hm]
theorem quo_ok {m : Nat} (hm : 0 < m) {l : List Nat} (h : OKl l) : OKl (quo m l) := by
  induction l with
  | nil => intro x hx; cases hx
  | cons x l ih =>
    intro y hy
    rcases List.mem_cons.1 hy with rfl | hy
    · refine (Nat.div_lt_iff_lt_mul hm).2 ?_
      have h1 := h.head
      have h2 := Nat.mod_lt (val l) hm
      have h3 : 10000 * (val l % m) + 10000 ≤ 10000 * m := by omega
      omega
    · exact ih h.tail y hy
theorem quo_get {m : Nat} : ∀ {l : List Nat} {i : Nat}, i < l.length → (quo m l)[i]? = some ((l.getD i 0 + 10000 * (val (l.drop (i + 1)) % m)) / m) := by
  intro l
  induction l with
  | nil => intro i h; simp at h
  | cons x l ih =>
    intro i h
    cases i with
    | zero => simp [quo]
    | succ i =>
      have := ih (i := i) (by simpa using h)
      simp only [quo, List.getElem?_cons_succ, this, List.drop_succ_cons]
      simp
theorem drop_val {l : List Nat} {i : Nat} (h : i < l.length) : val (l.drop i) = l.getD i 0 + 10000 * val (l.drop (i + 1)) := by
  rw [List.drop_eq_getElem_cons h, val, List.getD_eq_getElem?_getD, List.getElem?_eq_getElem h, Option.getD_some]
theorem rem_step (x V m : Nat) : (x + 10000 * (V % m)) % m = (x + 10000 * V) % m := by
  rw [Nat.add_mod, Nat.mul_mod, Nat.mod_mod, ← Nat.mul_mod, ← Nat.add_mod]
/-- The groups of what is a group more. -/
theorem toG_cons {x n : Nat} (hx : x < 10000) (h : 0 < x + 10000 * n) : x :: toG n = toG (x + 10000 * n) := by
  rw [toG_pos (by omega : x + 10000 * n ≠ 0), show (x + 10000 * n) % 10000 = x by omega, show (x + 10000 * n) / 10000 = n by omega]
/-- What the search for a group of the quotient finds. -/
theorem search_group {m r : Nat} (hr : r < 10000 * m) {d : Nat} (hd : d ≤ 9999) (h1 : ∀ i, i < d → ¬ r < (i + 1) * m) (h2 : d < 9999 → r < (d + 1) * m) : d = r / m := by
  have h3 : r < (d + 1) * m := by
    by_cases h : d < 9999
    · exact h2 h
    · obtain rfl : d = 9999 := by omega
      exact hr
  have h4 : d * m ≤ r := by
    cases d with
    | zero => simp
    | succ d => exact Nat.not_lt.1 (h1 d (by omega))
  exact (Nat.div_eq_of_lt_le h4 h3).symm
/-! ### Root -/
def IsRoot (r x : Nat) : Prop := r * r ≤ x ∧ x < (r + 1) * (r + 1)
theorem root_unique {r s x : Nat} (h : IsRoot r x) (k : IsRoot s x) : r = s := by
  have a : ∀ r s : Nat, r * r ≤ x → x < (s + 1) * (s + 1) → r ≤ s := fun r s h1 h2 => by
    refine Classical.byContradiction fun hc => ?_
    have := Nat.mul_le_mul (show s + 1 ≤ r by omega) (show s + 1 ≤ r by omega)
    omega
  exact Nat.le_antisymm (a r s h.1 k.2) (a s r k.1 h.2)
theorem newton_up {r x : Nat} (hr : 0 < r) : x < ((r + x / r) / 2 + 1) * ((r + x / r) / 2 + 1) := by
  have h1 : x < r * (x / r + 1) := by rw [Nat.mul_add, Nat.mul_one]; have := Nat.div_add_mod x r; have := Nat.mod_lt x hr; omega
  generalize x / r = y at h1
  generalize hn : (r + y) / 2 + 1 = n
  have h2 : r + (y + 1) ≤ 2 * n := by omega
  have h3 : (r + (y + 1)) * (r + (y + 1)) ≤ (2 * n) * (2 * n) := Nat.mul_le_mul h2 h2
  have h4 : 4 * (r * (y + 1)) ≤ (r + (y + 1)) * (r + (y + 1)) := by
    rcases Nat.le_total r (y + 1) with h | h
    · obtain ⟨d, hd⟩ := Nat.le.dest h
      rw [← hd]
      have e1 : (r + (r + d)) * (r + (r + d)) = 4 * (r * (r + d)) + d * d := by
        simp only [Nat.add_mul, Nat.mul_add, Nat.mul_comm d r]; omega
      omega
    · obtain ⟨d, hd⟩ := Nat.le.dest h
      rw [← hd]
      generalize y + 1 = z
      have e1 : (z + d + z) * (z + d + z) = 4 * ((z + d) * z) + d * d := by
        simp only [Nat.add_mul, Nat.mul_add, Nat.mul_comm d z]; omega
      omega
  have h5 : (2 * n) * (2 * n) = 4 * (n * n) := by rw [Nat.mul_mul_mul_comm]
  omega
theorem newton_stop {r x : Nat} (hr : 0 < r) (h : r ≤ (r + x / r) / 2) : r * r ≤ x := by
  have h1 : r ≤ x / r := by
    generalize x / r = y at h
    omega
  exact (Nat.le_div_iff_mul_le hr).1 h1
theorem newton_pos {r x : Nat} (hr : 0 < r) (hx : 0 < x) : 0 < (r + x / r) / 2 := by
  by_cases h : r ≤ x
  · have h1 : 1 ≤ x / r := (Nat.le_div_iff_mul_le hr).2 (by omega)
    generalize x / r = y at h1
    omega
  · generalize x / r = y
    omega
/-! ### The numeral of groups -/
def txt : List Nat → List UInt8
  | [] => []
  | x :: l => if l = [] then decDigits x else txt l ++ pad4 x
theorem txt_toG (n : Nat) : n ≠ 0 → txt (toG n) = decDigits n := by
  induction n using Nat.strongRecOn with
  | _ n ih =>
    intro h
    rw [toG_pos h]
    by_cases h2 : n / 10000 = 0
    · rw [h2, toG_zero, txt, if_pos rfl, show n % 10000 = n by omega]
    · rw [txt, if_neg (fun hc => h2 (toG_nil.1 hc)), ih (n / 10000) (by omega) h2, ← dig_div _ _ h2 (by omega)]
      congr 1; omega
/-- Atoi at digits. -/
theorem decFrom_isD : ∀ (l : List UInt8) (a : Nat), l.all isD = true → decFrom a l = some (a * 10 ^ l.length + decV l) := by
  intro l
  induction l with
  | nil => intro a _; simp [decFrom, decV]
  | cons c l ih =>
    intro a h
    rw [List.all_cons, Bool.and_eq_true] at h
    have hd : digitVal c = some (c.toNat - 48) := by
      have := h.1
      unfold isD at this
      simp only [Bool.and_eq_true, decide_eq_true_eq] at this
      unfold digitVal
      rw [if_pos this]
    have e : decV (c :: l) = (c.toNat - 48) * 10 ^ l.length + decV l := by
      show decV ([c] ++ l) = _
      rw [decV_app]; simp [decV]
    simp only [decFrom, hd]
    rw [ih _ h.2, e, List.length_cons, Nat.pow_succ, Nat.add_mul, Nat.mul_assoc, Nat.mul_comm 10, Nat.add_assoc]
theorem atoi_isD {l : List UInt8} (h : l.all isD = true) (hl : l ≠ []) : atoi l = some (decV l : Int) := by
  cases l with
  | nil => exact absurd rfl hl
  | cons c l =>
    have hc := h
    rw [List.all_cons, Bool.and_eq_true] at hc
    have hc := hc.1
    unfold isD at hc
    simp only [Bool.and_eq_true, decide_eq_true_eq] at hc
    have e := decFrom_isD (c :: l) 0 h
    rw [Nat.zero_mul, Nat.zero_add] at e
    unfold atoi decNat
    have h1 : (c == 45) = false := by
      refine beq_eq_false_iff_ne.2 fun e2 => ?_
      subst e2
      exact absurd hc.1 (by decide)
    have h2 : (c == 43) = false := by
      refine beq_eq_false_iff_ne.2 fun e2 => ?_
      subst e2
      exact absurd hc.1 (by decide)
    simp [h1, h2, e]
end N3

/- Plain: numbers with a sign: sum, product, quotient, order. -/
namespace N3
open Go Go.Lib

def sgn (neg : Bool) (n : Nat) : Int := if neg = true then -(n : Int) else (n : Int)
theorem sgn_abs (neg : Bool) (n : Nat) : (sgn neg n).natAbs = n := by unfold sgn; split <;> omega
theorem sgn_self (x : Int) : sgn (decide (x < 0)) x.natAbs = x := by
  unfold sgn
  by_cases h : x < 0
  · rw [decide_eq_true h, if_pos rfl]; omega
  · rw [decide_eq_false h, if_neg (by decide)]; omega
theorem sgn_mul (nx ny : Bool) (a b : Nat) : sgn nx a * sgn ny b = sgn (nx != ny) (a * b) := by
  unfold sgn
  cases nx <;> cases ny <;> simp [Int.mul_neg, Int.neg_mul, Int.natCast_mul]
theorem sgn_add_same (nx : Bool) (a b : Nat) : sgn nx a + sgn nx b = sgn nx (a + b) := by
  unfold sgn
  cases nx <;> simp <;> omega
theorem sgn_add_ge {nx ny : Bool} {a b : Nat} (h : nx ≠ ny) (hab : b ≤ a) : sgn nx a + sgn ny b = sgn nx (a - b) := by
  unfold sgn
  cases nx <;> cases ny <;> simp at h ⊢ <;> omega
theorem sgn_add_lt {nx ny : Bool} {a b : Nat} (h : nx ≠ ny) (hab : a < b) : sgn nx a + sgn ny b = sgn ny (b - a) := by
  unfold sgn
  cases nx <;> cases ny <;> simp at h ⊢ <;> omega
theorem sgn_neg (nx : Bool) (a : Nat) : -sgn nx a = sgn (!nx) a := by
  unfold sgn
  cases nx <;> simp
/-- The quotient and the remainder of Euclid, of numbers with a sign. -/
theorem div_sgn_down (nx ny : Bool) (a b : Nat) (hb : 0 < b) (h : nx = false ∨ a % b = 0) : sgn nx a / sgn ny b = sgn (nx != ny) (a / b) ∧ sgn nx a % sgn ny b = ((a % b : Nat) : Int) := by
  have hm := Nat.div_add_mod a b
  have hl := Nat.mod_lt a hb
  have hd : (a : Int) = (b : Int) * ((a / b : Nat) : Int) + ((a % b : Nat) : Int) := by rw [← Int.natCast_mul, ← Int.natCast_add, hm]
  have key : ∀ x : Int, ∀ q r : Int, x = (b : Int) * q + r → 0 ≤ r → r < b → x / (b : Int) = q ∧ x % (b : Int) = r := fun x q r e h1 h2 =>
    (Int.ediv_emod_unique (by omega)).2 ⟨by rw [e, Int.add_comm], h1, h2⟩
  have hx : sgn nx a = (b : Int) * sgn nx (a / b) + ((a % b : Nat) : Int) := by
    rcases h with rfl | h
    · exact hd
    · rw [h] at hd ⊢
      cases nx
      · exact hd
      · unfold sgn
        simp only [if_pos]
        rw [Int.mul_neg]; omega
  obtain ⟨k1, k2⟩ := key _ _ _ hx (by omega) (by omega)
  cases ny
  · show sgn nx a / (b : Int) = _ ∧ sgn nx a % (b : Int) = _
    rw [k1, k2]
    cases nx <;> exact ⟨rfl, rfl⟩
  · show sgn nx a / (-(b : Int)) = _ ∧ sgn nx a % (-(b : Int)) = _
    rw [Int.ediv_neg, Int.emod_neg, k1, k2, sgn_neg]
    cases nx <;> exact ⟨rfl, rfl⟩
theorem div_sgn_up (ny : Bool) (a b : Nat) (hb : 0 < b) (h : a % b ≠ 0) : sgn true a / sgn ny b = sgn (true != ny) (a / b + 1) ∧ sgn true a % sgn ny b = ((b - a % b : Nat) : Int) := by
  have hm := Nat.div_add_mod a b
  have hl := Nat.mod_lt a hb
  have hd : (a : Int) = (b : Int) * ((a / b : Nat) : Int) + ((a % b : Nat) : Int) := by rw [← Int.natCast_mul, ← Int.natCast_add, hm]
  have hx : -(a : Int) = (b : Int) * (-(((a / b + 1 : Nat)) : Int)) + ((b - a % b : Nat) : Int) := by
    rw [Int.natCast_add, Int.mul_neg, Int.mul_add, Int.natCast_sub (by omega)]
    simp only [Int.natCast_one, Int.mul_one]
    omega
  obtain ⟨k1, k2⟩ := (Int.ediv_emod_unique (a := -(a : Int)) (b := (b : Int)) (q := -(((a / b + 1 : Nat)) : Int)) (r := ((b - a % b : Nat) : Int)) (by omega)).2 ⟨by omega, by omega, by omega⟩
  cases ny
  · show -(a : Int) / (b : Int) = _ ∧ -(a : Int) % (b : Int) = _
    rw [k1, k2]
    exact ⟨rfl, rfl⟩
  · show -(a : Int) / (-(b : Int)) = _ ∧ -(a : Int) % (-(b : Int)) = _
    rw [Int.ediv_neg, Int.emod_neg, k1, k2, Int.neg_neg]
    exact ⟨rfl, rfl⟩
/-- The order, as Compare tells it. -/
def cmpI (x y : Int) : Int := if x < y then -1 else if y < x then 1 else 0
theorem cmpI_bd (x y : Int) : -1 ≤ cmpI x y ∧ cmpI x y ≤ 1 := by unfold cmpI; split <;> (try split) <;> omega
theorem cmpI_neg (x y : Int) : cmpI y x = -cmpI x y := by unfold cmpI; split <;> split <;> (try split) <;> omega
theorem cmpI_eq (x y : Int) : cmpI x y = 0 ↔ x = y := by unfold cmpI; split <;> (try split) <;> omega
theorem cmpI_sub (x y : Int) : cmpI (x - y) 0 = cmpI x y := by unfold cmpI; (repeat' split) <;> omega
theorem cmpI_add (x y z : Int) : cmpI (x + z) (y + z) = cmpI x y := by unfold cmpI; (repeat' split) <;> omega
theorem cmpI_le (x y : Int) : cmpI x y ≤ 0 ↔ x ≤ y := by unfold cmpI; (repeat' split) <;> omega
theorem cmpI_lt (x y : Int) : cmpI x y < 0 ↔ x < y := by unfold cmpI; (repeat' split) <;> omega
/-- The order of lists of groups, from the highest one. -/
theorem val_lt_of_high {l m : List Nat} (hl : OKl l) (hm : OKl m) {i : Nat} (hlen : l.length = m.length) (hi : i < l.length) (hlt : l.getD i 0 < m.getD i 0) (heq : ∀ j, i < j → l.getD j 0 = m.getD j 0) : val l < val m := by
  induction l generalizing m i with
  | nil => simp at hi
  | cons x l ih =>
    cases m with
    | nil => simp at hlen
    | cons y m =>
      cases i with
      | zero =>
        have e : l = m := by
          apply List.ext_getElem (by simpa using hlen)
          intro j h1 h2
          have := heq (j + 1) (by omega)
          simpa [List.getD_eq_getElem?_getD, List.getElem?_eq_getElem h1, List.getElem?_eq_getElem h2] using this
        subst e
        have : x < y := by simpa using hlt
        simp only [val]; omega
      | succ i =>
        have h1 := ih (m := m) (i := i) hl.tail hm.tail (by simpa using hlen) (by simpa using hi) (by simpa using hlt) (fun j hj => by simpa using heq (j + 1) (by omega))
        have := hl.head
        simp only [val]; omega
end N3

/- Plain: numbers as lists of digits (the reference's): their numeral, and what a numeral's digits are. -/
namespace N3
open Go Go.Lib

def chr (d : Nat) : UInt8 := UInt8.ofNat (48 + d)
theorem ten_text (n : Nat) : n ≠ 0 → (D10.toG n).reverse.map chr = decDigits n := by
  induction n using Nat.strongRecOn with
  | _ n ih =>
    intro h
    rw [D10.toG_pos h, List.reverse_cons, List.map_append]
    by_cases h2 : n / 10 = 0
    · rw [h2, D10.toG_zero, decDigits_one (by omega : n < 10), show n % 10 = n by omega]; rfl
    · rw [ih (n / 10) (by omega) h2]
      conv => rhs; rw [decDigits, dif_neg (by omega)]
      rfl
/-- The digits of a numeral, the lowest one first. -/
def digs (l : List UInt8) : List Nat := l.reverse.map fun c => c.toNat - 48
theorem digs_val (l : List UInt8) : D10.val (digs l) = decV l := by
  refine snoc_rec (P := fun l => D10.val (digs l) = decV l) rfl (fun l c ih => ?_) l
  unfold digs at ih ⊢
  rw [List.reverse_append, List.map_append, decV_snoc]
  simp only [List.reverse_cons, List.reverse_nil, List.nil_append, List.map_cons, List.map_nil, List.cons_append, D10.val, ih]
  omega
theorem digs_ok {l : List UInt8} (h : l.all isD = true) : D10.OKl (digs l) := by
  intro x hx
  unfold digs at hx
  obtain ⟨c, hc, rfl⟩ := List.mem_map.1 hx
  have := List.all_eq_true.1 h c (List.mem_reverse.1 hc)
  exact (isD_back this).1
theorem digs_toG {l : List UInt8} (h : l.all isD = true) (hl : l.head? ≠ some 48) : digs l = D10.toG (decV l) := by
  rw [← digs_val]
  refine (D10.toG_val (digs_ok h) ?_).symm
  intro hc
  unfold digs at hc
  rw [List.getLast?_map, List.getLast?_reverse] at hc
  cases l with
  | nil => cases hc
  | cons c l =>
    rw [List.head?_cons, Option.map_some] at hc
    have h0 := Option.some.inj hc
    have hd := List.all_eq_true.1 h c List.mem_cons_self
    obtain ⟨-, h2⟩ := isD_back hd
    rw [h0] at h2
    rw [← h2] at hl
    exact hl rfl
end N3

/- Plain: fractions in lowest terms; comparing by whole parts. -/
namespace N3

/-- Comparing by the whole parts. -/
theorem cf_whole {n d m c : Int} (hd : 0 < d) (hc : 0 < c) (h : n / d ≠ m / c) : cmpI (n * c) (m * d) = cmpI (n / d) (m / c) := by
  have key : ∀ {n d m c : Int}, 0 < d → 0 < c → n / d < m / c → n * c < m * d := fun {n d m c} hd hc hlt => by
    have h1 : n < (n / d + 1) * d := by
      have := Int.lt_mul_ediv_self_add (x := n) hd
      rw [Int.add_mul, Int.one_mul, Int.mul_comm]; exact this
    have h2 : (m / c) * c ≤ m := Int.ediv_mul_le m (by omega)
    have h3 : n * c < (n / d + 1) * d * c := Int.mul_lt_mul_of_pos_right h1 hc
    have h4 : (m / c) * c * d ≤ m * d := Int.mul_le_mul_of_nonneg_right h2 (by omega)
    have h5 : (n / d + 1) * (d * c) ≤ (m / c) * (d * c) := Int.mul_le_mul_of_nonneg_right (by omega) (Int.le_of_lt (Int.mul_pos hd hc))
    have e1 : (n / d + 1) * d * c = (n / d + 1) * (d * c) := Int.mul_assoc _ _ _
    have e2 : (m / c) * c * d = (m / c) * (d * c) := by rw [Int.mul_assoc, Int.mul_comm c d]
    omega
  unfold cmpI
  rcases Int.lt_or_gt_of_ne h with h1 | h1
  · rw [if_pos (key hd hc h1), if_pos h1]
  · have := key hc hd h1
    rw [if_neg (by omega), if_pos this, if_neg (by omega), if_pos h1]
theorem cmpI_add_left (x y z : Int) : cmpI (z + x) (z + y) = cmpI x y := by unfold cmpI; (repeat' split) <;> omega
theorem cf_rest {n d m c : Int} (h : n / d = m / c) : cmpI (n * c) (m * d) = cmpI (n % d * c) (m % c * d) := by
  have e1 : n * c = (m / c) * (d * c) + n % d * c := by
    have h1 : n = d * (m / c) + n % d := by have := Int.mul_ediv_add_emod n d; rw [h] at this; omega
    calc n * c = (d * (m / c) + n % d) * c := by rw [← h1]
      _ = (m / c) * (d * c) + n % d * c := by rw [Int.add_mul, Int.mul_comm d, Int.mul_assoc]
  have e2 : m * d = (m / c) * (d * c) + m % c * d := by
    have h1 : m = c * (m / c) + m % c := by have := Int.mul_ediv_add_emod m c; omega
    calc m * d = (c * (m / c) + m % c) * d := by rw [← h1]
      _ = (m / c) * (d * c) + m % c * d := by rw [Int.add_mul, Int.mul_comm c, Int.mul_assoc, Int.mul_comm c d]
  rw [e1, e2, cmpI_add_left]
theorem cf_turn (r d s c : Int) : cmpI (d * s) (c * r) = -cmpI (r * c) (s * d) := by
  rw [← cmpI_neg, Int.mul_comm d s, Int.mul_comm c r]
/-! ### Lowest terms -/
/-- A fraction of two integers, the second of which is not 0. -/
def mk (n d : Int) : Int × Int :=
  let g : Int := (Nat.gcd n.natAbs d.natAbs : Nat)
  if d < 0 then ((-n) / g, (-d) / g) else (n / g, d / g)
def Low (r : Int × Int) : Prop := 0 < r.2 ∧ Nat.gcd r.1.natAbs r.2.natAbs = 1
theorem gcd_pos {n d : Int} (hd : d ≠ 0) : 0 < Nat.gcd n.natAbs d.natAbs := Nat.gcd_pos_of_pos_right _ (by omega)
theorem mk_spec {n d : Int} (hd : d ≠ 0) : ∃ g : Int, g ≠ 0 ∧ n = g * (mk n d).1 ∧ d = g * (mk n d).2 ∧ Low (mk n d) := by
  have hg := gcd_pos (n := n) hd
  obtain ⟨a, ha⟩ := Nat.gcd_dvd_left n.natAbs d.natAbs
  obtain ⟨b, hb⟩ := Nat.gcd_dvd_right n.natAbs d.natAbs
  have hco : Nat.gcd a b = 1 := by
    have h1 := Nat.gcd_mul_left (Nat.gcd n.natAbs d.natAbs) a b
    rw [← ha, ← hb] at h1
    exact Nat.eq_of_mul_eq_mul_left hg (by rw [← h1, Nat.mul_one])
  unfold mk
  simp only
  generalize Nat.gcd n.natAbs d.natAbs = g at *
  have hg0 : (g : Int) ≠ 0 := by omega
  have hn : n = (g : Int) * (if n < 0 then -(a : Int) else a) := by
    have : (n.natAbs : Int) = (g : Int) * a := by rw [ha, Int.natCast_mul]
    split
    · rw [Int.mul_neg]; omega
    · omega
  have hdd : d = (g : Int) * (if d < 0 then -(b : Int) else b) := by
    have : (d.natAbs : Int) = (g : Int) * b := by rw [hb, Int.natCast_mul]
    split
    · rw [Int.mul_neg]; omega
    · omega
  have hb0 : 0 < b := by
    refine Nat.pos_of_ne_zero fun h0 => ?_
    subst h0
    rw [Nat.mul_zero] at hb
    omega
  have hna : (if n < 0 then -(a : Int) else a).natAbs = a := by split <;> omega
  generalize hA : (if n < 0 then -(a : Int) else a) = A at hn hna
  by_cases h : d < 0
  · rw [if_pos h] at hdd ⊢
    have e1 : (-n) / (g : Int) = -A := by rw [hn, ← Int.mul_neg, Int.mul_ediv_cancel_left _ hg0]
    have e2 : (-d) / (g : Int) = (b : Int) := by rw [hdd, ← Int.mul_neg, Int.neg_neg, Int.mul_ediv_cancel_left _ hg0]
    rw [e1, e2]
    refine ⟨-(g : Int), by omega, ?_, ?_, ?_, ?_⟩
    · rw [Int.neg_mul_neg]; exact hn
    · rw [Int.neg_mul, ← Int.mul_neg]; exact hdd
    · show 0 < (b : Int); omega
    · show Nat.gcd (-A).natAbs (b : Int).natAbs = 1
      rw [Int.natAbs_neg, hna, Int.natAbs_natCast]; exact hco
  · rw [if_neg h] at hdd ⊢
    have e1 : n / (g : Int) = A := by rw [hn, Int.mul_ediv_cancel_left _ hg0]
    have e2 : d / (g : Int) = (b : Int) := by rw [hdd, Int.mul_ediv_cancel_left _ hg0]
    rw [e1, e2]
    refine ⟨(g : Int), hg0, hn, hdd, ?_, ?_⟩
    · show 0 < (b : Int); omega
    · show Nat.gcd A.natAbs (b : Int).natAbs = 1
      rw [hna, Int.natAbs_natCast]; exact hco
theorem low_eq {r s : Int × Int} (h1 : Low r) (h2 : Low s) (h : r.1 * s.2 = s.1 * r.2) : r = s := by
  obtain ⟨a, b⟩ := r
  obtain ⟨c, d⟩ := s
  obtain ⟨hb, hab⟩ := h1
  obtain ⟨hd, hcd⟩ := h2
  simp only at *
  have hn : a.natAbs * d.natAbs = c.natAbs * b.natAbs := by rw [← Int.natAbs_mul, ← Int.natAbs_mul, h]
  have d1 : b.natAbs ∣ d.natAbs := by
    have : b.natAbs ∣ a.natAbs * d.natAbs := ⟨c.natAbs, by rw [hn, Nat.mul_comm]⟩
    exact (Nat.Coprime.dvd_of_dvd_mul_left (Nat.Coprime.symm hab) this)
  have d2 : d.natAbs ∣ b.natAbs := by
    have : d.natAbs ∣ c.natAbs * b.natAbs := ⟨a.natAbs, by rw [← hn, Nat.mul_comm]⟩
    exact (Nat.Coprime.dvd_of_dvd_mul_left (Nat.Coprime.symm hcd) this)
  have hbd : b = d := by have := Nat.dvd_antisymm d1 d2; omega
  subst hbd
  have : a = c := Int.eq_of_mul_eq_mul_right (by omega) h
  rw [this]
theorem mk_low {n d : Int} (hd : d ≠ 0) : Low (mk n d) := by obtain ⟨g, -, -, -, h⟩ := mk_spec (n := n) hd; exact h
theorem mk_cross {n d : Int} (hd : d ≠ 0) : (mk n d).1 * d = n * (mk n d).2 := by
  obtain ⟨g, -, h1, h2, -⟩ := mk_spec (n := n) hd
  generalize mk n d = r at h1 h2
  rw [h1, h2, Int.mul_left_comm, Int.mul_assoc]
/-- Two fractions are equal exactly if they are crosswise. -/
theorem mk_eq {n d m c : Int} (hd : d ≠ 0) (hc : c ≠ 0) : mk n d = mk m c ↔ n * c = m * d := by
  have h1 := mk_cross (n := n) hd
  have h2 := mk_cross (n := m) hc
  have l1 := mk_low (n := n) hd
  have l2 := mk_low (n := m) hc
  generalize mk n d = r at *
  generalize mk m c = s at *
  constructor
  · rintro rfl
    have hr := l1.1
    refine Int.eq_of_mul_eq_mul_right (a := r.2) (by omega) ?_
    calc n * c * r.2 = (n * r.2) * c := by rw [Int.mul_right_comm]
      _ = (r.1 * d) * c := by rw [h1]
      _ = (r.1 * c) * d := by rw [Int.mul_right_comm]
      _ = (m * r.2) * d := by rw [h2]
      _ = m * d * r.2 := by rw [Int.mul_right_comm]
  · intro h
    refine low_eq l1 l2 ?_
    refine Int.eq_of_mul_eq_mul_right (a := d * c) (Int.mul_ne_zero hd hc) ?_
    calc r.1 * s.2 * (d * c) = (r.1 * d) * (s.2 * c) := by ac_rfl
      _ = (n * r.2) * (s.2 * c) := by rw [h1]
      _ = (n * c) * (r.2 * s.2) := by ac_rfl
      _ = (m * d) * (r.2 * s.2) := by rw [h]
      _ = (m * s.2) * (r.2 * d) := by ac_rfl
      _ = (s.1 * c) * (r.2 * d) := by rw [h2]
      _ = s.1 * r.2 * (d * c) := by ac_rfl
theorem mk_self {r : Int × Int} (h : Low r) : mk r.1 r.2 = r := by
  have hr : r.2 ≠ 0 := by have := h.1; omega
  exact low_eq (mk_low hr) h (mk_cross hr)
end N3

/- Plain: fractions in lowest terms under the operations: what they are worth; the laws of a field and of an order. -/
namespace N3

/-- A fraction in lowest terms, of the value n / d. -/
def Val (r : Int × Int) (n d : Int) : Prop := Low r ∧ d ≠ 0 ∧ r.1 * d = n * r.2
theorem Val.mk {n d : Int} (hd : d ≠ 0) : Val (mk n d) n d := ⟨mk_low hd, hd, mk_cross hd⟩
theorem Val.self {r : Int × Int} (h : Low r) : Val r r.1 r.2 := ⟨h, by have := h.1; omega, rfl⟩
theorem Val.eq_mk {r : Int × Int} {n d : Int} (h : Val r n d) : r = N3.mk n d := by
  refine low_eq h.1 (mk_low h.2.1) ?_
  have h2 := mk_cross (n := n) h.2.1
  refine Int.eq_of_mul_eq_mul_right h.2.1 ?_
  calc r.1 * (N3.mk n d).2 * d = (r.1 * d) * (N3.mk n d).2 := by ac_rfl
    _ = (n * r.2) * (N3.mk n d).2 := by rw [h.2.2]
    _ = (n * (N3.mk n d).2) * r.2 := by ac_rfl
    _ = ((N3.mk n d).1 * d) * r.2 := by rw [h2]
    _ = (N3.mk n d).1 * r.2 * d := by ac_rfl
theorem Val.unique {r s : Int × Int} {n d m c : Int} (h : Val r n d) (k : Val s m c) (e : n * c = m * d) : r = s := by
  rw [h.eq_mk, k.eq_mk]
  exact (mk_eq h.2.1 k.2.1).2 e
theorem Val.cross {r s : Int × Int} {n d m c : Int} (h : Val r n d) (k : Val s m c) (e : r = s) : n * c = m * d := by
  rw [h.eq_mk, k.eq_mk] at e
  exact (mk_eq h.2.1 k.2.1).1 e
/-- A value, over another denominator. -/
theorem Val.to {r : Int × Int} {n d m c : Int} (h : Val r n d) (hc : c ≠ 0) (e : n * c = m * d) : Val r m c := by
  have := Val.unique h (Val.mk (n := m) hc) e
  rw [this]; exact Val.mk hc
def addF (r s : Int × Int) : Int × Int := N3.mk (r.1 * s.2 + s.1 * r.2) (r.2 * s.2)
def subF (r s : Int × Int) : Int × Int := N3.mk (r.1 * s.2 - s.1 * r.2) (r.2 * s.2)
def mulF (r s : Int × Int) : Int × Int := N3.mk (r.1 * s.1) (r.2 * s.2)
def divF (r s : Int × Int) : Int × Int := N3.mk (r.1 * s.2) (r.2 * s.1)
theorem low_ne {r : Int × Int} (h : Low r) : r.2 ≠ 0 := by have := h.1; omega
theorem Val.add {r s : Int × Int} {n d m c : Int} (h : Val r n d) (k : Val s m c) : Val (addF r s) (n * c + m * d) (d * c) := by
  refine (Val.mk (Int.mul_ne_zero (low_ne h.1) (low_ne k.1))).to (Int.mul_ne_zero h.2.1 k.2.1) ?_
  have e1 := h.2.2
  have e2 := k.2.2
  calc (r.1 * s.2 + s.1 * r.2) * (d * c) = (r.1 * d) * (s.2 * c) + (s.1 * c) * (r.2 * d) := by rw [Int.add_mul]; ac_rfl
    _ = (n * r.2) * (s.2 * c) + (m * s.2) * (r.2 * d) := by rw [e1, e2]
    _ = (n * c + m * d) * (r.2 * s.2) := by rw [Int.add_mul]; ac_rfl
theorem Val.sub {r s : Int × Int} {n d m c : Int} (h : Val r n d) (k : Val s m c) : Val (subF r s) (n * c - m * d) (d * c) := by
  refine (Val.mk (Int.mul_ne_zero (low_ne h.1) (low_ne k.1))).to (Int.mul_ne_zero h.2.1 k.2.1) ?_
  have e1 := h.2.2
  have e2 := k.2.2
  calc (r.1 * s.2 - s.1 * r.2) * (d * c) = (r.1 * d) * (s.2 * c) - (s.1 * c) * (r.2 * d) := by rw [Int.sub_mul]; congr 1 <;> ac_rfl
    _ = (n * r.2) * (s.2 * c) - (m * s.2) * (r.2 * d) := by rw [e1, e2]
    _ = (n * c - m * d) * (r.2 * s.2) := by rw [Int.sub_mul]; congr 1 <;> ac_rfl
theorem Val.mul {r s : Int × Int} {n d m c : Int} (h : Val r n d) (k : Val s m c) : Val (mulF r s) (n * m) (d * c) := by
  refine (Val.mk (Int.mul_ne_zero (low_ne h.1) (low_ne k.1))).to (Int.mul_ne_zero h.2.1 k.2.1) ?_
  have e1 := h.2.2
  have e2 := k.2.2
  calc (r.1 * s.1) * (d * c) = (r.1 * d) * (s.1 * c) := by ac_rfl
    _ = (n * r.2) * (m * s.2) := by rw [e1, e2]
    _ = (n * m) * (r.2 * s.2) := by ac_rfl
theorem Val.num {r : Int × Int} {n d : Int} (h : Val r n d) : r.1 = 0 ↔ n = 0 := by
  have e := h.2.2
  constructor
  · intro h0
    rw [h0, Int.zero_mul] at e
    rcases Int.mul_eq_zero.1 e.symm with h1 | h1
    · exact h1
    · exact absurd h1 (low_ne h.1)
  · intro h0
    rw [h0, Int.zero_mul] at e
    rcases Int.mul_eq_zero.1 e with h1 | h1
    · exact h1
    · exact absurd h1 h.2.1
theorem Val.div {r s : Int × Int} {n d m c : Int} (h : Val r n d) (k : Val s m c) (hm : m ≠ 0) : Val (divF r s) (n * c) (d * m) := by
  have hs : s.1 ≠ 0 := fun h0 => hm (k.num.1 h0)
  refine (Val.mk (Int.mul_ne_zero (low_ne h.1) hs)).to (Int.mul_ne_zero h.2.1 hm) ?_
  have e1 := h.2.2
  have e2 := k.2.2
  calc (r.1 * s.2) * (d * m) = (r.1 * d) * (m * s.2) := by ac_rfl
    _ = (n * r.2) * (s.1 * c) := by rw [e1, e2]
    _ = (n * c) * (r.2 * s.1) := by ac_rfl
/-! ### The laws of a field -/
section
variable {a b c : Int × Int} (ha : Low a) (hb : Low b) (hc : Low c)
include ha hb
theorem add_comm' : addF a b = addF b a := Val.unique ((Val.self ha).add (Val.self hb)) ((Val.self hb).add (Val.self ha)) (by rw [Int.add_comm]; ac_rfl)
theorem mul_comm' : mulF a b = mulF b a := Val.unique ((Val.self ha).mul (Val.self hb)) ((Val.self hb).mul (Val.self ha)) (by ac_rfl)
theorem sub_add : subF (addF a b) b = a := Val.unique (((Val.self ha).add (Val.self hb)).sub (Val.self hb)) (Val.self ha) (by
  have e : (a.1 * b.2 + b.1 * a.2) * b.2 - b.1 * (a.2 * b.2) = a.1 * b.2 * b.2 := by
    rw [Int.add_mul, show b.1 * (a.2 * b.2) = b.1 * a.2 * b.2 by ac_rfl]; omega
  rw [e]; ac_rfl)
theorem div_mul (h0 : b.1 ≠ 0) : mulF (divF a b) b = a := Val.unique (((Val.self ha).div (Val.self hb) h0).mul (Val.self hb)) (Val.self ha) (by ac_rfl)
include hc
theorem add_assoc' : addF (addF a b) c = addF a (addF b c) := Val.unique (((Val.self ha).add (Val.self hb)).add (Val.self hc)) ((Val.self ha).add ((Val.self hb).add (Val.self hc))) (by
  have e : (a.1 * b.2 + b.1 * a.2) * c.2 + c.1 * (a.2 * b.2) = a.1 * (b.2 * c.2) + (b.1 * c.2 + c.1 * b.2) * a.2 := by
    rw [Int.add_mul, Int.add_mul, Int.add_assoc]; congr 1; ac_rfl; congr 1 <;> ac_rfl
  rw [e]; ac_rfl)
theorem mul_assoc' : mulF (mulF a b) c = mulF a (mulF b c) := Val.unique (((Val.self ha).mul (Val.self hb)).mul (Val.self hc)) ((Val.self ha).mul ((Val.self hb).mul (Val.self hc))) (by ac_rfl)
theorem distrib' : addF (mulF a c) (mulF b c) = mulF (addF a b) c := Val.unique (((Val.self ha).mul (Val.self hc)).add ((Val.self hb).mul (Val.self hc))) (((Val.self ha).add (Val.self hb)).mul (Val.self hc)) (by
  simp only [Int.add_mul]
  congr 1 <;> ac_rfl)
end
/-! ### The order -/
def cmpF (r s : Int × Int) : Int := cmpI (r.1 * s.2) (s.1 * r.2)
theorem cmpI_scale {x y k : Int} (hk : 0 < k) : cmpI (x * k) (y * k) = cmpI x y := by
  have h1 : x * k < y * k ↔ x < y := ⟨fun h => Int.lt_of_mul_lt_mul_right h (by omega), fun h => Int.mul_lt_mul_of_pos_right h hk⟩
  have h2 : y * k < x * k ↔ y < x := ⟨fun h => Int.lt_of_mul_lt_mul_right h (by omega), fun h => Int.mul_lt_mul_of_pos_right h hk⟩
  unfold cmpI
  simp only [h1, h2]
theorem Val.cmp {r s : Int × Int} {n d m c : Int} (h : Val r n d) (k : Val s m c) (hd : 0 < d) (hc : 0 < c) : cmpF r s = cmpI (n * c) (m * d) := by
  have hr := h.1.1
  have hs := k.1.1
  have e1 := h.2.2
  have e2 := k.2.2
  unfold cmpF
  rw [← cmpI_scale (x := r.1 * s.2) (y := s.1 * r.2) (Int.mul_pos hd hc), ← cmpI_scale (x := n * c) (y := m * d) (Int.mul_pos hr hs)]
  congr 1
  · calc r.1 * s.2 * (d * c) = (r.1 * d) * (s.2 * c) := by ac_rfl
      _ = (n * r.2) * (s.2 * c) := by rw [e1]
      _ = n * c * (r.2 * s.2) := by ac_rfl
  · calc s.1 * r.2 * (d * c) = (s.1 * c) * (r.2 * d) := by ac_rfl
      _ = (m * s.2) * (r.2 * d) := by rw [e2]
      _ = m * d * (r.2 * s.2) := by ac_rfl
theorem cmpF_bd (r s : Int × Int) : -1 ≤ cmpF r s ∧ cmpF r s ≤ 1 := cmpI_bd _ _
theorem cmpF_neg (r s : Int × Int) : cmpF s r = -cmpF r s := cmpI_neg _ _
theorem cmpF_eq {r s : Int × Int} (hr : Low r) (hs : Low s) : cmpF r s = 0 ↔ r = s := by
  unfold cmpF
  rw [cmpI_eq]
  constructor
  · exact low_eq hr hs
  · rintro rfl; rfl
theorem cmpF_trans {r s t : Int × Int} (hr : Low r) (hs : Low s) (ht : Low t) (h1 : cmpF r s ≤ 0) (h2 : cmpF s t ≤ 0) : cmpF r t ≤ 0 ∧ (cmpF s t < 0 → cmpF r t < 0) := by
  unfold cmpF at *
  rw [cmpI_le] at h1 h2
  rw [cmpI_le, cmpI_lt, cmpI_lt]
  have p1 : r.1 * s.2 * t.2 ≤ s.1 * r.2 * t.2 := Int.mul_le_mul_of_nonneg_right h1 (Int.le_of_lt ht.1)
  have p2 : s.1 * t.2 * r.2 ≤ t.1 * s.2 * r.2 := Int.mul_le_mul_of_nonneg_right h2 (Int.le_of_lt hr.1)
  have e1 : r.1 * s.2 * t.2 = r.1 * t.2 * s.2 := by ac_rfl
  have e2 : s.1 * r.2 * t.2 = s.1 * t.2 * r.2 := by ac_rfl
  have e3 : t.1 * s.2 * r.2 = t.1 * r.2 * s.2 := by ac_rfl
  refine ⟨Int.le_of_mul_le_mul_right (by omega) hs.1, fun h3 => ?_⟩
  have p3 : s.1 * t.2 * r.2 < t.1 * s.2 * r.2 := Int.mul_lt_mul_of_pos_right h3 hr.1
  exact Int.lt_of_mul_lt_mul_right (a := s.2) (by omega) (Int.le_of_lt hs.1)
theorem low_int (n : Int) : Low (n, 1) := ⟨show (0 : Int) < 1 by decide, by simp⟩
theorem cmpF_sub {a b : Int × Int} (ha : Low a) (hb : Low b) : cmpF (subF a b) (0, 1) = cmpF a b := by
  rw [((Val.self ha).sub (Val.self hb)).cmp (Val.self (low_int 0)) (Int.mul_pos ha.1 hb.1) (by decide), Int.mul_one, Int.zero_mul, cmpI_sub]
  rfl
theorem cmpF_add {a b t : Int × Int} (ha : Low a) (hb : Low b) (ht : Low t) : cmpF (addF a t) (addF b t) = cmpF a b := by
  rw [((Val.self ha).add (Val.self ht)).cmp ((Val.self hb).add (Val.self ht)) (Int.mul_pos ha.1 ht.1) (Int.mul_pos hb.1 ht.1)]
  have e1 : (a.1 * t.2 + t.1 * a.2) * (b.2 * t.2) = a.1 * b.2 * (t.2 * t.2) + t.1 * a.2 * (b.2 * t.2) := by rw [Int.add_mul]; congr 1; ac_rfl
  have e2 : (b.1 * t.2 + t.1 * b.2) * (a.2 * t.2) = b.1 * a.2 * (t.2 * t.2) + t.1 * a.2 * (b.2 * t.2) := by rw [Int.add_mul]; congr 1 <;> ac_rfl
  rw [e1, e2, cmpI_add, cmpI_scale (Int.mul_pos ht.1 ht.1)]
  rfl
theorem cmpI_mul (x y k : Int) : cmpI (x * k) (y * k) = cmpI x y * cmpI k 0 := by
  rcases Int.lt_trichotomy k 0 with h | h | h
  · have e : cmpI k 0 = -1 := by unfold cmpI; rw [if_pos h]
    have := cmpI_scale (x := y) (y := x) (k := -k) (by omega)
    rw [e, Int.mul_neg_one, ← cmpI_neg, ← this]
    unfold cmpI
    rw [Int.mul_neg, Int.mul_neg]
    (repeat' split) <;> omega
  · subst h; simp [cmpI]
  · have e : cmpI k 0 = 1 := by unfold cmpI; rw [if_neg (by omega), if_pos h]
    rw [e, Int.mul_one, cmpI_scale h]
theorem cmpF_mul {a b t : Int × Int} (ha : Low a) (hb : Low b) (ht : Low t) : cmpF (mulF a t) (mulF b t) = cmpF a b * cmpF t (0, 1) := by
  rw [((Val.self ha).mul (Val.self ht)).cmp ((Val.self hb).mul (Val.self ht)) (Int.mul_pos ha.1 ht.1) (Int.mul_pos hb.1 ht.1)]
  have e1 : a.1 * t.1 * (b.2 * t.2) = a.1 * b.2 * t.1 * t.2 := by ac_rfl
  have e2 : b.1 * t.1 * (a.2 * t.2) = b.1 * a.2 * t.1 * t.2 := by ac_rfl
  rw [e1, e2, cmpI_scale ht.1, cmpI_mul]
  unfold cmpF
  rw [Int.mul_one, Int.zero_mul]
end N3

/- Plain: the multiples of a grid below and above a fraction. -/
namespace N3

def ten (p : Nat) : Int := 10 ^ p
theorem ten_pos (p : Nat) : 0 < ten p := Int.pow_pos (by decide)
def downN (r : Int × Int) (p : Nat) : Int := r.1 * ten p / r.2
def upN (r : Int × Int) (p : Nat) : Int := r.1 * ten p / r.2 + if r.1 * ten p % r.2 = 0 then 0 else 1
def downF (r : Int × Int) (p : Nat) : Int × Int := mk (downN r p) (ten p)
def upF (r : Int × Int) (p : Nat) : Int × Int := mk (upN r p) (ten p)
theorem Val.downF (r : Int × Int) (p : Nat) : Val (downF r p) (downN r p) (ten p) := Val.mk (by have := ten_pos p; omega)
theorem Val.upF (r : Int × Int) (p : Nat) : Val (upF r p) (upN r p) (ten p) := Val.mk (by have := ten_pos p; omega)
theorem down_bd {r : Int × Int} (hr : Low r) (p : Nat) : downN r p * r.2 ≤ r.1 * ten p ∧ r.1 * ten p < (downN r p + 1) * r.2 := by
  have h := hr.1
  unfold downN
  refine ⟨Int.ediv_mul_le _ (by omega), ?_⟩
  have := Int.lt_mul_ediv_self_add (x := r.1 * ten p) h
  rw [Int.add_mul, Int.one_mul, Int.mul_comm (r.1 * ten p / r.2)]; exact this
theorem up_bd {r : Int × Int} (hr : Low r) (p : Nat) : r.1 * ten p ≤ upN r p * r.2 ∧ (upN r p - 1) * r.2 < r.1 * ten p := by
  have h := hr.1
  have h1 := Int.mul_ediv_add_emod (r.1 * ten p) r.2
  have h2 := Int.emod_nonneg (r.1 * ten p) (show r.2 ≠ 0 by omega)
  have h3 := Int.emod_lt_of_pos (r.1 * ten p) h
  unfold upN
  rw [Int.mul_comm r.2] at h1
  split
  · rename_i h0
    rw [h0] at h1
    rw [Int.add_zero, Int.sub_mul, Int.one_mul]
    omega
  · rw [Int.add_mul, Int.one_mul, Int.add_sub_cancel]
    omega
theorem down_le {r : Int × Int} (hr : Low r) (p : Nat) : cmpF (downF r p) r ≤ 0 := by
  rw [(Val.downF r p).cmp (Val.self hr) (ten_pos p) hr.1, cmpI_le]
  exact (down_bd hr p).1
theorem up_ge {r : Int × Int} (hr : Low r) (p : Nat) : 0 ≤ cmpF (upF r p) r := by
  rw [(Val.upF r p).cmp (Val.self hr) (ten_pos p) hr.1]
  have := (up_bd hr p).1
  unfold cmpI
  rw [if_neg (by omega)]
  split <;> omega
/-- The fraction is a multiple of the grid exactly if both are it. -/
theorem exact_iff {r : Int × Int} (hr : Low r) (p : Nat) : (cmpF (downF r p) r = 0 ↔ r.1 * ten p % r.2 = 0) ∧ (cmpF (upF r p) r = 0 ↔ r.1 * ten p % r.2 = 0) := by
  have h := hr.1
  have h1 := Int.mul_ediv_add_emod (r.1 * ten p) r.2
  have h2 := Int.emod_nonneg (r.1 * ten p) (show r.2 ≠ 0 by omega)
  have h3 := Int.emod_lt_of_pos (r.1 * ten p) h
  rw [(Val.downF r p).cmp (Val.self hr) (ten_pos p) h, (Val.upF r p).cmp (Val.self hr) (ten_pos p) h, cmpI_eq, cmpI_eq]
  unfold downN upN
  rw [Int.mul_comm r.2] at h1
  refine ⟨by omega, ?_⟩
  split
  · rename_i h0
    rw [h0] at h1
    rw [Int.add_zero]
    omega
  · rename_i h0
    rw [Int.add_mul, Int.one_mul]
    omega
theorem up_sub_down (r : Int × Int) (p : Nat) : subF (upF r p) (downF r p) = if r.1 * ten p % r.2 = 0 then (0, 1) else mk 1 (ten p) := by
  have ht := ten_pos p
  have h := (Val.upF r p).sub (Val.downF r p)
  split
  · rename_i h0
    refine Val.unique h (Val.self (low_int 0)) ?_
    unfold upN downN
    rw [if_pos h0, Int.add_zero]
    simp
  · rename_i h0
    refine Val.unique h (Val.mk (show ten p ≠ 0 by omega)) ?_
    unfold upN downN
    rw [if_neg h0, Int.add_mul, Int.one_mul, show ∀ x y : Int, x + y - x = y from fun x y => by omega, Int.one_mul]
theorem one_ten (p : Nat) : Low (1, ten p) := ⟨ten_pos p, by simp⟩
theorem mk_one_ten (p : Nat) : mk 1 (ten p) = (1, ten p) := mk_self (one_ten p)
/-- Rounding a multiple of the grid changes nothing. -/
theorem round_fix {r : Int × Int} {n : Int} {p : Nat} (h : Val r n (ten p)) : downF r p = r ∧ upF r p = r := by
  have ht := ten_pos p
  have hr := h.1.1
  have e : r.1 * ten p = n * r.2 := h.2.2
  have h1 : r.1 * ten p / r.2 = n := by rw [e]; exact Int.mul_ediv_cancel _ (by omega)
  have h2 : r.1 * ten p % r.2 = 0 := by rw [e]; exact Int.mul_emod_left _ _
  constructor
  · refine Val.unique (Val.downF r p) h ?_
    unfold downN; rw [h1]
  · refine Val.unique (Val.upF r p) h ?_
    unfold upN; rw [h1, h2, if_pos rfl, Int.add_zero]
/-- The negative of a fraction. -/
def negF (r : Int × Int) : Int × Int := (-r.1, r.2)
theorem negF_low {r : Int × Int} (h : Low r) : Low (negF r) := ⟨h.1, by show Nat.gcd (-r.1).natAbs r.2.natAbs = 1; rw [Int.natAbs_neg]; exact h.2⟩
theorem zero_sub {r : Int × Int} (h : Low r) : subF (0, 1) r = negF r := Val.unique ((Val.self (low_int 0)).sub (Val.self h)) (Val.self (negF_low h)) (by
  show (0 * r.2 - r.1 * 1) * r.2 = -r.1 * (1 * r.2)
  rw [Int.zero_mul, Int.mul_one, Int.one_mul, Int.zero_sub])
theorem neg_ediv' {a d : Int} (hd : 0 < d) : -((-a) / d) = a / d + if a % d = 0 then 0 else 1 := by
  have h1 := Int.mul_ediv_add_emod a d
  have h2 := Int.emod_nonneg a (show d ≠ 0 by omega)
  have h3 := Int.emod_lt_of_pos a hd
  split
  · rename_i h0
    rw [h0] at h1
    have e : -a = d * (-(a / d)) := by rw [Int.mul_neg]; omega
    rw [e, Int.mul_ediv_cancel_left _ (show d ≠ 0 by omega)]; omega
  · rename_i h0
    obtain ⟨k, -⟩ := (Int.ediv_emod_unique (a := -a) (b := d) (q := -(a / d) - 1) (r := d - a % d) hd).2 ⟨by rw [Int.mul_sub, Int.mul_neg, Int.mul_one]; omega, by omega, by omega⟩
    rw [k]; omega
/-- Up is minus Down of minus. -/
theorem up_down_neg {r : Int × Int} (h : Low r) (p : Nat) : negF (downF (negF r) p) = upF r p := by
  have hv := Val.downF (negF r) p
  have hn : Val (negF (downF (negF r) p)) (-(downN (negF r) p)) (ten p) := by
    refine ⟨negF_low hv.1, hv.2.1, ?_⟩
    show -(downF (negF r) p).1 * ten p = -(downN (negF r) p) * (downF (negF r) p).2
    rw [Int.neg_mul, Int.neg_mul, hv.2.2]
  refine Val.unique hn (Val.upF r p) ?_
  congr 1
  unfold downN upN negF
  simp only
  rw [Int.neg_mul]
  exact neg_ediv' h.1
end N3

/- Plain: what the laws of chapter 03 say of numbers. -/
namespace N3
open Go Go.Lib

/-- The greatest common divisor, as an integer. -/
def gcdI (x y : Int) : Int := (Nat.gcd x.natAbs y.natAbs : Nat)
theorem gcdI_comm (x y : Int) : gcdI x y = gcdI y x := by unfold gcdI; rw [Nat.gcd_comm]
theorem gcdI_nonneg (x y : Int) : 0 ≤ gcdI x y := by unfold gcdI; omega
theorem gcdI_zero {x y : Int} : gcdI x y = 0 ↔ x = 0 ∧ y = 0 := by
  unfold gcdI
  constructor
  · intro h
    have h0 : Nat.gcd x.natAbs y.natAbs = 0 := by omega
    have h1 := Nat.eq_zero_of_gcd_eq_zero_left h0
    have h2 := Nat.eq_zero_of_gcd_eq_zero_right h0
    omega
  · rintro ⟨rfl, rfl⟩; rfl
theorem gcdI_dvd_left (x y : Int) : x % gcdI x y = 0 := by
  unfold gcdI
  have h := Nat.gcd_dvd_left x.natAbs y.natAbs
  exact Int.emod_eq_zero_of_dvd (Int.ofNat_dvd_left.2 h)
theorem gcdI_dvd_right (x y : Int) : y % gcdI x y = 0 := by rw [gcdI_comm]; exact gcdI_dvd_left y x
theorem gcd_parts {X Y A B : Nat} (h : 0 < Nat.gcd X Y) (hx : X = Nat.gcd X Y * A) (hy : Y = Nat.gcd X Y * B) : Nat.gcd A B = 1 := by
  have h3 := Nat.gcd_mul_left (Nat.gcd X Y) A B
  rw [← hx, ← hy] at h3
  exact Nat.eq_of_mul_eq_mul_left h (by rw [← h3, Nat.mul_one])
theorem gcdI_div {x y : Int} (h : ¬ (x = 0 ∧ y = 0)) : gcdI (x / gcdI x y) (y / gcdI x y) = 1 := by
  have hg : gcdI x y ≠ 0 := fun h0 => h (gcdI_zero.1 h0)
  have hx := Int.mul_ediv_add_emod x (gcdI x y)
  have hy := Int.mul_ediv_add_emod y (gcdI x y)
  rw [gcdI_dvd_left] at hx
  rw [gcdI_dvd_right] at hy
  have hgn : 0 < Nat.gcd x.natAbs y.natAbs := by unfold gcdI at hg; omega
  generalize hA : x / gcdI x y = A at hx ⊢
  generalize hB : y / gcdI x y = B at hy ⊢
  have e1 : x.natAbs = Nat.gcd x.natAbs y.natAbs * A.natAbs := by
    have : x = gcdI x y * A := by omega
    have h2 := congrArg Int.natAbs this
    rw [Int.natAbs_mul] at h2
    unfold gcdI at h2
    rwa [Int.natAbs_natCast] at h2
  have e2 : y.natAbs = Nat.gcd x.natAbs y.natAbs * B.natAbs := by
    have : y = gcdI x y * B := by omega
    have h2 := congrArg Int.natAbs this
    rw [Int.natAbs_mul] at h2
    unfold gcdI at h2
    rwa [Int.natAbs_natCast] at h2
  have h3 := gcd_parts hgn e1 e2
  unfold gcdI
  rw [h3]; rfl
theorem gcdI_mul (x y z : Int) : gcdI (x * z) (y * z) = (gcdI x y * z).natAbs := by
  unfold gcdI
  rw [Int.natAbs_mul, Int.natAbs_mul, Int.natAbs_mul, Nat.gcd_mul_right, Int.natAbs_natCast]
/-- The root of a square. -/
theorem root_sq (x : Int) : IsRoot x.natAbs (x * x).natAbs := by
  rw [Int.natAbs_mul]
  refine ⟨Nat.le_refl _, ?_⟩
  simp only [Nat.add_mul, Nat.mul_add]
  omega
theorem natAbs_lt {x y : Int} {a b k : Nat} (hx : x.natAbs < 10 ^ a) (hy : y.natAbs < 10 ^ b) (h : a + b ≤ k) : (x * y).natAbs < 10 ^ k := by
  rw [Int.natAbs_mul]
  have h1 : x.natAbs * y.natAbs < 10 ^ a * 10 ^ b := by
    rcases Nat.eq_zero_or_pos y.natAbs with h0 | h0
    · rw [h0, Nat.mul_zero]; exact Nat.mul_pos (Nat.pow_pos (by decide)) (Nat.pow_pos (by decide))
    · exact Nat.lt_of_lt_of_le (Nat.mul_lt_mul_of_pos_right hx h0) (Nat.mul_le_mul_left _ (Nat.le_of_lt hy))
  rw [← Nat.pow_add] at h1
  exact Nat.lt_of_lt_of_le h1 (Nat.pow_le_pow_right (by decide) h)
theorem natAbs_add_lt {x y : Int} {a b k : Nat} (hx : x.natAbs < 10 ^ a) (hy : y.natAbs < 10 ^ b) (h1 : a < k) (h2 : b < k) : (x + y).natAbs < 10 ^ k := by
  have e1 : 10 ^ a ≤ 10 ^ (k - 1) := Nat.pow_le_pow_right (by decide) (by omega)
  have e2 : 10 ^ b ≤ 10 ^ (k - 1) := Nat.pow_le_pow_right (by decide) (by omega)
  have e3 : 10 ^ k = 10 ^ (k - 1) * 10 := by rw [← Nat.pow_succ]; congr 1; omega
  omega
end N3

/- Plain: nines, and products at the limit of 200 digits (IntegerLimits). -/
namespace N3
open Go Go.Lib

def ninesL (n : Nat) : List UInt8 := List.replicate n 57
theorem ninesL_succ (n : Nat) : ninesL (n + 1) = ninesL n ++ [57] := by unfold ninesL; rw [List.replicate_succ']
theorem dig_snoc (a d : Nat) (ha : a ≠ 0) (hd : d < 10) : decDigits (a * 10 + d) = decDigits a ++ [UInt8.ofNat (48 + d)] := by
  conv => lhs; rw [decDigits, dif_neg (by omega)]
  rw [show (a * 10 + d) / 10 = a by omega, show (a * 10 + d) % 10 = d by omega]
theorem nines_dig : ∀ n, n ≠ 0 → decDigits (10 ^ n - 1) = ninesL n := by
  intro n
  induction n with
  | zero => intro h; exact absurd rfl h
  | succ n ih =>
    intro _
    by_cases h : n = 0
    · subst h; rw [decDigits_one (by decide)]; rfl
    · have hp : 1 < 10 ^ n := Nat.one_lt_pow h (by decide)
      rw [show 10 ^ (n + 1) - 1 = (10 ^ n - 1) * 10 + 9 by rw [Nat.pow_succ]; omega, dig_snoc _ _ (by omega) (by decide), ih h, ninesL_succ]
      rfl
theorem one_nines_dig : ∀ n, decDigits (2 * 10 ^ n - 1) = 49 :: ninesL n := by
  intro n
  induction n with
  | zero => rw [decDigits_one (by decide)]; rfl
  | succ n ih =>
    have hp : 1 ≤ 10 ^ n := Nat.one_le_pow _ _ (by decide)
    rw [show 2 * 10 ^ (n + 1) - 1 = (2 * 10 ^ n - 1) * 10 + 9 by rw [Nat.pow_succ]; omega, dig_snoc _ _ (by omega) (by decide), ih, ninesL_succ]
    rfl
theorem ten_dig : ∀ n, decDigits (10 ^ n) = 49 :: List.replicate n 48 := by
  intro n
  induction n with
  | zero => rw [Nat.pow_zero, decDigits_one (by decide)]; rfl
  | succ n ih =>
    have hp : 1 ≤ 10 ^ n := Nat.one_le_pow _ _ (by decide)
    rw [show 10 ^ (n + 1) = 10 ^ n * 10 + 0 by rw [Nat.pow_succ]; omega, dig_snoc _ _ (by omega) (by decide), ih, List.replicate_succ']
    rfl
/-- How many digits the product has. -/
theorem prod_digits (m n : Nat) : nDigits (10 ^ m * (2 * 10 ^ n - 1)) = m + n + 1 := by
  have hm : 1 ≤ 10 ^ m := Nat.one_le_pow _ _ (by decide)
  have hn : 1 ≤ 10 ^ n := Nat.one_le_pow _ _ (by decide)
  refine nDigits_unique _ _ ?_ ?_
  · rw [Nat.pow_add]; exact Nat.mul_le_mul_left _ (by omega)
  · rw [Nat.pow_succ, Nat.pow_add, Nat.mul_assoc]
    exact Nat.mul_lt_mul_of_pos_left (by omega) (by omega)
theorem prod_fits (m n : Nat) : 10 ^ m * (2 * 10 ^ n - 1) < lim ↔ m + n < 200 := by
  unfold lim
  rw [← nDigits_le (by decide), prod_digits]
  omega
end N3

/- Plain: integers as strings: what each function of the chapter answers. -/
namespace N3
open Go Go.Lib

def S (x : Int) : ByteArray := ⟨(itoa x).toArray⟩
def okS (s : ByteArray) : Bool := isI s.data.toList
def iV (s : ByteArray) : Int := intV s.data.toList
theorem iV_S (x : Int) : iV (S x) = x := by unfold iV S; exact intV_itoa x
theorem okS_S {x : Int} (h : x.natAbs < lim) : okS (S x) = true := by unfold okS S; exact isI_itoa h
theorem S_iV {s : ByteArray} (h : okS s = true) : S (iV s) = s := by
  unfold S iV
  unfold okS at h
  rw [(itoa_intV h).1]
theorem iV_lim {s : ByteArray} (h : okS s = true) : (iV s).natAbs < lim := (itoa_intV h).2
theorem S_inj {x y : Int} (h : S x = S y) : x = y := by rw [← iV_S x, h, iV_S]
theorem S_eq {x y : Int} : S x = S y ↔ x = y := ⟨S_inj, fun h => by rw [h]⟩
/-- An answer: an integer, or an error. -/
def outS (o : Option Int) : ByteArray := match o with
  | some x => if x.natAbs < lim then S x else ⟨#[]⟩
  | none => ⟨#[]⟩
def outE (o : Option Int) : Int := match o with
  | some x => if x.natAbs < lim then 0 else 30
  | none => 30
theorem outS_some {x : Int} (h : x.natAbs < lim) : outS (some x) = S x := by unfold outS; simp only [if_pos h]
theorem outE_some {x : Int} (h : x.natAbs < lim) : outE (some x) = 0 := by unfold outE; simp only [if_pos h]
theorem outS_big {x : Int} (h : ¬ x.natAbs < lim) : outS (some x) = ⟨#[]⟩ := by unfold outS; simp only [if_neg h]
theorem outE_big {x : Int} (h : ¬ x.natAbs < lim) : outE (some x) = 30 := by unfold outE; simp only [if_neg h]
def ok2 (a b : ByteArray) : Bool := okS a && okS b
def addO (a b : ByteArray) : Option Int := if ok2 a b = true then some (iV a + iV b) else none
def subO (a b : ByteArray) : Option Int := if ok2 a b = true then some (iV a - iV b) else none
def mulO (a b : ByteArray) : Option Int := if ok2 a b = true then some (iV a * iV b) else none
def gcdO (a b : ByteArray) : Option Int := if ok2 a b = true then some (gcdI (iV a) (iV b)) else none
def cmpS (a b : ByteArray) : Int := if ok2 a b = true then cmpI (iV a) (iV b) else 0
def okDiv (a b : ByteArray) : Bool := ok2 a b && decide (iV b ≠ 0)
def quoO (a b : ByteArray) : Option Int := if okDiv a b = true then some (iV a / iV b) else none
def remO (a b : ByteArray) : Option Int := if okDiv a b = true then some (iV a % iV b) else none
/-- The root, by search. -/
theorem root_ex (n : Nat) : ∃ r, IsRoot r n := by
  induction n with
  | zero => exact ⟨0, Nat.le_refl _, by decide⟩
  | succ n ih =>
    obtain ⟨r, h1, h2⟩ := ih
    by_cases h : (r + 1) * (r + 1) ≤ n + 1
    · refine ⟨r + 1, h, ?_⟩
      have e : (r + 1 + 1) * (r + 1 + 1) = (r + 1) * (r + 1) + 2 * r + 3 := by simp only [Nat.add_mul, Nat.mul_add]; omega
      omega
    · exact ⟨r, by omega, by omega⟩
noncomputable def rootN (n : Nat) : Nat := Classical.choose (root_ex n)
theorem rootN_is (n : Nat) : IsRoot (rootN n) n := Classical.choose_spec (root_ex n)
theorem rootN_eq {r n : Nat} (h : IsRoot r n) : rootN n = r := root_unique (rootN_is n) h
theorem rootN_le (n : Nat) : rootN n ≤ n := by
  have h := (rootN_is n).1
  generalize rootN n = r at h
  cases r with
  | zero => exact Nat.zero_le _
  | succ r => have : (r + 1) * 1 ≤ (r + 1) * (r + 1) := Nat.mul_le_mul_left _ (by omega)
              omega
noncomputable def rootO (a : ByteArray) : Option Int := if (okS a && decide (0 ≤ iV a)) = true then some ((rootN (iV a).natAbs : Nat) : Int) else none
/-- As a number of the machine. -/
def inM (x : Int) : Bool := decide (-9223372036854775808 ≤ x) && decide (x ≤ 9223372036854775807)
def toM (s : ByteArray) : Int := if (okS s && inM (iV s)) = true then iV s else 0
def toE (s : ByteArray) : Int := if (okS s && inM (iV s)) = true then 0 else 30
theorem ok2_S {x y : Int} (hx : x.natAbs < lim) (hy : y.natAbs < lim) : ok2 (S x) (S y) = true := by unfold ok2; rw [okS_S hx, okS_S hy]; rfl
theorem addO_S {x y : Int} (hx : x.natAbs < lim) (hy : y.natAbs < lim) : addO (S x) (S y) = some (x + y) := by unfold addO; rw [if_pos (ok2_S hx hy), iV_S, iV_S]
theorem subO_S {x y : Int} (hx : x.natAbs < lim) (hy : y.natAbs < lim) : subO (S x) (S y) = some (x - y) := by unfold subO; rw [if_pos (ok2_S hx hy), iV_S, iV_S]
theorem mulO_S {x y : Int} (hx : x.natAbs < lim) (hy : y.natAbs < lim) : mulO (S x) (S y) = some (x * y) := by unfold mulO; rw [if_pos (ok2_S hx hy), iV_S, iV_S]
theorem gcdO_S {x y : Int} (hx : x.natAbs < lim) (hy : y.natAbs < lim) : gcdO (S x) (S y) = some (gcdI x y) := by unfold gcdO; rw [if_pos (ok2_S hx hy), iV_S, iV_S]
theorem cmpS_S {x y : Int} (hx : x.natAbs < lim) (hy : y.natAbs < lim) : cmpS (S x) (S y) = cmpI x y := by unfold cmpS; rw [if_pos (ok2_S hx hy), iV_S, iV_S]
theorem okDiv_S {x y : Int} (hx : x.natAbs < lim) (hy : y.natAbs < lim) (h0 : y ≠ 0) : okDiv (S x) (S y) = true := by unfold okDiv; rw [ok2_S hx hy, iV_S, decide_eq_true h0]; rfl
theorem quoO_S {x y : Int} (hx : x.natAbs < lim) (hy : y.natAbs < lim) (h0 : y ≠ 0) : quoO (S x) (S y) = some (x / y) := by unfold quoO; rw [if_pos (okDiv_S hx hy h0), iV_S, iV_S]
theorem remO_S {x y : Int} (hx : x.natAbs < lim) (hy : y.natAbs < lim) (h0 : y ≠ 0) : remO (S x) (S y) = some (x % y) := by unfold remO; rw [if_pos (okDiv_S hx hy h0), iV_S, iV_S]
theorem rootO_S {x : Int} (hx : x.natAbs < lim) (h0 : 0 ≤ x) : rootO (S x) = some ((rootN x.natAbs : Nat) : Int) := by unfold rootO; rw [okS_S hx, iV_S, decide_eq_true h0]; rfl
/-- A quotient and a remainder fit. -/
theorem div_natAbs_le (x y : Int) : (x / y).natAbs ≤ x.natAbs := Int.natAbs_ediv_le_natAbs x y
theorem mod_natAbs_lt {x y : Int} (h : y ≠ 0) : (x % y).natAbs < y.natAbs := by
  have h1 := Int.emod_nonneg x h
  have h2 := Int.emod_lt x h
  omega
theorem gcd_natAbs_lt {x y : Int} (hx : x.natAbs < lim) (hy : y.natAbs < lim) : (gcdI x y).natAbs < lim := by
  unfold gcdI
  rw [Int.natAbs_natCast]
  by_cases h : x.natAbs = 0
  · rw [h, Nat.gcd_zero_left]; exact hy
  · exact Nat.lt_of_le_of_lt (Nat.gcd_le_left _ (by omega)) hx
theorem root_lt {x : Int} (hx : x.natAbs < lim) : ((rootN x.natAbs : Nat) : Int).natAbs < lim := by
  rw [Int.natAbs_natCast]; exact Nat.lt_of_le_of_lt (rootN_le _) hx
theorem lim_of {x : Int} {k : Nat} (h : x.natAbs < 10 ^ k) (hk : k ≤ 200) : x.natAbs < lim := Nat.lt_of_lt_of_le h (Nat.pow_le_pow_right (by decide) hk)
end N3

/- Plain: what the loops over groups reckon. -/
namespace N3
open Go Go.Lib

/-! ### compare -/
theorem len_lt {n m : Nat} (h : (toG n).length < (toG m).length) : n < m := by
  refine Classical.byContradiction fun hc => ?_
  have h1 := val_lt (toG_lt n)
  rw [val_toG] at h1
  have h2 := toG_len_le (n := m) (k := (toG n).length) (by omega)
  omega
theorem cmpI_cast_lt {n m : Nat} (h : n < m) : cmpI (n : Int) (m : Int) = -1 := by unfold cmpI; rw [if_pos (by omega)]
theorem cmpI_cast_gt {n m : Nat} (h : m < n) : cmpI (n : Int) (m : Int) = 1 := by unfold cmpI; rw [if_neg (by omega), if_pos (by omega)]
theorem cmpI_cast_self (n : Nat) : cmpI (n : Int) (n : Int) = 0 := by unfold cmpI; rw [if_neg (by omega), if_neg (by omega)]
/-- Equal from a place on. -/
def EqFrom (l m : List Nat) (i : Nat) : Prop := ∀ j, i ≤ j → l.getD j 0 = m.getD j 0
theorem EqFrom.all {l m : List Nat} (h : EqFrom l m 0) (hl : l.length = m.length) : l = m := by
  apply List.ext_getElem hl
  intro j h1 h2
  have := h j (Nat.zero_le _)
  simpa [List.getD_eq_getElem?_getD, List.getElem?_eq_getElem h1, List.getElem?_eq_getElem h2] using this
theorem EqFrom.len {l m : List Nat} (hl : l.length = m.length) : EqFrom l m l.length := fun j hj => by
  rw [List.getD_eq_getElem?_getD, List.getD_eq_getElem?_getD, List.getElem?_eq_none hj, List.getElem?_eq_none (by omega)]
theorem EqFrom.step {l m : List Nat} {i : Nat} (h : EqFrom l m (i + 1)) (e : l.getD i 0 = m.getD i 0) : EqFrom l m i := fun j hj => by
  rcases Nat.eq_or_lt_of_le hj with rfl | hj
  · exact e
  · exact h j hj
theorem cmp_at {n m i : Nat} (hl : (toG n).length = (toG m).length) (hi : i < (toG n).length) (h : EqFrom (toG n) (toG m) (i + 1)) (hne : (toG n).getD i 0 ≠ (toG m).getD i 0) :
    cmpI (n : Int) (m : Int) = cmpI (((toG n).getD i 0 : Nat) : Int) (((toG m).getD i 0 : Nat) : Int) := by
  rcases Nat.lt_or_gt_of_ne hne with h1 | h1
  · have := val_lt_of_high (toG_lt n) (toG_lt m) hl hi h1 (fun j hj => h j hj)
    rw [val_toG, val_toG] at this
    rw [cmpI_cast_lt this, cmpI_cast_lt h1]
  · have := val_lt_of_high (toG_lt m) (toG_lt n) hl.symm (by omega) h1 (fun j hj => (h j hj).symm)
    rw [val_toG, val_toG] at this
    rw [cmpI_cast_gt this, cmpI_cast_gt h1]
theorem toG_eq {n m : Nat} (h : toG n = toG m) : n = m := by rw [← val_toG n, h, val_toG]
/-! ### times -/
theorem shift_toG {o : Nat} (h : o ≠ 0) : 0 :: toG o = toG (10000 * o) := by
  have := toG_cons (x := 0) (n := o) (by decide) (by omega)
  rw [Nat.zero_add] at this; exact this
/-- The product with the highest k groups. -/
def horner (l : List Nat) (a k : Nat) : Nat := a * val (l.drop (l.length - k))
theorem horner_zero (l : List Nat) (a : Nat) : horner l a 0 = 0 := by unfold horner; rw [Nat.sub_zero, List.drop_length]; simp [val]
theorem horner_all (l : List Nat) (a : Nat) : horner l a l.length = a * val l := by unfold horner; rw [Nat.sub_self, List.drop_zero]
theorem high_succ {l : List Nat} {k : Nat} (h : k < l.length) : val (l.drop (l.length - (k + 1))) = l.getD (l.length - 1 - k) 0 + 10000 * val (l.drop (l.length - k)) := by
  have e : l.length - (k + 1) = l.length - 1 - k := by omega
  rw [e, drop_val (by omega), show l.length - 1 - k + 1 = l.length - k by omega]
theorem horner_succ {l : List Nat} {k : Nat} (a : Nat) (h : k < l.length) : horner l a (k + 1) = 10000 * horner l a k + a * l.getD (l.length - 1 - k) 0 := by
  unfold horner
  rw [high_succ h, Nat.mul_add, Nat.mul_left_comm]; omega
theorem high_le (l : List Nat) (k : Nat) : val (l.drop (l.length - k)) ≤ val l := by
  conv => rhs; rw [← List.take_append_drop (l.length - k) l, val_app]
  have : 1 ≤ 10000 ^ (List.take (l.length - k) l).length := Nat.one_le_pow _ _ (by decide)
  have := Nat.mul_le_mul_right (val (l.drop (l.length - k))) this
  omega
theorem horner_le (l : List Nat) (k a : Nat) : horner l a k ≤ a * val l := Nat.mul_le_mul_left a (high_le l k)
/-! ### over -/
/-- What is left behind the highest k groups. -/
def remK (l : List Nat) (m k : Nat) : Nat := val (l.drop (l.length - k)) % m
def quoK (l : List Nat) (m k : Nat) : List Nat := List.replicate (l.length - k) 0 ++ quo m (l.drop (l.length - k))
def digK (l : List Nat) (m k : Nat) : Nat := (l.getD (l.length - 1 - k) 0 + 10000 * remK l m k) / m
theorem remK_zero (l : List Nat) (m : Nat) : remK l m 0 = 0 := by unfold remK; rw [Nat.sub_zero, List.drop_length]; simp [val]
theorem remK_all (l : List Nat) (m : Nat) : remK l m l.length = val l % m := by unfold remK; rw [Nat.sub_self, List.drop_zero]
theorem quoK_zero (l : List Nat) (m : Nat) : quoK l m 0 = List.replicate l.length 0 := by unfold quoK; rw [Nat.sub_zero, List.drop_length, quo, List.append_nil]
theorem quoK_all (l : List Nat) (m : Nat) : quoK l m l.length = quo m l := by unfold quoK; rw [Nat.sub_self, List.drop_zero]; rfl
theorem quoK_len {l : List Nat} {m k : Nat} (h : k ≤ l.length) : (quoK l m k).length = l.length := by
  unfold quoK; rw [List.length_append, List.length_replicate, quo_len, List.length_drop]; omega
theorem rem_bound {l : List Nat} (hl : OKl l) {m k : Nat} (hm : 0 < m) : l.getD (l.length - 1 - k) 0 + 10000 * remK l m k < 10000 * m := by
  have h1 : l.getD (l.length - 1 - k) 0 < 10000 := by
    by_cases hi : l.length - 1 - k < l.length
    · exact hl _ (by rw [List.getD_eq_getElem?_getD, List.getElem?_eq_getElem hi]; exact List.getElem_mem _)
    · rw [List.getD_eq_getElem?_getD, List.getElem?_eq_none (by omega)]; decide
  have h2 : remK l m k < m := Nat.mod_lt _ hm
  omega
theorem remK_succ {l : List Nat} {m k : Nat} (h : k < l.length) : remK l m (k + 1) = (l.getD (l.length - 1 - k) 0 + 10000 * remK l m k) - m * digK l m k := by
  have e : remK l m (k + 1) = (l.getD (l.length - 1 - k) 0 + 10000 * remK l m k) % m := by
    unfold remK; rw [high_succ h, rem_step]
  have := Nat.div_add_mod (l.getD (l.length - 1 - k) 0 + 10000 * remK l m k) m
  rw [e]; unfold digK; omega
theorem digK_mul_le {l : List Nat} {m k : Nat} : m * digK l m k ≤ l.getD (l.length - 1 - k) 0 + 10000 * remK l m k := by
  have := Nat.div_add_mod (l.getD (l.length - 1 - k) 0 + 10000 * remK l m k) m
  unfold digK; omega
theorem digK_lt {l : List Nat} (hl : OKl l) {m k : Nat} (hm : 0 < m) : digK l m k < 10000 := by
  unfold digK
  exact (Nat.div_lt_iff_lt_mul hm).2 (rem_bound hl hm)
theorem quoK_succ {l : List Nat} {m k : Nat} (h : k < l.length) : quoK l m (k + 1) = (quoK l m k).set (l.length - 1 - k) (digK l m k) := by
  unfold quoK
  have e1 : l.length - (k + 1) = l.length - 1 - k := by omega
  have e2 : l.length - k = l.length - 1 - k + 1 := by omega
  rw [e1, e2, List.replicate_succ', List.append_assoc, List.set_append_right _ _ (by simp), List.length_replicate, Nat.sub_self]
  congr 1
  have hd : l.drop (l.length - 1 - k) = l.getD (l.length - 1 - k) 0 :: l.drop (l.length - 1 - k + 1) := by
    rw [List.drop_eq_getElem_cons (by omega), List.getD_eq_getElem?_getD, List.getElem?_eq_getElem (by omega), Option.getD_some]
  rw [hd, quo]
  show _ = digK l m k :: quo m _
  congr 1
  unfold digK remK
  rw [e2]
theorem quoK_ok {l : List Nat} (hl : OKl l) {m : Nat} (hm : 0 < m) (k : Nat) : OKl (quoK l m k) := by
  intro x hx
  unfold quoK at hx
  rcases List.mem_append.1 hx with hx | hx
  · rw [(List.mem_replicate.1 hx).2]; decide
  · exact quo_ok hm (fun y hy => hl y (List.mem_of_mem_drop hy)) x hx
/-! ### text -/
def txtK (l : List Nat) (k : Nat) : List UInt8 := txt (l.drop (l.length - k))
theorem txtK_zero (l : List Nat) : txtK l 0 = [] := by unfold txtK; rw [Nat.sub_zero, List.drop_length]; rfl
theorem txtK_all (l : List Nat) : txtK l l.length = txt l := by unfold txtK; rw [Nat.sub_self, List.drop_zero]
theorem txtK_succ {l : List Nat} {k : Nat} (h : k < l.length) : txtK l (k + 1) = txtK l k ++ (if k = 0 then decDigits (l.getD (l.length - 1 - k) 0) else pad4 (l.getD (l.length - 1 - k) 0)) := by
  unfold txtK
  have e1 : l.length - (k + 1) = l.length - 1 - k := by omega
  have hd : l.drop (l.length - 1 - k) = l.getD (l.length - 1 - k) 0 :: l.drop (l.length - k) := by
    rw [List.drop_eq_getElem_cons (by omega), List.getD_eq_getElem?_getD, List.getElem?_eq_getElem (by omega), Option.getD_some, show l.length - 1 - k + 1 = l.length - k by omega]
  rw [e1, hd, txt]
  by_cases hk : k = 0
  · subst hk
    rw [Nat.sub_zero, List.drop_length, if_pos rfl, if_pos rfl]; rfl
  · rw [if_neg hk, if_neg]
    intro hc
    have := congrArg List.length hc
    rw [List.length_drop, List.length_nil] at this
    omega
theorem pad4_len {b : Nat} (hb : b < 10000) : (pad4 b).length = 4 := by
  have h : (decDigits b).length ≤ 4 := by rw [decDigits_length]; exact (nDigits_le (by decide)).2 hb
  unfold pad4; rw [List.length_append, List.length_replicate]; omega
theorem dig4_len {b : Nat} (hb : b < 10000) : (decDigits b).length ≤ 4 := by rw [decDigits_length]; exact (nDigits_le (by decide)).2 hb
theorem txtK_len {l : List Nat} (hl : OKl l) : ∀ k, k ≤ l.length → (txtK l k).length ≤ 4 * k
  | 0, _ => by rw [txtK_zero]; exact Nat.le_refl _
  | k + 1, h => by
    have ih := txtK_len hl k (by omega)
    have hg : l.getD (l.length - 1 - k) 0 < 10000 := hl _ (by rw [List.getD_eq_getElem?_getD, List.getElem?_eq_getElem (by omega)]; exact List.getElem_mem _)
    rw [txtK_succ (by omega), List.length_append]
    split
    · have := dig4_len hg; omega
    · have := pad4_len hg; omega
theorem repeat_zero (k : Nat) : repeatL [48] k = List.replicate k 48 := by
  induction k with
  | zero => rfl
  | succ k ih => rw [repeatL, ih, List.replicate_succ]; rfl
theorem pad_repeat (b : Nat) : repeatL [48] (4 - (decDigits b).length) ++ decDigits b = pad4 b := by rw [repeat_zero]; rfl
/-- The text of a number with a sign. -/
theorem sgn_text (neg : Bool) {n : Nat} (h : n ≠ 0) : itoa (sgn neg n) = (if neg = true then [45] else []) ++ txt (toG n) := by
  rw [txt_toG n h]
  cases neg
  · exact itoa_nat n
  · unfold itoa sgn
    rw [if_pos rfl, if_pos (by omega), show (-(n : Int)).natAbs = n by omega]; rfl
theorem txt_len (n : Nat) (h : n ≠ 0) : (txt (toG n)).length ≤ 200 ↔ n < lim := by
  rw [txt_toG n h, decDigits_length]
  exact nDigits_le (by decide)
theorem itoa_zero : itoa 0 = [48] := by
  rw [show (0 : Int) = ((0 : Nat) : Int) from rfl, itoa_nat, decDigits_one (by decide)]; rfl
/-! ### isValid -/
theorem dropWhile_nil {α : Type} (p : α → Bool) (l : List α) : l.dropWhile p = [] ↔ l.all p = true := by
  induction l with
  | nil => simp
  | cons x l ih =>
    rw [List.dropWhile_cons, List.all_cons]
    by_cases h : p x = true
    · rw [if_pos h, h, Bool.true_and]; exact ih
    · rw [if_neg h]
      have : p x = false := by simpa using h
      rw [this]; simp
theorem trimS_nil (l cs : List UInt8) : trimS l cs = [] ↔ l.all (cs.contains ·) = true := by
  unfold trimS trimLeftS trimRightS
  rw [dropWhile_nil]
  constructor
  · intro h
    have h2 : (l.reverse.dropWhile (cs.contains ·)).all (cs.contains ·) = true := by rwa [List.all_reverse] at h
    cases hd : l.reverse.dropWhile (cs.contains ·) with
    | nil =>
      have := (dropWhile_nil _ _).1 hd
      rwa [List.all_reverse] at this
    | cons x r =>
      have hx : ¬ cs.contains x = true := by
        have h3 := List.head?_dropWhile_not (cs.contains ·) l.reverse
        rw [hd] at h3
        simpa using h3
      rw [hd, List.all_cons, Bool.and_eq_true] at h2
      exact absurd h2.1 hx
  · intro h
    have : l.reverse.dropWhile (cs.contains ·) = [] := (dropWhile_nil _ _).2 (by rw [List.all_reverse]; exact h)
    rw [this]; rfl
def tenC : List UInt8 := [48, 49, 50, 51, 52, 53, 54, 55, 56, 57]
theorem tenC_isD (c : UInt8) : tenC.contains c = isD c := by
  have h : ∀ n, n < 256 → tenC.contains (UInt8.ofNat n) = isD (UInt8.ofNat n) := by decide +kernel
  have := h c.toNat c.toNat_lt
  rwa [UInt8.ofNat_toNat] at this
theorem trim_digits (l : List UInt8) : trimS l tenC = [] ↔ l.all isD = true := by
  rw [trimS_nil]
  have : (fun c => tenC.contains c) = isD := funext tenC_isD
  rw [this]
/-- The digits of a string: without a sign. -/
def bare (l : List UInt8) : List UInt8 := if l.head? = some 45 then l.tail else l
theorem prefix_bare (l : List UInt8) : trimPrefix l [45] = bare l := by
  unfold trimPrefix bare
  cases l with
  | nil => rfl
  | cons c l =>
    by_cases h : c = 45
    · subst h; simp [hasPrefix]
    · have h1 : ¬ (some c = some (45 : UInt8)) := fun e => h (Option.some.inj e)
      rw [List.head?_cons, if_neg h1]
      have h2 : hasPrefix (c :: l) [45] = false := by
        have h3 : (45 == c) = false := beq_eq_false_iff_ne.2 (Ne.symm h)
        unfold hasPrefix
        rw [List.isPrefixOf_cons_cons, h3]; rfl
      rw [h2]; rfl
theorem isI_bare (l : List UInt8) : isI l = (!(bare l).isEmpty && (decide ((bare l).length ≤ 200) && ((bare l).all isD && (decide (l = [48]) || decide ((bare l).head? ≠ some 48))))) := rfl
theorem intV_bare (l : List UInt8) : intV l = sgn (decide ((bare l).length < l.length)) (decV (bare l)) := by
  unfold intV bare sgn
  by_cases h : l.head? = some 45
  · rw [if_pos h, if_pos h]
    have : l.tail.length < l.length := by
      cases l with
      | nil => cases h
      | cons c l => simp
    rw [decide_eq_true this, if_pos rfl]
  · rw [if_neg h, if_neg h, decide_eq_false (Nat.lt_irrefl _), if_neg (by decide)]
/-! ### parse -/
theorem parse_step {D : List UInt8} {t f : Nat} (g : List Nat) (hf : f ≤ t) (ht : t ≤ D.length) (hg : 10000 ^ g.length = 10 ^ (D.length - t)) (hv : val g = decV (D.drop t)) :
    val (g ++ [decV ((D.take t).drop f)]) = decV (D.drop f) := by
  have e : D.drop f = (D.take t).drop f ++ D.drop t := by
    conv => lhs; rw [← List.take_append_drop t D]
    rw [List.drop_append_of_le_length (by rw [List.length_take]; omega)]
  rw [val_app, e, decV_app, hv, List.length_drop, ← hg]
  simp only [val, Nat.mul_zero, Nat.add_zero]
  rw [Nat.mul_comm]; omega
theorem decV_lt (l : List UInt8) (h : l.all isD = true) : decV l < 10 ^ l.length := by
  refine snoc_rec (P := fun l => l.all isD = true → decV l < 10 ^ l.length) (fun _ => by simp [decV]) (fun l c ih h => ?_) l h
  rw [List.all_append, Bool.and_eq_true] at h
  have hc : isD c = true := by simpa using h.2
  have := (isD_back hc).1
  have := ih h.1
  rw [decV_snoc, List.length_append, List.length_cons, List.length_nil, Nat.pow_succ]
  omega
end N3

/- Plain: what Atoi answers at an integer. -/
namespace N3
open Go Go.Lib

theorem decV_cons (c : UInt8) (l : List UInt8) : decV (c :: l) = (c.toNat - 48) * 10 ^ l.length + decV l := by
  show decV ([c] ++ l) = _
  rw [decV_app]; simp [decV]
theorem parse_digits : ∀ (l : List UInt8) (acc : Nat), l.all isD = true → acc < 18446744073709551616 →
    parseUint10 acc l = if acc * 10 ^ l.length + decV l < 18446744073709551616 then .ok (acc * 10 ^ l.length + decV l) else .range
  | [], acc, _, h => by
    rw [parseUint10]
    simp only [List.length_nil, Nat.pow_zero, Nat.mul_one, decV, List.foldl_nil, Nat.add_zero]
    rw [if_pos h]
  | c :: l, acc, ha, h => by
    rw [List.all_cons, Bool.and_eq_true] at ha
    have hc := ha.1
    unfold isD at hc
    simp only [Bool.and_eq_true, decide_eq_true_eq] at hc
    have hp : 1 ≤ 10 ^ l.length := Nat.one_le_pow _ _ (by decide)
    have e : acc * 10 ^ (l.length + 1) + ((c.toNat - 48) * 10 ^ l.length + decV l) = (acc * 10 + (c.toNat - 48)) * 10 ^ l.length + decV l := by
      rw [Nat.add_mul, Nat.pow_succ, Nat.mul_assoc acc 10, Nat.mul_comm 10]; omega
    have hge : acc * 10 + (c.toNat - 48) ≤ (acc * 10 + (c.toNat - 48)) * 10 ^ l.length := Nat.le_mul_of_pos_right _ hp
    rw [parseUint10, if_pos hc, decV_cons, List.length_cons, e]
    split
    · rw [if_neg (by omega)]
    · split
      · rw [if_neg (by omega)]
      · exact parse_digits l _ ha.2 (by omega)
theorem parse_mag {l : List UInt8} (h : l.all isD = true) (hl : l ≠ []) : parseMag l = if decV l < 18446744073709551616 then .ok (decV l) else .range := by
  unfold parseMag
  rw [if_neg hl, parse_digits l 0 h (by decide), Nat.zero_mul, Nat.zero_add]
theorem bare_facts {l : List UInt8} (h : isI l = true) : bare l ≠ [] ∧ (bare l).all isD = true := by
  rw [isI_bare] at h
  simp only [Bool.and_eq_true, decide_eq_true_eq, Bool.not_eq_true'] at h
  exact ⟨fun e => by rw [e] at h; exact absurd h.1 (by decide), h.2.2.1⟩
/-- Atoi of an integer. -/
theorem atoi_all {l : List UInt8} (h : isI l = true) : atoiAll l = if inM (intV l) = true then .ok (intV l) else .range := by
  obtain ⟨h1, h2⟩ := bare_facts h
  have hpm := parse_mag h2 h1
  cases l with
  | nil => exact absurd h (by decide)
  | cons c r =>
    unfold atoiAll
    by_cases hc : c = 45
    · subst hc
      have hb : bare (45 :: r) = r := by unfold bare; rw [List.head?_cons, if_pos rfl, List.tail_cons]
      have hi : intV (45 :: r) = -(decV r : Int) := by unfold intV; rw [List.head?_cons, if_pos rfl, List.tail_cons]
      rw [hb] at hpm
      have h45 : ((45 : UInt8).toNat = 43 ∨ (45 : UInt8).toNat = 45) := .inr rfl
      simp only [if_pos h45, hpm, hi]
      have hn : (45 : UInt8).toNat = 45 := rfl
      by_cases hu : decV r < 18446744073709551616
      · rw [if_pos hu]
        simp only [hn, not_true, false_and, if_false, true_and]
        by_cases h63 : 9223372036854775808 < decV r
        · rw [if_pos h63, if_neg]
          unfold inM
          simp only [Bool.and_eq_true, decide_eq_true_eq]; omega
        · rw [if_neg h63, if_pos trivial, if_pos]
          unfold inM
          simp only [Bool.and_eq_true, decide_eq_true_eq]; omega
      · rw [if_neg hu, if_neg]
        unfold inM
        simp only [Bool.and_eq_true, decide_eq_true_eq]; omega
    · have hne : (c :: r).head? ≠ some 45 := by rw [List.head?_cons]; exact fun e => hc (Option.some.inj e)
      have hb : bare (c :: r) = c :: r := by unfold bare; rw [if_neg hne]
      have hi : intV (c :: r) = (decV (c :: r) : Int) := by unfold intV; rw [if_neg hne]
      rw [hb] at hpm h2
      have hd : isD c = true := by rw [List.all_cons, Bool.and_eq_true] at h2; exact h2.1
      unfold isD at hd
      simp only [Bool.and_eq_true, decide_eq_true_eq] at hd
      have hn3 : ¬ (c.toNat = 43 ∨ c.toNat = 45) := by omega
      have hn5 : ¬ c.toNat = 45 := by omega
      simp only [if_neg hn3, hpm, hi]
      by_cases hu : decV (c :: r) < 18446744073709551616
      · rw [if_pos hu]
        simp only [hn5, not_false_eq_true, true_and, false_and, if_false]
        by_cases h63 : 9223372036854775808 ≤ decV (c :: r)
        · rw [if_pos h63, if_neg]
          unfold inM
          simp only [Bool.and_eq_true, decide_eq_true_eq]; omega
        · rw [if_neg h63, if_pos]
          unfold inM
          simp only [Bool.and_eq_true, decide_eq_true_eq]; omega
      · rw [if_neg hu, if_neg]
        unfold inM
        simp only [Bool.and_eq_true, decide_eq_true_eq]; omega
end N3

/- Plain: what the loops over digits of the reference keep. -/
namespace D10

theorem dp (n i : Nat) : n / 10 ^ (i + 1) = n / 10 ^ i / 10 := by rw [Nat.pow_succ, Nat.div_div_eq_div_mul]
theorem toG_get : ∀ (i n : Nat), (toG n).getD i 0 = n / 10 ^ i % 10
  | 0, n => by
    by_cases h : n = 0
    · subst h; rw [toG_zero]; rfl
    · rw [toG_pos h]; simp
  | i + 1, n => by
    by_cases h : n = 0
    · subst h; rw [toG_zero]; simp
    · rw [toG_pos h, List.getD_cons_succ, toG_get i, Nat.div_div_eq_div_mul, Nat.pow_succ, Nat.mul_comm]
theorem toG_len : ∀ (i n : Nat), i < (toG n).length ↔ n / 10 ^ i ≠ 0
  | 0, n => by
    by_cases h : n = 0
    · subst h; rw [toG_zero]; simp
    · rw [toG_pos h]; simp [h]
  | i + 1, n => by
    by_cases h : n = 0
    · subst h; rw [toG_zero]; simp
    · rw [toG_pos h, List.length_cons, Nat.add_lt_add_iff_right, toG_len i, Nat.div_div_eq_div_mul, Nat.pow_succ, Nat.mul_comm]
theorem toG_top (n : Nat) : n / 10 ^ (toG n).length = 0 := Classical.byContradiction fun hc => absurd ((toG_len _ _).2 hc) (Nat.lt_irrefl _)
theorem toG_high {n i : Nat} (h : ¬ i < (toG n).length) : n / 10 ^ i = 0 := Classical.byContradiction fun hc => h ((toG_len _ _).2 hc)
theorem toG_over {n i : Nat} (h : ¬ i < (toG n).length) : (toG n).getD i 0 = 0 := by rw [toG_get, toG_high h]
theorem lt_pow (n : Nat) : n < 10 ^ (toG n).length := by
  have h := toG_top n
  have hp : 0 < 10 ^ (toG n).length := Nat.pow_pos (by decide)
  exact (Nat.div_eq_zero_iff.1 h).resolve_left (by omega)
theorem lt_of_div {n m k : Nat} (h : n / k < m / k) : n < m := by
  apply Classical.byContradiction; intro hc
  have := Nat.div_le_div_right (c := k) (show m ≤ n by omega); omega
theorem ord_len {n m : Nat} (h : (toG n).length < (toG m).length) : n < m := by
  have h1 := (toG_len (toG n).length m).1 h
  have h2 := toG_top n
  exact lt_of_div (k := 10 ^ (toG n).length) (by rw [h2]; exact Nat.pos_of_ne_zero h1)
theorem ord_at {n m i : Nat} (h : n / 10 ^ (i + 1) = m / 10 ^ (i + 1)) (hlt : (toG n).getD i 0 < (toG m).getD i 0) : n < m := by
  rw [toG_get, toG_get] at hlt
  rw [dp, dp] at h
  exact lt_of_div (k := 10 ^ i) (by omega)
theorem ord_eq {n m i : Nat} (h : n / 10 ^ (i + 1) = m / 10 ^ (i + 1)) (he : (toG n).getD i 0 = (toG m).getD i 0) : n / 10 ^ i = m / 10 ^ i := by
  rw [toG_get, toG_get] at he; rw [dp, dp] at h; omega
theorem ord_top {n m : Nat} (h : (toG n).length = (toG m).length) : n / 10 ^ (toG n).length = m / 10 ^ (toG n).length := by
  rw [toG_top, h, toG_top]
theorem get_lt (n i : Nat) : (toG n).getD i 0 < 10 := by rw [toG_get]; omega

/-! ### Plus -/
def restP (n m c i : Nat) : Nat := c + n / 10 ^ i + m / 10 ^ i
theorem plus_end {n m i c : Nat} (h1 : ¬ i < (toG n).length) (h2 : ¬ i < (toG m).length) (hc : ¬ 0 < c) : toG (restP n m c i) = [] := by
  unfold restP; rw [toG_high h1, toG_high h2, toG_nil]; omega
theorem plus_step {n m i c : Nat} (h : i < (toG n).length ∨ i < (toG m).length ∨ 0 < c) : toG (restP n m c i) = (c + (toG n).getD i 0 + (toG m).getD i 0) % 10 :: toG (restP n m ((c + (toG n).getD i 0 + (toG m).getD i 0) / 10) (i + 1)) := by
  rw [toG_get, toG_get]
  have hne : restP n m c i ≠ 0 := by
    unfold restP
    rcases h with h | h | h
    · have := (toG_len _ _).1 h; generalize n / 10 ^ i = x at *; generalize m / 10 ^ i = y at *; omega
    · have := (toG_len _ _).1 h; generalize n / 10 ^ i = x at *; generalize m / 10 ^ i = y at *; omega
    · generalize n / 10 ^ i = x at *; generalize m / 10 ^ i = y at *; omega
  rw [toG_pos hne]
  unfold restP
  rw [dp, dp]
  have e1 : (c + n / 10 ^ i + m / 10 ^ i) % 10 = (c + n / 10 ^ i % 10 + m / 10 ^ i % 10) % 10 := by omega
  have e2 : (c + n / 10 ^ i + m / 10 ^ i) / 10 = (c + n / 10 ^ i % 10 + m / 10 ^ i % 10) / 10 + n / 10 ^ i / 10 + m / 10 ^ i / 10 := by omega
  rw [e1, e2]
theorem restP_zero (n m : Nat) : restP n m 0 0 = n + m := by unfold restP; rw [Nat.pow_zero, Nat.div_one, Nat.div_one]; omega

/-! ### Minus -/
theorem mod_step (n i : Nat) : n % 10 ^ (i + 1) = n % 10 ^ i + 10 ^ i * (toG n).getD i 0 := by rw [toG_get, Nat.mod_pow_succ]
theorem minus_step {n m i bo bo' d V : Nat} (h : V + m % 10 ^ i = n % 10 ^ i + bo * 10 ^ i) (hd : d + (toG m).getD i 0 + bo = (toG n).getD i 0 + 10 * bo') :
    V + 10 ^ i * d + m % 10 ^ (i + 1) = n % 10 ^ (i + 1) + bo' * 10 ^ (i + 1) := by
  rw [mod_step, mod_step, Nat.pow_succ]
  generalize 10 ^ i = P at *
  have e : P * d + P * (toG m).getD i 0 + P * bo = P * (toG n).getD i 0 + P * (10 * bo') := by rw [← Nat.mul_add, ← Nat.mul_add, ← Nat.mul_add, hd]
  have e2 : bo' * (P * 10) = P * (10 * bo') := by rw [Nat.mul_comm, Nat.mul_assoc]
  rw [Nat.mul_comm bo P] at h
  omega
theorem minus_end {n m i bo V : Nat} (hn : n < 10 ^ i) (hm : m ≤ n) (h : V + m % 10 ^ i = n % 10 ^ i + bo * 10 ^ i) (hV : V < 10 ^ i) (hb : bo ≤ 1) : V = n - m := by
  rw [Nat.mod_eq_of_lt hn, Nat.mod_eq_of_lt (show m < 10 ^ i by omega)] at h
  rcases (show bo = 0 ∨ bo = 1 by omega) with rfl | rfl <;> omega

/-! ### Times -/
theorem val_set : ∀ (l : List Nat) (j d : Nat), j < l.length → val (l.set j d) + 10 ^ j * l.getD j 0 = val l + 10 ^ j * d
  | [], j, d, h => absurd h (Nat.not_lt_zero _)
  | x :: l, 0, d, h => by simp [val]; omega
  | x :: l, j + 1, d, h => by
    have := val_set l j d (by simpa using h)
    simp only [List.set_cons_succ, List.getD_cons_succ, val, Nat.pow_succ]
    rw [Nat.mul_right_comm, Nat.mul_right_comm (10 ^ j) 10 d]; omega
theorem ok_set {l : List Nat} (h : OKl l) {j d : Nat} (hd : d < 10) : OKl (l.set j d) := by
  intro x hx
  rcases List.mem_or_eq_of_mem_set hx with h1 | rfl
  · exact h x h1
  · exact hd
/-- What stands behind k digits of the second factor, for the digit a at place i of the first. -/
def partT (A a m i k : Nat) : Nat := A + a * 10 ^ i * (m % 10 ^ k)
theorem times_step {O : List Nat} {A a m i k c : Nat} (h : val O + c * 10 ^ (i + k) = partT A a m i k) (hj : i + k < O.length) :
    val (O.set (i + k) ((O.getD (i + k) 0 + c + a * (toG m).getD k 0) % 10)) + ((O.getD (i + k) 0 + c + a * (toG m).getD k 0) / 10) * 10 ^ (i + (k + 1)) = partT A a m i (k + 1) := by
  have hs := val_set O (i + k) ((O.getD (i + k) 0 + c + a * (toG m).getD k 0) % 10) hj
  unfold partT at *
  rw [mod_step, ← Nat.add_assoc, Nat.pow_succ]
  have hP : 10 ^ (i + k) = 10 ^ i * 10 ^ k := Nat.pow_add ..
  have e1 : a * 10 ^ i * (m % 10 ^ k + 10 ^ k * (toG m).getD k 0) = a * 10 ^ i * (m % 10 ^ k) + 10 ^ (i + k) * (a * (toG m).getD k 0) := by
    rw [hP, Nat.mul_add]; ac_rfl
  rw [e1]
  generalize a * 10 ^ i * (m % 10 ^ k) = B at *
  generalize a * (toG m).getD k 0 = q at *
  generalize O.getD (i + k) 0 = o at *
  generalize 10 ^ (i + k) = P at *
  clear hP e1 hj
  have hs2 : (o + c + q) / 10 * (P * 10) + P * ((o + c + q) % 10) = P * o + P * c + P * q := by
    rw [← Nat.mul_add, ← Nat.mul_add, show (o + c + q) / 10 * (P * 10) = P * (10 * ((o + c + q) / 10)) by ac_rfl, ← Nat.mul_add]
    congr 1; omega
  rw [Nat.mul_comm c P] at h
  omega
theorem part_zero (A a m i : Nat) : partT A a m i 0 = A := by unfold partT; rw [Nat.pow_zero, Nat.mod_one, Nat.mul_zero, Nat.add_zero]
theorem part_end {n m i k : Nat} (hk : ¬ k < (toG m).length) : partT (n % 10 ^ i * m) ((toG n).getD i 0) m i k = n % 10 ^ (i + 1) * m := by
  have hm : m % 10 ^ k = m := Nat.mod_eq_of_lt (Nat.lt_of_lt_of_le (lt_pow m) (Nat.pow_le_pow_right (by decide) (by omega)))
  unfold partT; rw [hm, mod_step, Nat.add_mul]; congr 1; ac_rfl
theorem part_lt {O : List Nat} {n m i k c : Nat} (h : val O + c * 10 ^ (i + k) = partT (n % 10 ^ i * m) ((toG n).getD i 0) m i k) (hi : i < (toG n).length)
    (hc : k < (toG m).length ∨ 0 < c) : i + k < (toG n).length + (toG m).length := by
  by_cases hk : k < (toG m).length
  · omega
  · have h0 : 0 < c := hc.resolve_left hk
    rw [part_end hk] at h
    have h1 : n % 10 ^ (i + 1) < 10 ^ (i + 1) := Nat.mod_lt _ (Nat.pow_pos (by decide))
    have h2 := lt_pow m
    have h3 : n % 10 ^ (i + 1) * m < 10 ^ (i + 1 + (toG m).length) := by
      rw [Nat.pow_add 10 (i + 1)]
      exact Nat.lt_of_le_of_lt (Nat.mul_le_mul_right _ (Nat.le_of_lt h1)) (Nat.mul_lt_mul_of_pos_left h2 (Nat.pow_pos (show 0 < 10 by decide)))
    have h4 : 10 ^ (i + k) ≤ c * 10 ^ (i + k) := Nat.le_mul_of_pos_left _ h0
    have h5 : 10 ^ (i + k) < 10 ^ (i + 1 + (toG m).length) := by omega
    have h6 : i + k < i + 1 + (toG m).length := (Nat.pow_lt_pow_iff_right (a := 10) (by decide)).1 h5
    omega
theorem digit_mul {a b : Nat} (ha : a < 10) (hb : b < 10) : a * b ≤ 81 := Nat.le_trans (Nat.mul_le_mul (show a ≤ 9 by omega) (show b ≤ 9 by omega)) (by decide)
theorem val_zeros : ∀ n, val (List.replicate n 0) = 0
  | 0 => rfl
  | n + 1 => by rw [List.replicate_succ, val, val_zeros n]
theorem zeros_ok (n : Nat) : OKl (List.replicate n 0) := fun x hx => by rw [(List.mem_replicate.1 hx).2]; decide

/-! ### Divided -/
theorem div_digit {N m a : Nat} (hm : 0 < m) : (10 * N + a) / m = 10 * (N / m) + (10 * (N % m) + a) / m ∧ (10 * N + a) % m = (10 * (N % m) + a) % m := by
  have e : 10 * N + a = m * (10 * (N / m)) + (10 * (N % m) + a) := by
    have h := Nat.div_add_mod N m
    have : m * (10 * (N / m)) = 10 * (m * (N / m)) := by ac_rfl
    omega
  rw [e, Nat.mul_add_div hm, Nat.mul_add_mod]
  exact ⟨rfl, rfl⟩
theorem high_digit (n i : Nat) : n / 10 ^ i = 10 * (n / 10 ^ (i + 1)) + (toG n).getD i 0 := by rw [toG_get, dp]; omega
theorem div_end {X m R t : Nat} (h : R + t * m = X) (hR : R < m) : R = X % m ∧ t = X / m := by
  have hm : 0 < m := by omega
  subst h
  rw [Nat.mul_comm, Nat.add_mul_mod_self_left, Nat.mod_eq_of_lt hR, Nat.add_mul_div_left _ _ hm, Nat.div_eq_of_lt hR]
  omega
theorem div_small {r m a R t : Nat} (hr : r < m) (ha : a < 10) (h : R + t * m = 10 * r + a) (hR : m ≤ R) : t < 9 := by
  apply Classical.byContradiction; intro hc
  have : 9 * m ≤ t * m := Nat.mul_le_mul_right _ (by omega)
  omega
theorem quo_step {Q : List Nat} {n m i : Nat} (h : val Q = n / 10 ^ (i + 1) / m * 10 ^ (i + 1)) (hi : i < Q.length) (h0 : Q.getD i 0 = 0) (hm : 0 < m) :
    val (Q.set i ((10 * (n / 10 ^ (i + 1) % m) + (toG n).getD i 0) / m)) = n / 10 ^ i / m * 10 ^ i := by
  have hs := val_set Q i ((10 * (n / 10 ^ (i + 1) % m) + (toG n).getD i 0) / m) hi
  rw [h0, Nat.mul_zero, Nat.add_zero, h] at hs
  have e : n / 10 ^ i / m = 10 * (n / 10 ^ (i + 1) / m) + (10 * (n / 10 ^ (i + 1) % m) + (toG n).getD i 0) / m := by
    rw [← (div_digit hm).1, ← high_digit n i]
  rw [hs, e, Nat.add_mul]
  congr 1
  · rw [Nat.pow_succ]; ac_rfl
  · exact Nat.mul_comm _ _

/-! ### Root -/
theorem root_start {n h : Nat} (hh : h = ((toG n).length + 1) / 2) : n < (0 + 10 ^ h) * (0 + 10 ^ h) := by
  rw [Nat.zero_add, ← Nat.pow_add]
  exact Nat.lt_of_lt_of_le (lt_pow n) (Nat.pow_le_pow_right (by decide) (by omega))
theorem set_val0 {O : List Nat} {i d : Nat} (hi : i < O.length) (h0 : O.getD i 0 = 0) : val (O.set i d) = val O + 10 ^ i * d := by
  have := val_set O i d hi; rw [h0, Nat.mul_zero, Nat.add_zero] at this; exact this

/-! ### From and to a machine's number -/
theorem tdiv_abs (m : Int) : (Int.tdiv m 10).natAbs = m.natAbs / 10 := by rw [Int.natAbs_tdiv]; rfl
theorem toG_step {m : Int} (h : m ≠ 0) : toG m.natAbs = m.natAbs % 10 :: toG (Int.tdiv m 10).natAbs := by rw [toG_pos (by omega), tdiv_abs]
end D10

/- Plain: quotient and remainder group by group, the root by Newton's steps, the numeral of groups. -/
import Derived.Lib.Atoi
import Derived.Test.YtjnpenljgfdaiaaGreatDoorNum
import Derived.Test.YtjnpenljgfdaiaaGreatDoorDec
namespace N3
open Go Go.Lib

/-! ### Over -/
/-- The groups of a quotient, the lowest one first. -/
def quo (m : Nat) : List Nat → List Nat
  | [] => []
  | x :: l => (x + 10000 * (val l % m)) / m :: quo m l
theorem quo_len (m : Nat) (l : List Nat) : (quo m l).length = l.length := by
  induction l with
  | nil => rfl
  | cons x l ih => simp [quo, ih]
theorem quo_val {m : Nat} (hm : 0 < m) (l : List Nat) : val (quo m l) = val l / m := by
  induction l with
  | nil => simp [quo, val]
  | cons x l ih =>
    simp only [quo, val, ih]
    have e : x + 10000 * val l = (x + 10000 * (val l % m)) + m * (10000 * (val l / m)) := by
      have := Nat.div_add_mod (val l) m
      have h2 : m * (10000 * (val l / m)) = 10000 * (m * (val l / m)) := by rw [Nat.mul_left_comm]
      omega
    rw [e, Nat.add_mul_div_left _ _ hm]
theorem quo_ok {m : Nat} (hm : 0 < m) {l : List Nat} (h : OKl l) : OKl (quo m l) := by
  induction l with
  | nil => intro x hx; cases hx
  | cons x l ih =>
    intro y hy
    rcases List.mem_cons.1 hy with rfl | hy
    · refine (Nat.div_lt_iff_lt_mul hm).2 ?_
      have h1 := h.head
      have h2 := Nat.mod_lt (val l) hm
      have h3 : 10000 * (val l % m) + 10000 ≤ 10000 * m := by omega
      omega
    · exact ih h.tail y hy
theorem quo_get {m : Nat} : ∀ {l : List Nat} {i : Nat}, i < l.length → (quo m l)[i]? = some ((l.getD i 0 + 10000 * (val (l.drop (i + 1)) % m)) / m) := by
  intro l
  induction l with
  | nil => intro i h; simp at h
  | cons x l ih =>
    intro i h
    cases i with
    | zero => simp [quo]
    | succ i =>
      have := ih (i := i) (by simpa using h)
      simp only [quo, List.getElem?_cons_succ, this, List.drop_succ_cons]
      simp
theorem drop_val {l : List Nat} {i : Nat} (h : i < l.length) : val (l.drop i) = l.getD i 0 + 10000 * val (l.drop (i + 1)) := by
  rw [List.drop_eq_getElem_cons h, val, List.getD_eq_getElem?_getD, List.getElem?_eq_getElem h, Option.getD_some]
theorem rem_step (x V m : Nat) : (x + 10000 * (V % m)) % m = (x + 10000 * V) % m := by
  rw [Nat.add_mod, Nat.mul_mod, Nat.mod_mod, ← Nat.mul_mod, ← Nat.add_mod]
/-- The groups of what is a group more. -/
theorem toG_cons {x n : Nat} (hx : x < 10000) (h : 0 < x + 10000 * n) : x :: toG n = toG (x + 10000 * n) := by
  rw [toG_pos (by omega : x + 10000 * n ≠ 0), show (x + 10000 * n) % 10000 = x by omega, show (x + 10000 * n) / 10000 = n by omega]
/-- What the search for a group of the quotient finds. -/
theorem search_group {m r : Nat} (hr : r < 10000 * m) {d : Nat} (hd : d ≤ 9999) (h1 : ∀ i, i < d → ¬ r < (i + 1) * m) (h2 : d < 9999 → r < (d + 1) * m) : d = r / m := by
  have h3 : r < (d + 1) * m := by
    by_cases h : d < 9999
    · exact h2 h
    · obtain rfl : d = 9999 := by omega
      exact hr
  have h4 : d * m ≤ r := by
    cases d with
    | zero => simp
    | succ d => exact Nat.not_lt.1 (h1 d (by omega))
  exact (Nat.div_eq_of_lt_le h4 h3).symm
/-! ### Root -/
def IsRoot (r x : Nat) : Prop := r * r ≤ x ∧ x < (r + 1) * (r + 1)
theorem root_unique {r s x : Nat} (h : IsRoot r x) (k : IsRoot s x) : r = s := by
  have a : ∀ r s : Nat, r * r ≤ x → x < (s + 1) * (s + 1) → r ≤ s := fun r s h1 h2 => by
    refine Classical.byContradiction fun hc => ?_
    have := Nat.mul_le_mul (show s + 1 ≤ r by omega) (show s + 1 ≤ r by omega)
    omega
  exact Nat.le_antisymm (a r s h.1 k.2) (a s r k.1 h.2)
theorem newton_up {r x : Nat} (hr : 0 < r) : x < ((r + x / r) / 2 + 1) * ((r + x / r) / 2 + 1) := by
  have h1 : x < r * (x / r + 1) := by rw [Nat.mul_add, Nat.mul_one]; have := Nat.div_add_mod x r; have := Nat.mod_lt x hr; omega
  generalize x / r = y at h1
  generalize hn : (r + y) / 2 + 1 = n
  have h2 : r + (y + 1) ≤ 2 * n := by omega
  have h3 : (r + (y + 1)) * (r + (y + 1)) ≤ (2 * n) * (2 * n) := Nat.mul_le_mul h2 h2
  have h4 : 4 * (r * (y + 1)) ≤ (r + (y + 1)) * (r + (y + 1)) := by
    rcases Nat.le_total r (y + 1) with h | h
    · obtain ⟨d, hd⟩ := Nat.le.dest h
      rw [← hd]
      have e1 : (r + (r + d)) * (r + (r + d)) = 4 * (r * (r + d)) + d * d := by
        simp only [Nat.add_mul, Nat.mul_add, Nat.mul_comm d r]; omega
      omega
    · obtain ⟨d, hd⟩ := Nat.le.dest h
      rw [← hd]
      generalize y + 1 = z
      have e1 : (z + d + z) * (z + d + z) = 4 * ((z + d) * z) + d * d := by
        simp only [Nat.add_mul, Nat.mul_add, Nat.mul_comm d z]; omega
      omega
  have h5 : (2 * n) * (2 * n) = 4 * (n * n) := by rw [Nat.mul_mul_mul_comm]
  omega
theorem newton_stop {r x : Nat} (hr : 0 < r) (h : r ≤ (r + x / r) / 2) : r * r ≤ x := by
  have h1 : r ≤ x / r := by
    generalize x / r = y at h
    omega
  exact (Nat.le_div_iff_mul_le hr).1 h1
theorem newton_pos {r x : Nat} (hr : 0 < r) (hx : 0 < x) : 0 < (r + x / r) / 2 := by
  by_cases h : r ≤ x
  · have h1 : 1 ≤ x / r := (Nat.le_div_iff_mul_le hr).2 (by omega)
    generalize x / r = y at h1
    omega
  · generalize x / r = y
    omega
/-! ### The numeral of groups -/
def txt : List Nat → List UInt8
  | [] => []
  | x :: l => if l = [] then decDigits x else txt l ++ pad4 x
theorem txt_toG (n : Nat) : n ≠ 0 → txt (toG n) = decDigits n := by
  induction n using Nat.strongRecOn with
  | _ n ih =>
    intro h
    rw [toG_pos h]
    by_cases h2 : n / 10000 = 0
    · rw [h2, toG_zero, txt, if_pos rfl, show n % 10000 = n by omega]
    · rw [txt, if_neg (fun hc => h2 (toG_nil.1 hc)), ih (n / 10000) (by omega) h2, ← dig_div _ _ h2 (by omega)]
      congr 1; omega
/-- Atoi at digits. -/
theorem decFrom_isD : ∀ (l : List UInt8) (a : Nat), l.all isD = true → decFrom a l = some (a * 10 ^ l.length + decV l) := by
  intro l
  induction l with
  | nil => intro a _; simp [decFrom, decV]
  | cons c l ih =>
    intro a h
    rw [List.all_cons, Bool.and_eq_true] at h
    have hd : digitVal c = some (c.toNat - 48) := by
      have := h.1
      unfold isD at this
      simp only [Bool.and_eq_true, decide_eq_true_eq] at this
      unfold digitVal
      rw [if_pos this]
    have e : decV (c :: l) = (c.toNat - 48) * 10 ^ l.length + decV l := by
      show decV ([c] ++ l) = _
      rw [decV_app]; simp [decV]
    simp only [decFrom, hd]
    rw [ih _ h.2, e, List.length_cons, Nat.pow_succ, Nat.add_mul, Nat.mul_assoc, Nat.mul_comm 10, Nat.add_assoc]
theorem atoi_isD {l : List UInt8} (h : l.all isD = true) (hl : l ≠ []) : atoi l = some (decV l : Int) := by
  cases l with
  | nil => exact absurd rfl hl
  | cons c l =>
    have hc := h
    rw [List.all_cons, Bool.and_eq_true] at hc
    have hc := hc.1
    unfold isD at hc
    simp only [Bool.and_eq_true, decide_eq_true_eq] at hc
    have e := decFrom_isD (c :: l) 0 h
    rw [Nat.zero_mul, Nat.zero_add] at e
    unfold atoi decNat
    have h1 : (c == 45) = false := by
      refine beq_eq_false_iff_ne.2 fun e2 => ?_
      subst e2
      exact absurd hc.1 (by decide)
    have h2 : (c == 43) = false := by
      refine beq_eq_false_iff_ne.2 fun e2 => ?_
      subst e2
      exact absurd hc.1 (by decide)
    simp [h1, h2, e]
end N3

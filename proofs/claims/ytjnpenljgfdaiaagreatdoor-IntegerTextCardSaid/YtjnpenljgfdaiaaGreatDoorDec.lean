/- Plain: decimal numerals: what they are worth, which lists of bytes are one, groups of four digits. -/
import Derived.Lib.ItoaNum
namespace N3
open Go Go.Lib

def isD (c : UInt8) : Bool := decide (48 ≤ c.toNat) && decide (c.toNat ≤ 57)
def decV (l : List UInt8) : Nat := l.foldl (fun a c => a * 10 + (c.toNat - 48)) 0
theorem foldV (l : List UInt8) : ∀ a, l.foldl (fun a c => a * 10 + (c.toNat - 48)) a = a * 10 ^ l.length + decV l := by
  induction l with
  | nil => intro a; simp [decV]
  | cons c l ih =>
    intro a
    unfold decV
    simp only [List.foldl_cons, List.length_cons]
    rw [ih, ih (0 * 10 + _), Nat.pow_succ, Nat.add_mul, Nat.zero_mul, Nat.zero_add, Nat.mul_assoc, Nat.mul_comm 10, Nat.add_assoc]
theorem decV_app (l m : List UInt8) : decV (l ++ m) = decV l * 10 ^ m.length + decV m := by
  unfold decV
  rw [List.foldl_append, foldV]
  rfl
theorem decV_snoc (l : List UInt8) (c : UInt8) : decV (l ++ [c]) = decV l * 10 + (c.toNat - 48) := by
  rw [decV_app]; simp [decV]
theorem toNat_digit {d : Nat} (h : d < 10) : (UInt8.ofNat (48 + d)).toNat = 48 + d := by
  rw [UInt8.toNat_ofNat']; exact Nat.mod_eq_of_lt (by omega)
theorem decV_digits (n : Nat) : decV (decDigits n) = n := by
  induction n using Nat.strongRecOn with
  | _ n ih =>
    by_cases h : n < 10
    · rw [decDigits, dif_pos h]
      show decV ([] ++ [_]) = n
      rw [decV_snoc, toNat_digit h]
      simp [decV]
    · rw [decDigits, dif_neg h, decV_snoc, ih (n / 10) (by omega), toNat_digit (by omega)]
      omega
theorem digits_isD (n : Nat) : (decDigits n).all isD = true := by
  induction n using Nat.strongRecOn with
  | _ n ih =>
    by_cases h : n < 10
    · rw [decDigits, dif_pos h]
      simp only [List.all_cons, List.all_nil, isD, toNat_digit h]
      simp; omega
    · rw [decDigits, dif_neg h, List.all_append, ih (n / 10) (by omega)]
      simp only [List.all_cons, List.all_nil, isD, toNat_digit (show n % 10 < 10 by omega)]
      simp; omega
theorem digits_ne (n : Nat) : decDigits n ≠ [] := by
  intro h
  have h2 := decDigits_length n
  have := nDigits_pos n
  rw [h] at h2
  simp at h2
  omega
theorem head_app {α : Type} {l : List α} (m : List α) (h : l ≠ []) : (l ++ m).head? = l.head? := by
  cases l with
  | nil => exact absurd rfl h
  | cons x l => rfl
theorem digits_head (n : Nat) (hn : n ≠ 0) : (decDigits n).head? ≠ some 48 := by
  induction n using Nat.strongRecOn with
  | _ n ih =>
    by_cases h : n < 10
    · rw [decDigits, dif_pos h]
      intro hc
      have h2 : UInt8.ofNat (48 + n) = 48 := by simpa using hc
      have := congrArg UInt8.toNat h2
      rw [toNat_digit h] at this
      simp at this
      omega
    · rw [decDigits, dif_neg h, head_app _ (digits_ne _)]
      exact ih (n / 10) (by omega) (by omega)
theorem snoc_rec {α : Type} {P : List α → Prop} (h0 : P []) (h1 : ∀ l x, P l → P (l ++ [x])) : ∀ l, P l := by
  intro l
  rw [← List.reverse_reverse l]
  induction l.reverse with
  | nil => exact h0
  | cons x l ih => rw [List.reverse_cons]; exact h1 _ _ ih
theorem isD_back {c : UInt8} (h : isD c = true) : c.toNat - 48 < 10 ∧ UInt8.ofNat (48 + (c.toNat - 48)) = c := by
  unfold isD at h
  simp only [Bool.and_eq_true, decide_eq_true_eq] at h
  refine ⟨by omega, ?_⟩
  rw [show 48 + (c.toNat - 48) = c.toNat by omega]
  exact UInt8.ofNat_toNat
/-- A numeral without zeros in front is the one of its value. -/
theorem digits_decV (l : List UInt8) : l.all isD = true → l ≠ [] → (l.head? ≠ some 48 ∨ l = [48]) → decDigits (decV l) = l := by
  refine snoc_rec (P := fun l => l.all isD = true → l ≠ [] → (l.head? ≠ some 48 ∨ l = [48]) → decDigits (decV l) = l) (fun _ h => absurd rfl h) (fun l c ih ha _ hh => ?_) l
  rw [List.all_append, Bool.and_eq_true] at ha
  obtain ⟨h1, h2⟩ := ha
  have hc : isD c = true := by simpa using h2
  obtain ⟨c1, c2⟩ := isD_back hc
  rw [decV_snoc]
  by_cases hl : l = []
  · subst hl
    rw [show decV [] = 0 from rfl, Nat.zero_mul, Nat.zero_add, decDigits, dif_pos c1, c2]; rfl
  · have hh' : l.head? ≠ some 48 := by
      rcases hh with hh | hh
      · rwa [head_app _ hl] at hh
      · have := congrArg List.length hh
        rw [List.length_append] at this
        have : l.length = 0 := by simpa using this
        exact absurd (List.eq_nil_of_length_eq_zero this) hl
    have e := ih h1 hl (.inl hh')
    have hpos : decV l ≠ 0 := by
      intro h0
      rw [h0, decDigits, dif_pos (by decide)] at e
      rw [← e] at hh'
      exact hh' rfl
    rw [decDigits, dif_neg (by omega)]
    rw [show (decV l * 10 + (c.toNat - 48)) / 10 = decV l by omega, show (decV l * 10 + (c.toNat - 48)) % 10 = c.toNat - 48 by omega, e, c2]
theorem nDigits_le {n k : Nat} (hk : 1 ≤ k) : nDigits n ≤ k ↔ n < 10 ^ k := by
  constructor
  · intro h
    exact Nat.lt_of_lt_of_le (lt_pow_nDigits n) (Nat.pow_le_pow_right (by decide) h)
  · intro h
    refine Classical.byContradiction fun hc => ?_
    obtain ⟨j, hj⟩ : ∃ j, nDigits n = j + 2 := ⟨nDigits n - 2, by omega⟩
    have hb : ∀ (m j : Nat), nDigits m = j + 1 → 10 ^ j ≤ m ∨ j = 0 := by
      intro m
      induction m using Nat.strongRecOn with
      | _ m ih =>
        intro j hj
        by_cases h : m < 10
        · rw [nDigits_small h] at hj; right; omega
        · rw [nDigits_big h] at hj
          left
          cases j with
          | zero => have := nDigits_pos (m / 10); omega
          | succ j =>
            rcases ih (m / 10) (by omega) j (by omega) with h2 | h2
            · rw [Nat.pow_succ]; omega
            · subst h2; simpa using Nat.not_lt.1 h
    rcases hb n (j + 1) (by omega) with h2 | h2
    · have := Nat.pow_le_pow_right (show 0 < 10 by decide) (show k ≤ j + 1 by omega)
      omega
    · omega
/-! ### Integers as strings -/
/-- A string is an integer of at most 200 digits. -/
def isI (l : List UInt8) : Bool :=
  let d := if l.head? = some 45 then l.tail else l
  !d.isEmpty && (decide (d.length ≤ 200) && (d.all isD && (decide (l = [48]) || decide (d.head? ≠ some 48))))
/-- What it is worth. -/
def intV (l : List UInt8) : Int := if l.head? = some 45 then -(decV l.tail : Int) else (decV l : Int)
def lim : Nat := 10 ^ 200
theorem itoa_nat (n : Nat) : itoa (n : Int) = decDigits n := by
  unfold itoa
  rw [if_neg (by omega), Int.toNat_natCast]
theorem digits_first (n : Nat) : (decDigits n).head? ≠ some 45 := by
  intro h
  cases hd : decDigits n with
  | nil => exact digits_ne n hd
  | cons c l =>
    rw [hd] at h
    obtain rfl : c = 45 := by simpa using h
    have := digits_isD n
    rw [hd, List.all_cons, Bool.and_eq_true] at this
    exact absurd this.1 (by decide)
theorem intV_itoa (n : Int) : intV (itoa n) = n := by
  by_cases h : n < 0
  · unfold itoa intV
    rw [if_pos h]
    simp only [List.head?_cons, if_pos, List.tail_cons]
    rw [decV_digits]; omega
  · obtain ⟨m, rfl⟩ := Int.eq_ofNat_of_zero_le (by omega : 0 ≤ n)
    rw [itoa_nat]
    unfold intV
    rw [if_neg (digits_first m), decV_digits]
theorem isI_itoa {n : Int} (h : n.natAbs < lim) : isI (itoa n) = true := by
  have hd : nDigits n.natAbs ≤ 200 := (nDigits_le (by decide)).2 h
  by_cases hn : n < 0
  · unfold isI itoa
    rw [if_pos hn]
    have h1 := digits_ne n.natAbs
    have h2 := digits_head n.natAbs (by omega)
    have h3 := digits_isD n.natAbs
    have h4 := decDigits_length n.natAbs
    simp [h1, h2, h4, hd]
    simpa using h3
  · obtain ⟨m, rfl⟩ := Int.eq_ofNat_of_zero_le (by omega : 0 ≤ n)
    rw [itoa_nat]
    rw [Int.natAbs_natCast] at hd
    unfold isI
    rw [if_neg (digits_first m)]
    have h1 := digits_ne m
    have h3 := digits_isD m
    have h4 := decDigits_length m
    simp only [h4, hd, h3]
    by_cases h0 : m = 0
    · subst h0
      have : decDigits 0 = [48] := by rw [decDigits, dif_pos (by decide)]; rfl
      rw [this]; rfl
    · have h2 := digits_head m h0
      simp [h1, h2]
/-- A valid string is the numeral of what it is worth. -/
theorem itoa_intV {l : List UInt8} (h : isI l = true) : itoa (intV l) = l ∧ (intV l).natAbs < lim := by
  unfold isI at h
  by_cases hm : l.head? = some 45
  · rw [if_pos hm] at h
    simp only [Bool.and_eq_true, Bool.or_eq_true, decide_eq_true_eq, Bool.not_eq_true'] at h
    obtain ⟨h1, h2, h3, h4⟩ := h
    have hne : l.tail ≠ [] := fun hc => by rw [hc] at h1; cases h1
    have hl : l = 45 :: l.tail := by
      cases l with
      | nil => cases hm
      | cons c l => obtain rfl : c = 45 := by simpa using hm
                    rfl
    have hh : l.tail.head? ≠ some 48 := by
      rcases h4 with h4 | h4
      · rw [h4] at hm; cases hm
      · exact h4
    have hv := digits_decV l.tail h3 hne (.inl hh)
    have hp : decV l.tail ≠ 0 := by
      intro h0
      rw [h0, decDigits, dif_pos (by decide)] at hv
      rw [← hv] at hh
      exact hh rfl
    have hlen : decV l.tail < lim := (nDigits_le (by decide)).1 (by rw [← decDigits_length, hv]; exact h2)
    unfold intV
    rw [if_pos hm]
    refine ⟨?_, by omega⟩
    unfold itoa
    rw [if_pos (by omega), show (-(decV l.tail : Int)).natAbs = decV l.tail by omega, hv]
    exact hl.symm
  · rw [if_neg hm] at h
    simp only [Bool.and_eq_true, Bool.or_eq_true, decide_eq_true_eq, Bool.not_eq_true'] at h
    obtain ⟨h1, h2, h3, h4⟩ := h
    have hne : l ≠ [] := fun hc => by rw [hc] at h1; cases h1
    have hv := digits_decV l h3 hne (h4.symm)
    have hlen : decV l < lim := (nDigits_le (by decide)).1 (by rw [← decDigits_length, hv]; exact h2)
    unfold intV
    rw [if_neg hm]
    refine ⟨?_, by omega⟩
    rw [itoa_nat, hv]
theorem itoa_inj {m n : Int} (h : itoa m = itoa n) : m = n := by rw [← intV_itoa m, h, intV_itoa]
/-- Four digits, with zeros in front. -/
def pad4 (b : Nat) : List UInt8 := List.replicate (4 - (decDigits b).length) 48 ++ decDigits b
theorem dig_div (a b : Nat) (ha : a ≠ 0) (hb : b < 10000) : decDigits (a * 10000 + b) = decDigits a ++ pad4 b := by
  have step : ∀ n, 10 ≤ n → decDigits n = decDigits (n / 10) ++ [UInt8.ofNat (48 + n % 10)] := fun n h => by rw [decDigits, dif_neg (by omega)]
  have p4 : pad4 b = [UInt8.ofNat (48 + b / 1000), UInt8.ofNat (48 + b / 100 % 10), UInt8.ofNat (48 + b / 10 % 10), UInt8.ofNat (48 + b % 10)] := by
    unfold pad4
    have one : ∀ n, n < 10 → decDigits n = [UInt8.ofNat (48 + n)] := fun n h => decDigits_one h
    by_cases h1 : b < 10
    · rw [one b h1, show b / 1000 = 0 by omega, show b / 100 % 10 = 0 by omega, show b / 10 % 10 = 0 by omega, show b % 10 = b by omega]; rfl
    · by_cases h2 : b < 100
      · rw [step b (by omega), one (b / 10) (by omega), show b / 1000 = 0 by omega, show b / 100 % 10 = 0 by omega, show b / 10 % 10 = b / 10 by omega]; rfl
      · by_cases h3 : b < 1000
        · rw [step b (by omega), step (b / 10) (by omega), one (b / 10 / 10) (by omega), show b / 1000 = 0 by omega, show b / 10 / 10 = b / 100 % 10 by omega]; rfl
        · rw [step b (by omega), step (b / 10) (by omega), step (b / 10 / 10) (by omega), one (b / 10 / 10 / 10) (by omega), show b / 10 / 10 / 10 = b / 1000 by omega, show b / 10 / 10 % 10 = b / 100 % 10 by omega]; rfl
  rw [step _ (by omega), step _ (by omega), step _ (by omega), step _ (by omega), p4]
  rw [show (a * 10000 + b) / 10 / 10 / 10 / 10 = a by omega, show (a * 10000 + b) / 10 / 10 / 10 % 10 = b / 1000 by omega, show (a * 10000 + b) / 10 / 10 % 10 = b / 100 % 10 by omega, show (a * 10000 + b) / 10 % 10 = b / 10 % 10 by omega, show (a * 10000 + b) % 10 = b % 10 by omega]
  simp
end N3

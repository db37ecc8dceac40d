/- What Without of the reference answers: plain mathematics. -/
import Derived.Test.YtblmpmapcdpaiaaP17
namespace Go.Proofs.Ytblmpmapcdpaiaa

/-- How many of the indices the reference has met after k rows. -/
def atK (l : List Int) : Nat → Nat
  | 0 => 0
  | k + 1 => if l[atK l k]? = some (k : Int) then atK l k + 1 else atK l k
theorem atK_inv (l : List Int) : ∀ k, atK l k ≤ l.length ∧ ∀ j, j < atK l k → (0 ≤ l.getD j 0 ∧ l.getD j 0 < (k : Int)) ∧ (0 < j → l.getD (j - 1) 0 < l.getD j 0) := by
  intro k
  induction k with
  | zero => exact ⟨Nat.zero_le _, fun j h => absurd h (Nat.not_lt_zero _)⟩
  | succ k ih =>
    obtain ⟨i1, i2⟩ := ih
    simp only [atK]
    by_cases h : l[atK l k]? = some (k : Int)
    · rw [if_pos h]
      obtain ⟨hl, he⟩ := List.getElem?_eq_some_iff.1 h
      have hg : l.getD (atK l k) 0 = (k : Int) := by rw [List.getD_eq_getElem?_getD, h]; rfl
      refine ⟨hl, fun j hj => ?_⟩
      rcases Nat.lt_or_ge j (atK l k) with h2 | h2
      · obtain ⟨⟨a, b⟩, c⟩ := i2 j h2
        exact ⟨⟨a, by omega⟩, c⟩
      · obtain rfl : j = atK l k := by omega
        rw [hg]
        refine ⟨⟨by omega, by omega⟩, fun h0 => ?_⟩
        exact (i2 (atK l k - 1) (by omega)).1.2
    · rw [if_neg h]
      refine ⟨i1, fun j hj => ?_⟩
      obtain ⟨⟨a, b⟩, c⟩ := i2 j hj
      exact ⟨⟨a, by omega⟩, c⟩
theorem idxK_of_at {l : List Int} {n : Nat} (h : atK l n = l.length) : idxK l n l.length = true := by
  obtain ⟨-, hi⟩ := atK_inv l n
  rw [h] at hi
  have : ∀ k, k ≤ l.length → idxK l n k = true := by
    intro k
    induction k with
    | zero => intro _; rfl
    | succ k ih =>
      intro hk
      obtain ⟨⟨a, b⟩, c⟩ := hi k (by omega)
      simp only [idxK]
      rw [ih (by omega)]
      have h1 : inB (l.getD k 0) 0 ((n : Int) - 1) = true := by unfold inB; simp only [Bool.and_eq_true, decide_eq_true_eq]; omega
      rw [h1]
      by_cases h0 : k = 0
      · simp [h0]
      · have := c (by omega); simp only [this, decide_true, Bool.or_true, Bool.and_self]
  exact this _ (Nat.le_refl _)
theorem idxK_range {l : List Int} {n : Int} : ∀ k, idxK l n k = true → ∀ j, j < k → 0 ≤ l.getD j 0 ∧ l.getD j 0 < n := by
  intro k
  induction k with
  | zero => intro _ j h; omega
  | succ k ih =>
    intro h j hj
    simp only [idxK, Bool.and_eq_true] at h
    rcases Nat.lt_or_ge j k with h2 | h2
    · exact ih h.1.1 j h2
    · obtain rfl : j = k := by omega
      have := h.1.2
      unfold inB at this
      simp only [Bool.and_eq_true, decide_eq_true_eq] at this
      omega
theorem at_of_idxK {l : List Int} {n : Nat} (h : idxK l n l.length = true) : ∀ k, k ≤ n → (∀ j, atK l k ≤ j → j < l.length → (k : Int) ≤ l.getD j 0) := by
  have hs := idxK_sorted h
  have hr := idxK_range _ h
  intro k
  induction k with
  | zero => intro _ j _ hj; exact (hr j hj).1
  | succ k ih =>
    intro hk j hj hjl
    have ih := ih (by omega)
    simp only [atK] at hj
    by_cases hc : l[atK l k]? = some (k : Int)
    · rw [if_pos hc] at hj
      have hg : l.getD (atK l k) 0 = (k : Int) := by rw [List.getD_eq_getElem?_getD, hc]; rfl
      have := hs (atK l k) j (by omega) hjl
      omega
    · rw [if_neg hc] at hj
      have h1 := ih j hj hjl
      refine Classical.byContradiction fun hcc => ?_
      have he : l.getD j 0 = (k : Int) := by omega
      rcases Nat.lt_or_ge (atK l k) j with h2 | h2
      · have h3 := hs (atK l k) j h2 hjl
        have h4 := ih (atK l k) (Nat.le_refl _) (by omega)
        omega
      · obtain rfl : j = atK l k := by omega
        exact hc (by rw [getD_some 0 hjl, he])
theorem at_full {l : List Int} {n : Nat} (h : idxK l n l.length = true) : atK l n = l.length := by
  refine Classical.byContradiction fun hc => ?_
  have h1 := (atK_inv l n).1
  have h2 := at_of_idxK h n (Nat.le_refl _) (atK l n) (Nat.le_refl _) (by omega)
  have h3 := idxK_range _ h (atK l n) (by omega)
  omega
theorem at_mem {l : List Int} {n k : Nat} (h : idxK l n l.length = true) (hk : k < n) : ((k : Int) ∈ l) ↔ l[atK l k]? = some (k : Int) := by
  constructor
  · intro hm
    obtain ⟨j, hj, he⟩ := memI.1 hm
    have hs := idxK_sorted h
    have h1 := (atK_inv l k).2
    have h2 := at_of_idxK h k (by omega)
    rcases Nat.lt_or_ge j (atK l k) with h3 | h3
    · have := (h1 j h3).1.2; omega
    · rcases Nat.lt_or_ge (atK l k) j with h4 | h4
      · have h5 := hs (atK l k) j h4 hj
        have h6 := h2 (atK l k) (Nat.le_refl _) (by omega)
        omega
      · obtain rfl : j = atK l k := by omega
        rw [getD_some 0 hj, he]
  · intro hc
    exact List.mem_of_getElem? hc
end Go.Proofs.Ytblmpmapcdpaiaa

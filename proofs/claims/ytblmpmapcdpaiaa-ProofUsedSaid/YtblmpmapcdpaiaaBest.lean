/- The best choice and the rows that no choice keeps: plain mathematics. -/
import Derived.Test.YtblmpmapcdpaiaaM2
namespace Go.Proofs.Ytblmpmapcdpaiaa

def BestOf (gain : List Int) (l : List Nat) (o : Option (Nat × Int)) : Prop :=
  match o with
  | none => l = []
  | some x => x.1 ∈ l ∧ x.2 = ch gain x.1 ∧ (∀ t ∈ l, ch gain t ≤ x.2) ∧ (∀ t ∈ l, ch gain t = x.2 → x.1 ≤ t)
theorem chL_mem {rows : List RowD} {m s : Nat} : s ∈ chL rows m ↔ s < m ∧ keepsB rows s = true := by
  unfold chL
  rw [List.mem_filter, List.mem_range]
theorem best_chL (rows : List RowD) (gain : List Int) : ∀ m, BestOf gain (chL rows m) ((chL rows m).foldl (better gain) none) := by
  intro m
  induction m with
  | zero => rfl
  | succ m ih =>
    have hlt : ∀ t ∈ chL rows m, t < m := fun t ht => (chL_mem.1 ht).1
    rw [chL_succ]
    by_cases hk : keepsB rows m = true
    · rw [if_pos hk, List.foldl_append]
      simp only [List.foldl_cons, List.foldl_nil]
      cases ho : (chL rows m).foldl (better gain) none with
      | none =>
        rw [ho] at ih
        have ih : chL rows m = [] := ih
        rw [ih]
        refine ⟨by simp, rfl, fun t ht => ?_, fun t ht _ => ?_⟩
        · simp at ht; subst ht; exact Int.le_refl _
        · simp at ht; subst ht; exact Nat.le_refl _
      | some x =>
        rw [ho] at ih
        obtain ⟨i1, i2, i3, i4⟩ := ih
        simp only [better]
        by_cases hx : x.2 < ch gain m
        · rw [if_pos hx]
          refine ⟨by simp, rfl, fun t ht => ?_, fun t ht e => ?_⟩
          · rcases List.mem_append.1 ht with h | h
            · have := i3 t h; simp only; omega
            · simp at h; subst h; exact Int.le_refl _
          · rcases List.mem_append.1 ht with h | h
            · have := i3 t h; simp only at e; omega
            · simp at h; subst h; exact Nat.le_refl _
        · rw [if_neg hx]
          refine ⟨List.mem_append.2 (.inl i1), i2, fun t ht => ?_, fun t ht e => ?_⟩
          · rcases List.mem_append.1 ht with h | h
            · exact i3 t h
            · simp at h; subst h; omega
          · rcases List.mem_append.1 ht with h | h
            · exact i4 t h e
            · simp at h; subst h; have := hlt _ i1; omega
    · rw [if_neg hk, List.append_nil]; exact ih
theorem best_of (p : ProgD) : BestOf p.gain (allS p) (bestS p) := best_chL p.rows p.gain _

theorem coef_neg (l : List Int) (k : Nat) : (l.map fun n => -n).getD k 0 = -(l.getD k 0) := by
  simp only [List.getD_eq_getElem?_getD, List.getElem?_map]
  cases l[k]? <;> simp
theorem chK_neg (l : List Int) (s : Nat) : ∀ k, chK (l.map fun n => -n) s k = -(chK l s k) := by
  intro k
  induction k with
  | zero => rfl
  | succ k ih =>
    simp only [chK, ih, coef_neg]
    split <;> omega
theorem ch_neg (l : List Int) (s : Nat) : ch (l.map fun n => -n) s = -(ch l s) := by
  unfold ch; rw [List.length_map]; exact chK_neg l s _
theorem coefOK_neg {l : List Int} (h : coefOK l = true) : coefOK (l.map fun n => -n) = true := by
  unfold coefOK at h ⊢
  rw [List.all_map, List.all_eq_true]
  intro x hx
  have := List.all_eq_true.1 h x hx
  simp only [Function.comp, Bool.and_eq_true, decide_eq_true_eq] at this ⊢
  omega
theorem ls_full {l : List Int} {m s : Nat} (h : l.length = m) : ls l m s = ch l s := by
  unfold ls ch; rw [h]; exact lsK_lo _ _ _ _ (Nat.le_refl _)
theorem badAt_full {rows : List RowD} {m s : Nat} (hr : ∀ r ∈ rows, r.coef.length = m) (h : keepsB rows s = false) : badAt rows m s ≠ none := by
  intro hb
  unfold badAt at hb
  rw [List.findIdx?_eq_none_iff] at hb
  have : keepsB rows s = true := by
    unfold keepsB
    rw [List.all_eq_true]
    intro r hrr
    have := hb r hrr
    rw [ls_full (hr r hrr)] at this
    unfold keptB
    simp at this ⊢
    omega
  rw [h] at this; cases this
theorem rowsS_len {p : ProgD} (hv : validB p = true) {m : Nat} (hm : p.vars = m) : ∀ r ∈ rowsS p, r.coef.length = m ∧ coefOK r.coef = true := by
  obtain ⟨v1, v2, v3, v4, v5, v6⟩ := validB_true hv
  have hrow : ∀ r ∈ p.rows, r.coef.length = m ∧ coefOK r.coef = true := fun r hr => by
    obtain ⟨h1, h2, h3, -⟩ := validB_row hv hr
    exact ⟨by omega, h3⟩
  intro r hr
  unfold rowsS at hr
  cases hb : bestS p with
  | none => rw [hb] at hr; exact hrow r hr
  | some x =>
    rw [hb] at hr
    rcases List.mem_append.1 hr with h | h
    · exact hrow r h
    · simp at h; subst h
      exact ⟨by simp [goalS]; omega, coefOK_neg (by assumption)⟩
theorem rowsS_bad {p : ProgD} (hv : validB p = true) {m : Nat} (hm : p.vars = m) (s : Nat) (hs : s < 2 ^ m) : badAt (rowsS p) m s ≠ none := by
  refine badAt_full (fun r hr => (rowsS_len hv hm r hr).1) ?_
  have hb := best_of p
  unfold rowsS
  have hmem : ∀ s, s < 2 ^ m → keepsB p.rows s = true → s ∈ allS p := fun s h1 h2 => by
    refine chL_mem.2 ⟨?_, h2⟩
    rw [hm]; simpa using h1
  cases ho : bestS p with
  | none =>
    rw [ho] at hb
    have hb : allS p = [] := hb
    simp only
    cases hk : keepsB p.rows s with
    | false => rfl
    | true => have := hmem s hs hk; rw [hb] at this; cases this
  | some x =>
    rw [ho] at hb
    obtain ⟨b1, b2, b3, b4⟩ := hb
    simp only
    cases hk : keepsB (p.rows ++ [goalS p.gain x.2]) s with
    | false => rfl
    | true =>
      unfold keepsB at hk
      rw [List.all_append, Bool.and_eq_true] at hk
      have h1 := b3 s (hmem s hs hk.1)
      have h2 := hk.2
      simp [keptB, goalS] at h2
      rw [ch_neg] at h2
      omega
theorem ch_bd {l : List Int} (h : coefOK l = true) (hl : l.length ≤ 60) (s : Nat) : -1000000000000 ≤ ch l s ∧ ch l s ≤ 1000000000000 := by
  have := chK_bd (M := 1000000000) (by decide) (coefOK_get h) s l.length
  unfold ch
  have : (1000000000 : Int) * (l.length : Int) ≤ 1000000000 * 60 := Int.mul_le_mul_of_nonneg_left (by omega) (by decide)
  omega
theorem best_bd {p : ProgD} (hv : validB p = true) {x : Nat × Int} (h : bestS p = some x) : -1000000000000 ≤ x.2 ∧ x.2 ≤ 1000000000000 ∧ x.1 < 2 ^ p.vars.toNat := by
  obtain ⟨v1, v2, v3, v4, v5, v6⟩ := validB_true hv
  have hb := best_of p
  rw [h] at hb
  obtain ⟨b1, b2, b3, b4⟩ := hb
  have := ch_bd (l := p.gain) (by assumption) (by omega) x.1
  rw [b2]
  exact ⟨this.1, this.2, (chL_mem.1 b1).1⟩
end Go.Proofs.Ytblmpmapcdpaiaa

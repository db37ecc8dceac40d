/- Texts Best, Sums in one. -/
import Derived.Test.YtblmpmapcdpaiaaM2
import Derived.Test.YtblmpmapcdpaiaaB5
section
/- The best choice and the rows that no choice keeps: plain mathematics. -/
namespace Go.Proofs.Ytblmpmapcdpaiaa

def BestOf (gain : List Int) (l : List Nat) (o : Option (Nat × Int)) : Prop :=
  match o with
  | none => l = []
  | some x => x.1 ∈ l ∧ x.2 = ch gain x.1 ∧ (∀ t ∈ l, ch gain t ≤ x.2) ∧ (∀ t ∈ l, ch gain t = x.2 → x.1 ≤ t)
theorem chL_mem {rows : List RowD} {m s : Nat} : s ∈ chL rows m ↔ s < m ∧ keepsB rows s = true := by
  unfold chL
  rw [List.mem_filter, List.mem_range]
theorem best_chL (rows : List RowD) (gain : List Int) : ∀ m, BestOf gain (chL rows m) ((chL rows m).foldl (better gain) none) := by
  intro m
  induction m with
  | zero => rfl
  | succ m ih =>
    have hlt : ∀ t ∈ chL rows m, t < m := fun t ht => (chL_mem.1 ht).1
    rw [chL_succ]
    by_cases hk : keepsB rows m = true
    · rw [if_pos hk, List.foldl_append]
      simp only [List.foldl_cons, List.foldl_nil]
      cases ho : (chL rows m).foldl (better gain) none with
      | none =>
        rw [ho] at ih
        have ih : chL rows m = [] := ih
        rw [ih]
        refine ⟨by simp, rfl, fun t ht => ?_, fun t ht _ => ?_⟩
        · simp at ht; subst ht; exact Int.le_refl _
        · simp at ht; subst ht; exact Nat.le_refl _
      | some x =>
        rw [ho] at ih
        obtain ⟨i1, i2, i3, i4⟩ := ih
        simp only [better]
        by_cases hx : x.2 < ch gain m
        · rw [if_pos hx]
          refine ⟨by simp, rfl, fun t ht => ?_, fun t ht e => ?_⟩
          · rcases List.mem_append.1 ht with h | h
            · have := i3 t h; simp only; omega
            · simp at h; subst h; exact Int.le_refl _
          · rcases List.mem_append.1 ht with h | h
            · have := i3 t h; simp only at e; omega
            · simp at h; subst h; exact Nat.le_refl _
        · rw [if_neg hx]
          refine ⟨List.mem_append.2 (.inl i1), i2, fun t ht => ?_, fun t ht e => ?_⟩
          · rcases List.mem_append.1 ht with h | h
            · exact i3 t h
            · simp at h; subst h; omega
          · rcases List.mem_append.1 ht with h | h
            · exact i4 t h e
            · simp at h; subst h; have := hlt _ i1; omega
    · rw [if_neg hk, List.append_nil]; exact ih
theorem best_of (p : ProgD) : BestOf p.gain (allS p) (bestS p) := best_chL p.rows p.gain _

theorem coef_neg (l : List Int) (k : Nat) : (l.map fun n => -n).getD k 0 = -(l.getD k 0) := by
  simp only [List.getD_eq_getElem?_getD, List.getElem?_map]
  cases l[k]? <;> simp
theorem chK_neg (l : List Int) (s : Nat) : ∀ k, chK (l.map fun n => -n) s k = -(chK l s k) := by
  intro k
  induction k with
  | zero => rfl
  | succ k ih =>
    simp only [chK, ih, coef_neg]
    split <;> omega
theorem ch_neg (l : List Int) (s : Nat) : ch (l.map fun n => -n) s = -(ch l s) := by
  unfold ch; rw [List.length_map]; exact chK_neg l s _
theorem coefOK_neg {l : List Int} (h : coefOK l = true) : coefOK (l.map fun n => -n) = true := by
  unfold coefOK at h ⊢
  rw [List.all_map, List.all_eq_true]
  intro x hx
  have := List.all_eq_true.1 h x hx
  simp only [Function.comp, Bool.and_eq_true, decide_eq_true_eq] at this ⊢
  omega
theorem ls_full {l : List Int} {m s : Nat} (h : l.length = m) : ls l m s = ch l s := by
  unfold ls ch; rw [h]; exact lsK_lo _ _ _ _ (Nat.le_refl _)
theorem badAt_full {rows : List RowD} {m s : Nat} (hr : ∀ r ∈ rows, r.coef.length = m) (h : keepsB rows s = false) : badAt rows m s ≠ none := by
  intro hb
  unfold badAt at hb
  rw [List.findIdx?_eq_none_iff] at hb
  have : keepsB rows s = true := by
    unfold keepsB
    rw [List.all_eq_true]
    intro r hrr
    have := hb r hrr
    rw [ls_full (hr r hrr)] at this
    unfold keptB
    simp at this ⊢
    omega
  rw [h] at this; cases this
theorem rowsS_len {p : ProgD} (hv : validB p = true) {m : Nat} (hm : p.vars = m) : ∀ r ∈ rowsS p, r.coef.length = m ∧ coefOK r.coef = true := by
  obtain ⟨v1, v2, v3, v4, v5, v6⟩ := validB_true hv
  have hrow : ∀ r ∈ p.rows, r.coef.length = m ∧ coefOK r.coef = true := fun r hr => by
    obtain ⟨h1, h2, h3, -⟩ := validB_row hv hr
    exact ⟨by omega, h3⟩
  intro r hr
  unfold rowsS at hr
  cases hb : bestS p with
  | none => rw [hb] at hr; exact hrow r hr
  | some x =>
    rw [hb] at hr
    rcases List.mem_append.1 hr with h | h
    · exact hrow r h
    · simp at h; subst h
      exact ⟨by simp [goalS]; omega, coefOK_neg (by assumption)⟩
theorem rowsS_bad {p : ProgD} (hv : validB p = true) {m : Nat} (hm : p.vars = m) (s : Nat) (hs : s < 2 ^ m) : badAt (rowsS p) m s ≠ none := by
  refine badAt_full (fun r hr => (rowsS_len hv hm r hr).1) ?_
  have hb := best_of p
  unfold rowsS
  have hmem : ∀ s, s < 2 ^ m → keepsB p.rows s = true → s ∈ allS p := fun s h1 h2 => by
    refine chL_mem.2 ⟨?_, h2⟩
    rw [hm]; simpa using h1
  cases ho : bestS p with
  | none =>
    rw [ho] at hb
    have hb : allS p = [] := hb
    simp only
    cases hk : keepsB p.rows s with
    | false => rfl
    | true => have := hmem s hs hk; rw [hb] at this; cases this
  | some x =>
    rw [ho] at hb
    obtain ⟨b1, b2, b3, b4⟩ := hb
    simp only
    cases hk : keepsB (p.rows ++ [goalS p.gain x.2]) s with
    | false => rfl
    | true =>
      unfold keepsB at hk
      rw [List.all_append, Bool.and_eq_true] at hk
      have h1 := b3 s (hmem s hs hk.1)
      have h2 := hk.2
      simp [keptB, goalS] at h2
      rw [ch_neg] at h2
      omega
theorem ch_bd {l : List Int} (h : coefOK l = true) (hl : l.length ≤ 60) (s : Nat) : -1000000000000 ≤ ch l s ∧ ch l s ≤ 1000000000000 := by
  have := chK_bd (M := 1000000000) (by decide) (coefOK_get h) s l.length
  unfold ch
  have : (1000000000 : Int) * (l.length : Int) ≤ 1000000000 * 60 := Int.mul_le_mul_of_nonneg_left (by omega) (by decide)
  omega
theorem best_bd {p : ProgD} (hv : validB p = true) {x : Nat × Int} (h : bestS p = some x) : -1000000000000 ≤ x.2 ∧ x.2 ≤ 1000000000000 ∧ x.1 < 2 ^ p.vars.toNat := by
  obtain ⟨v1, v2, v3, v4, v5, v6⟩ := validB_true hv
  have hb := best_of p
  rw [h] at hb
  obtain ⟨b1, b2, b3, b4⟩ := hb
  have := ch_bd (l := p.gain) (by assumption) (by omega) x.1
  rw [b2]
  exact ⟨this.1, this.2, (chL_mem.1 b1).1⟩
end Go.Proofs.Ytblmpmapcdpaiaa
end
section
/- Sums for choices: plain mathematics. -/
namespace Go.Proofs.Ytblmpmapcdpaiaa
open Go.RowKit Lib

theorem bitOn_test (s i : Nat) : bitOn s i = s.testBit i := by unfold bitOn; rw [Nat.testBit_eq_decide_div_mod_eq]
theorem chK_or (l : List Int) (a b : Nat) (h : ∀ i, bitOn a i = true → bitOn b i = false) : ∀ k, chK l a k + chK l b k = chK l (a ||| b) k := by
  intro k
  induction k with
  | zero => rfl
  | succ k ih =>
    have hk := h k
    have e : bitOn (a ||| b) k = (bitOn a k || bitOn b k) := by rw [bitOn_test, bitOn_test, bitOn_test, Nat.testBit_or]
    simp only [chK, e]
    cases ha : bitOn a k <;> cases hb : bitOn b k <;> simp_all <;> omega
theorem ch_or (l : List Int) (a b : Nat) (h : ∀ i, bitOn a i = true → bitOn b i = false) : ch l a + ch l b = ch l (a ||| b) := chK_or l a b h _
/-- 'b &^ a' on small numbers. -/
theorem andNot_i64 (a b : Nat) (ha : a < 2 ^ 63) (hb : b < 2 ^ 63) : bits .andNot .i64 (a : Int) (b : Int) = ((a &&& (2 ^ 64 - 1 - b) : Nat) : Int) := by
  have hx : a &&& (2 ^ 64 - 1 - b) ≤ a := Nat.and_le_left
  show IntKind.i64.wrap ((BitVec.ofInt 64 (a : Int) &&& ~~~BitVec.ofInt 64 (b : Int)).toNat : Int) = _
  have ea : (BitVec.ofInt 64 (a : Int)).toNat = a := by rw [BitVec.ofInt_natCast, BitVec.toNat_ofNat]; omega
  have eb : (BitVec.ofInt 64 (b : Int)).toNat = b := by rw [BitVec.ofInt_natCast, BitVec.toNat_ofNat]; omega
  rw [BitVec.toNat_and, BitVec.toNat_not, ea, eb]
  exact wraps_i64 _ (by omega) (by omega)
theorem andNot_off (a b : Nat) (hb : b < 2 ^ 63) (i : Nat) (h : bitOn b i = true) : bitOn (a &&& (2 ^ 64 - 1 - b)) i = false := by
  rw [bitOn_test] at h
  rw [bitOn_test, Nat.testBit_and]
  have hi : i < 64 := by
    refine Classical.byContradiction fun hc => ?_
    rw [Nat.testBit_lt_two_pow (Nat.lt_of_lt_of_le hb (Nat.pow_le_pow_right (by decide) (by omega)))] at h
    cases h
  have e : 2 ^ 64 - 1 - b = 2 ^ 64 - (b + 1) := by omega
  rw [e, Nat.testBit_two_pow_sub_succ (by omega)]
  simp [h]
theorem madeP_valid (vars : Int) (x : List X3) (gain : List Int) : validB (madeP vars x gain) = true := by
  have hb := pickI_bd vars (n := 9) (by decide)
  have hco : ∀ (l : List Int), (∀ n ∈ l, -8 ≤ n ∧ n ≤ 100) → coefOK l = true := fun l h => by
    unfold coefOK
    rw [List.all_eq_true]
    intro n hn
    have := h n hn
    simp; omega
  have hg : coefOK (gainM gain (pickI vars 9).toNat) = true := hco _ fun n hn => by
    unfold gainM at hn
    obtain ⟨i, -, rfl⟩ := List.mem_map.1 hn
    have := pickI_bd (gain.getD i 0) (n := 40) (by decide)
    omega
  have hr : ∀ i y, rightB (rowM i y (pickI vars 9).toNat) (pickI vars 9) = true := fun i y => by
    unfold rightB rowM mostOK
    have h1 : coefOK (coefM y (pickI vars 9).toNat) = true := hco _ fun n hn => by
      unfold coefM at hn
      obtain ⟨k, -, rfl⟩ := List.mem_map.1 hn
      have := pickI_bd (Int.tdiv y.a (1 + 3 * k)) (n := 12) (by decide)
      have := pickI_bd (Int.tdiv y.b (1 + 5 * k)) (n := 5) (by decide)
      omega
    have h2 := pickI_bd y.c (n := 30) (by decide)
    simp only [h1, coefM_len]
    simp; omega
  unfold validB madeP
  simp only [hg, rowsM_len, gainM_len]
  have h3 : ((rowsM x (pickI vars 9).toNat (min x.length 8)).all fun r => rightB r (pickI vars 9)) = true := by
    rw [List.all_eq_true]
    intro r hr'
    unfold rowsM at hr'
    obtain ⟨i, -, rfl⟩ := List.mem_map.1 hr'
    exact hr i _
  rw [h3]
  simp; omega
theorem madeP_small (vars : Int) (x : List X3) (gain : List Int) : 0 ≤ (madeP vars x gain).vars ∧ (madeP vars x gain).vars ≤ 8 ∧ (madeP vars x gain).rows.length ≤ 8 := by
  have hb := pickI_bd vars (n := 9) (by decide)
  unfold madeP
  simp only [rowsM_len]
  omega
theorem brK_get (rows : List RowD) (A : Nat) {k : Nat} (hk : keptB (rows.getD k row0) A = false) : ∀ n, k < n → (brK rows A n)[(brK rows A k).length]? = some (k : Int) := by
  intro n
  induction n with
  | zero => intro h; omega
  | succ n ih =>
    intro h
    simp only [brK]
    rcases Nat.lt_or_ge k n with h1 | h1
    · have := ih h1
      have hl : (brK rows A k).length < (brK rows A n).length := by
        refine Classical.byContradiction fun hc => ?_
        rw [List.getElem?_eq_none (by omega)] at this; cases this
      rw [List.getElem?_append_left hl]; exact this
    · obtain rfl : k = n := by omega
      rw [hk, List.getElem?_append_right (Nat.le_refl _)]
      simp
theorem brK_nil (rows : List RowD) (A : Nat) : (decide ((brK rows A rows.length).length = 0)) = keepsB rows A := by
  have h : ∀ n, n ≤ rows.length → (decide ((brK rows A n).length = 0)) = (rows.take n).all fun r => keptB r A := by
    intro n
    induction n with
    | zero => intro _; rfl
    | succ n ih =>
      intro hn
      have h1 := ih (by omega)
      have hs : rows[n]? = some (rows.getD n row0) := getD_some row0 (by omega)
      rw [List.take_add_one, hs]
      simp only [List.all_append, Option.toList, List.all_cons, List.all_nil, Bool.and_true, ← h1]
      by_cases hk : keptB (rows.getD n row0) A = true
      · have e : brK rows A (n + 1) = brK rows A n := by simp only [brK]; rw [if_pos hk, List.append_nil]
        rw [e, hk, Bool.and_true]
      · have e : brK rows A (n + 1) = brK rows A n ++ [(n : Int)] := by simp only [brK]; rw [if_neg hk]
        have hk2 : keptB (rows.getD n row0) A = false := by simpa using hk
        rw [e, hk2, Bool.and_false]
        simp
  have := h rows.length (Nat.le_refl _)
  rw [List.take_length] at this
  exact this
theorem sumV_row {p : ProgD} (hv : validB p = true) {r : RowD} (hr : r ∈ p.rows) {s : Nat} (hs : s < 2 ^ p.vars.toNat) : sumV r s = ch r.coef s := by
  obtain ⟨v1, v2, -, v4, -⟩ := validB_true hv
  have hrr := v4 r hr
  obtain ⟨e1, e2, e3⟩ := rightB_true hrr
  have hl : r.coef.length = p.vars.toNat := by omega
  have hb : sumB r s = true := by
    unfold sumB inB
    rw [hl]
    have h1 : rightB r r.coef.length = true := by
      have : (r.coef.length : Int) = p.vars := e1
      rw [this]; exact hrr
    have hp : ((2 ^ p.vars.toNat : Nat) : Int) = (2 : Int) ^ p.vars.toNat := by simp
    rw [hl] at h1
    simp only [h1, Bool.true_and, Bool.and_eq_true, decide_eq_true_eq]
    omega
  unfold sumV
  rw [if_pos ⟨by omega, hb⟩, Int.toNat_natCast]
theorem choiceB_ok {p : ProgD} (hv : validB p = true) {s : Nat} (hs : s < 2 ^ p.vars.toNat) : choiceB p s = true := by
  unfold choiceB inB
  have hp : ((2 ^ p.vars.toNat : Nat) : Int) = (2 : Int) ^ p.vars.toNat := by simp
  rw [hv]
  simp only [Bool.true_and, Bool.and_eq_true, decide_eq_true_eq]
  omega
end Go.Proofs.Ytblmpmapcdpaiaa
end

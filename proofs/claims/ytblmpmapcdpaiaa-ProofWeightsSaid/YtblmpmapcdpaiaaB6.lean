/- Texts Snd, Cmp in one. -/
import Derived.Test.YtblmpmapcdpaiaaQ6
import Derived.Test.YtblmpmapcdpaiaaRef
import Derived.Test.YtblmpmapcdpaiaaK7
section
/- Checking a proof, plainly: Solve's proof holds; what holds excludes every choice, by the rows that it uses alone; fewer rows, greater bounds. -/
namespace Go.Proofs.Ytblmpmapcdpaiaa
open Go.RowKit Lib

def decN (d set : Nat) : Dc := fun k => if k < d then (if bitOn set k then 1 else 0) else -1
theorem decN_open : decN 0 0 = fun _ => -1 := by funext k; simp [decN]
theorem decN_set0 {d set : Nat} (h : set < 2 ^ d) : upd (decN d set) d 0 = decN (d + 1) set := by
  funext k
  unfold upd decN
  by_cases e : k = d
  · subst e; simp [bitOn_low h (Nat.le_refl _)]
  · rw [if_neg e]
    by_cases h2 : k < d
    · simp [h2, Nat.lt_succ_of_lt h2]
    · simp [h2, show ¬ k < d + 1 by omega]
theorem decN_set1 {d set : Nat} (h : set < 2 ^ d) : upd (decN d set) d 1 = decN (d + 1) (set + 2 ^ d) := by
  funext k
  unfold upd decN
  by_cases e : k = d
  · subst e; simp [bitOn_add h k (Nat.le_refl _)]
  · rw [if_neg e]
    by_cases h2 : k < d
    · simp [h2, Nat.lt_succ_of_lt h2, bitOn_add h k (by omega), e]
    · simp [h2, show ¬ k < d + 1 by omega]
theorem lK_decN (c : List Int) (s : Nat → Int) (hs : ∀ k, s k = c.getD k 0) (d set : Nat) : ∀ k, lK (decN d set) s k = lsK c d set k := by
  intro k
  induction k with
  | zero => rfl
  | succ k ih =>
    simp only [lK, lsK]
    rw [ih, hs]
    congr 1
    unfold term decN
    by_cases hk : k < d
    · simp only [hk, if_true]
      cases bitOn set k <;> simp
    · simp only [hk, if_false]
      by_cases hc : c.getD k 0 < 0
      · rw [if_pos (.inr ⟨by decide, hc⟩)]; omega
      · rw [if_neg (by rintro (h | h) <;> omega)]; omega
theorem getD_any {α : Type} {l : List α} {j : Nat} (h : j < l.length) (x y : α) : l.getD j x = l.getD j y := by
  rw [List.getD_eq_getElem?_getD, List.getD_eq_getElem?_getD, List.getElem?_eq_getElem h]; rfl
theorem leafV_plain {rows : List RowD} {n d set i : Nat} (hr : ∀ r ∈ rows, r.coef.length = n) (h : badAt rows d set = some i) : leafV rows n ⟨-1, 0, 0, [⟨(i : Int), 1⟩]⟩ (decN d set) = true := by
  obtain ⟨b1, b2⟩ := badAt_some h
  have hrw : rowW rows ⟨(i : Int), 1⟩ = rows.getD i row0 := by unfold rowW; rw [Int.toNat_natCast]; exact getD_any b1 _ _
  have hc := hr _ (List.mem_of_getElem? (getD_some row0 b1))
  unfold ls at b2
  rw [hc] at b2
  unfold leafV
  simp only [Bool.and_eq_true]
  refine ⟨rfl, ?_, ?_⟩
  · unfold okW
    rw [List.all_eq_true]
    intro j hj
    have hj0 : j = 0 := by simpa using hj
    subst hj0
    unfold wtB inB lastK
    simp only [List.getD_cons_zero, Bool.and_eq_true, decide_eq_true_eq]
    omega
  · unfold overB
    refine decide_eq_true ?_
    show mK rows [⟨(i : Int), 1⟩] 1 < lK (decN d set) (sK rows [⟨(i : Int), 1⟩] 1) n
    rw [lK_decN (rows.getD i row0).coef _ (fun k => by simp only [sK, List.getD_cons_zero]; rw [hrw]; omega)]
    simp only [mK, List.getD_cons_zero]
    rw [hrw]
    omega
theorem growS_pos {rows : List RowD} {n : Nat} (hbad : ∀ s, s < 2 ^ n → badAt rows n s ≠ none) : ∀ (fuel d set k : Nat), d + fuel = n → set < 2 ^ d → 0 < (growS rows fuel d set k).length := by
  intro fuel d set k hd hs
  unfold growS
  cases hb : badAt rows d set with
  | some i => simp
  | none =>
    cases fuel with
    | zero => exact absurd hb (by obtain rfl : d = n := by omega
                                  exact hbad set hs)
    | succ f => simp
/-- Solve's proof holds. -/
theorem wrongV_grow (rows : List RowD) (l : List StepD) (n : Nat) (hr : ∀ r ∈ rows, r.coef.length = n) (hbad : ∀ s, s < 2 ^ n → badAt rows n s ≠ none) :
    ∀ (fuel d set k f : Nat), d + fuel = n → set < 2 ^ d → (growS rows fuel d set k).length ≤ f → k + (growS rows fuel d set k).length ≤ l.length → (∀ i s, (growS rows fuel d set k)[i]? = some s → l[k + i]? = some s) → wrongV rows l n f k (decN d set) = -1 := by
  intro fuel
  induction fuel with
  | zero =>
    intro d set k f hd hs hf hkl hl
    obtain rfl : d = n := by omega
    unfold growS at hf hl
    cases hb : badAt rows d set with
    | none => exact absurd hb (hbad set hs)
    | some i =>
      rw [hb] at hf hl
      simp only at hf hl
      obtain ⟨f, rfl⟩ : ∃ g, f = g + 1 := ⟨f - 1, by simp at hf; omega⟩
      have h0 := hl 0 _ rfl
      rw [Nat.add_zero] at h0
      rw [wrongV_leaf h0 rfl, leafV_plain hr hb, if_pos rfl]
  | succ fuel ih =>
    intro d set k f hd hs hf hkl hl
    have hp1 := growS_pos hbad fuel (d + 1) set (k + 1) (by omega) (by rw [Nat.pow_succ]; omega)
    have hp2 := growS_pos hbad fuel (d + 1) (set + 2 ^ d) (k + 1 + (growS rows fuel (d + 1) set (k + 1)).length) (by omega) (by rw [Nat.pow_succ]; omega)
    unfold growS at hf hl hkl
    cases hb : badAt rows d set with
    | some i =>
      rw [hb] at hf hl
      simp only at hf hl
      obtain ⟨f, rfl⟩ : ∃ g, f = g + 1 := ⟨f - 1, by simp at hf; omega⟩
      have h0 := hl 0 _ rfl
      rw [Nat.add_zero] at h0
      rw [wrongV_leaf h0 rfl, leafV_plain hr hb, if_pos rfl]
    | none =>
      rw [hb] at hf hl hkl
      simp only at hf hl hkl
      generalize hA : growS rows fuel (d + 1) set (k + 1) = A at hf hl hkl hp1 hp2
      generalize hB : growS rows fuel (d + 1) (set + 2 ^ d) (k + 1 + A.length) = B at hf hl hkl hp2
      simp only [List.length_cons, List.length_append] at hf hkl
      obtain ⟨f, rfl⟩ : ∃ g, f = g + 1 := ⟨f - 1, by omega⟩
      have h0 := hl 0 _ rfl
      rw [Nat.add_zero] at h0
      have hcA : caseA n ⟨(d : Int), ((k + 1 : Nat) : Int), ((k + 1 + A.length : Nat) : Int), []⟩ (decN d set) = true := by
        unfold caseA inB
        simp only [Int.toNat_natCast, Bool.and_eq_true, decide_eq_true_eq, beq_iff_eq]
        exact ⟨⟨by omega, by omega⟩, by unfold decN; rw [if_neg (Nat.lt_irrefl d)], rfl⟩
      have hcC : caseC l.length k ⟨(d : Int), ((k + 1 : Nat) : Int), ((k + 1 + A.length : Nat) : Int), []⟩ = true := by
        unfold caseC inB
        simp only [Bool.and_eq_true, decide_eq_true_eq]
        omega
      rw [wrongV_case h0 (by show (d : Int) ≠ -1; omega) (by rw [hcA, hcC]; rfl)]
      simp only [Int.toNat_natCast]
      rw [decN_set0 hs, decN_set1 hs]
      have p2 : 2 ^ (d + 1) = 2 ^ d + 2 ^ d := by rw [Nat.pow_succ]; omega
      rw [ih (d + 1) set (k + 1) f (by omega) (by omega) (by rw [hA]; omega) (by rw [hA]; omega) (fun i s hi => by
        rw [hA] at hi
        have hil : i < A.length := by
          refine Classical.byContradiction fun hc => ?_
          rw [List.getElem?_eq_none (by omega)] at hi; cases hi
        have := hl (i + 1) s (by rw [List.getElem?_cons_succ, List.getElem?_append_left hil]; exact hi)
        rw [show k + 1 + i = k + (i + 1) by omega]; exact this), if_pos rfl]
      exact ih (d + 1) (set + 2 ^ d) (k + 1 + A.length) f (by omega) (by omega) (by rw [hB]; omega) (by rw [hB]; omega) (fun i s hi => by
        rw [hB] at hi
        have := hl (A.length + i + 1) s (by rw [List.getElem?_cons_succ, List.getElem?_append_right (by omega), Nat.add_sub_cancel_left]; exact hi)
        rw [show k + 1 + A.length + i = k + (A.length + i + 1) by omega]; exact this)

/-! ### What holds excludes -/
def chF (s : Nat → Int) (set : Nat) : Nat → Int
  | 0 => 0
  | k + 1 => chF s set k + if bitOn set k then s k else 0
theorem chF_chK (l : List Int) (set : Nat) : ∀ k, chK l set k = chF (fun q => l.getD q 0) set k := by
  intro k
  induction k with
  | zero => rfl
  | succ k ih => simp only [chK, chF]; rw [ih]
theorem chF_add (s : Nat → Int) (c : List Int) (t : Int) (set : Nat) : ∀ k, chF (fun q => s q + t * c.getD q 0) set k = chF s set k + t * chK c set k := by
  intro k
  induction k with
  | zero => simp [chF, chK]
  | succ k ih =>
    simp only [chF, chK]
    rw [ih]
    cases bitOn set k
    · simp
    · simp only [if_true]; rw [Int.mul_add]; omega
def AgreesD (n : Nat) (dc : Dc) (set : Nat) : Prop := ∀ k, k < n → (dc k = 1 → bitOn set k = true) ∧ (dc k = 0 → bitOn set k = false)
theorem lK_le {n : Nat} {dc : Dc} {set : Nat} (s : Nat → Int) (hd : DcOK n dc) (h : AgreesD n dc set) : ∀ k, k ≤ n → lK dc s k ≤ chF s set k := by
  intro k
  induction k with
  | zero => intro _; exact Int.le_refl _
  | succ k ih =>
    intro hk
    have := ih (by omega)
    obtain ⟨a1, a0⟩ := h k (by omega)
    simp only [lK, chF, term]
    rcases (hd k).1 with e | e | e
    · rw [if_pos (.inl e), if_pos (a1 e)]; omega
    · rw [if_neg (by rintro (h | h) <;> omega), a0 e]; simp; omega
    · split <;> split <;> omega
theorem agrees_upd {n v : Nat} {dc : Dc} {set : Nat} (h : AgreesD n dc set) (b : Bool) (hb : bitOn set v = b) : AgreesD n (upd dc v (if b then 1 else 0)) set := by
  intro k hk
  unfold upd
  by_cases e : k = v
  · subst e
    rw [if_pos rfl, hb]
    cases b <;> simp
  · rw [if_neg e]; exact h k hk
theorem markW_mono {wts : List WtD} {j : Nat} : ∀ (m : Nat) (b : Nat → Bool), b j = true → markW b wts m j = true := by
  intro m
  induction m with
  | zero => intro b h; exact h
  | succ m ih => intro b h; simp only [markW, mark]; rw [ih b h]; rfl
theorem markW_in {b : Nat → Bool} {wts : List WtD} {i : Nat} : ∀ m, i < m → markW b wts m (wts.getD i wt0).row.toNat = true := by
  intro m
  induction m with
  | zero => intro h; omega
  | succ m ih =>
    intro h
    simp only [markW, mark]
    by_cases e : i = m
    · subst e; simp
    · rw [ih (by omega)]; rfl
theorem markW_out {wts : List WtD} {j : Nat} {b : Nat → Bool} : ∀ m, markW b wts m j = true → b j = true ∨ ∃ i, i < m ∧ j = (wts.getD i wt0).row.toNat := by
  intro m
  induction m with
  | zero => intro h; exact .inl h
  | succ m ih =>
    intro h
    simp only [markW, mark, Bool.or_eq_true, decide_eq_true_eq] at h
    rcases h with h | h
    · rcases ih h with h | ⟨i, hi, e⟩
      · exact .inl h
      · exact .inr ⟨i, by omega, e⟩
    · exact .inr ⟨m, by omega, h⟩
theorem usedV_mono {l : List StepD} {j : Nat} : ∀ (f at_ : Nat) (b : Nat → Bool), b j = true → usedV l f at_ b j = true := by
  intro f
  induction f with
  | zero => intro at_ b h; exact h
  | succ f ih =>
    intro at_ b h
    cases hs : l[at_]? with
    | none => unfold usedV; rw [hs]; exact h
    | some s =>
      by_cases hv : s.var = -1
      · rw [usedV_leaf hs hv]; exact markW_mono _ _ h
      · rw [usedV_case hs hv]; exact ih _ _ (ih _ _ h)
/-- A leaf that holds has a row that a choice breaks. -/
theorem leaf_breaks {rows : List RowD} {n set : Nat} {s : StepD} {dc : Dc} (hr : RowsOK n rows) (hd : DcOK n dc) (ha : AgreesD n dc set) (h : leafV rows n s dc = true) :
    ∃ i, i < s.wts.length ∧ (s.wts.getD i wt0).row.toNat < rows.length ∧ keptB (rows.getD (s.wts.getD i wt0).row.toNat rowE) set = false := by
  unfold leafV at h
  simp only [Bool.and_eq_true] at h
  obtain ⟨-, hok, hov⟩ := h
  have hov := of_decide_eq_true hov
  refine Classical.byContradiction fun hc => ?_
  have hall : ∀ i, i < s.wts.length → chK (rowW rows (s.wts.getD i wt0)).coef set n ≤ (rowW rows (s.wts.getD i wt0)).most := by
    intro i hi
    obtain ⟨j, hj, hjl, hjg, hcl, -⟩ := rowW_ok hr (i := i) (fun q hq => okW_at hok (by omega))
    refine Classical.byContradiction fun hn => hc ⟨i, hi, by rw [hj, Int.toNat_natCast]; exact hjl, ?_⟩
    unfold keptB ch
    show decide (chK (rowW rows (s.wts.getD i wt0)).coef set (rowW rows (s.wts.getD i wt0)).coef.length ≤ (rowW rows (s.wts.getD i wt0)).most) = false
    rw [hcl]
    exact decide_eq_false hn
  have hsum : ∀ m, m ≤ s.wts.length → chF (sK rows s.wts m) set n ≤ mK rows s.wts m := by
    intro m
    induction m with
    | zero =>
      intro _
      have : ∀ k, chF (sK rows s.wts 0) set k = 0 := by
        intro k
        induction k with
        | zero => rfl
        | succ k ih => simp only [chF, sK] at ih ⊢; rw [ih]; simp
      rw [this]; simp [mK]
    | succ m ih =>
      intro hm
      have h1 := ih (by omega)
      have h2 := hall m (by omega)
      obtain ⟨-, -, ht, -⟩ := wtB_true (okW_at hok (show m < s.wts.length by omega))
      have e : sK rows s.wts (m + 1) = fun q => sK rows s.wts m q + (s.wts.getD m wt0).times * (rowW rows (s.wts.getD m wt0)).coef.getD q 0 := rfl
      rw [e, chF_add]
      simp only [mK]
      have h3 : (s.wts.getD m wt0).times * chK (rowW rows (s.wts.getD m wt0)).coef set n ≤ (s.wts.getD m wt0).times * (rowW rows (s.wts.getD m wt0)).most := Int.mul_le_mul_of_nonneg_left h2 (by omega)
      omega
  have h1 := hsum _ (Nat.le_refl _)
  have h2 := lK_le (sK rows s.wts s.wts.length) hd ha n (Nat.le_refl _)
  omega
/-- What holds: every choice breaks a row that it uses. -/
theorem wrongV_sound {rows : List RowD} {l : List StepD} {n : Nat} (hr : RowsOK n rows) : ∀ (f at_ : Nat) (dc : Dc), wrongV rows l n f at_ dc = -1 → DcOK n dc → ∀ set, AgreesD n dc set → ∀ b : Nat → Bool,
    ∃ j, j < rows.length ∧ usedV l f at_ b j = true ∧ keptB (rows.getD j rowE) set = false := by
  intro f
  induction f with
  | zero => intro at_ dc h; simp only [wrongV] at h; omega
  | succ f ih =>
    intro at_ dc h hd set ha b
    cases hs : l[at_]? with
    | none => unfold wrongV at h; rw [hs] at h; simp only at h; omega
    | some s =>
      by_cases hv : s.var = -1
      · rw [wrongV_leaf hs hv] at h
        have hlv : leafV rows n s dc = true := by
          cases hq : leafV rows n s dc with
          | true => rfl
          | false => rw [hq] at h; simp at h
        obtain ⟨i, hi, hj, hk⟩ := leaf_breaks hr hd ha hlv
        refine ⟨_, hj, ?_, hk⟩
        rw [usedV_leaf hs hv]
        exact markW_in _ hi
      · cases hc : (caseA n s dc && caseC l.length at_ s) with
        | false => rw [wrongV_bad hs hv hc] at h; omega
        | true =>
          rw [wrongV_case hs hv hc] at h
          have hcc := (Bool.and_eq_true _ _ ▸ hc : caseA n s dc = true ∧ caseC l.length at_ s = true).1
          unfold caseA inB at hcc
          simp only [Bool.and_eq_true, decide_eq_true_eq] at hcc
          rw [usedV_case hs hv]
          have hvn : s.var.toNat < n := by omega
          by_cases h1 : wrongV rows l n f s.no.toNat (upd dc s.var.toNat 0) = -1
          · rw [if_pos h1] at h
            cases hb : bitOn set s.var.toNat with
            | false =>
              obtain ⟨j, j1, j2, j3⟩ := ih _ _ h1 (hd.upd hvn (.inr rfl)) set (agrees_upd ha false hb) b
              exact ⟨j, j1, usedV_mono _ _ _ j2, j3⟩
            | true =>
              obtain ⟨j, j1, j2, j3⟩ := ih _ _ h (hd.upd hvn (.inl rfl)) set (agrees_upd ha true hb) (usedV l f s.no.toNat b)
              exact ⟨j, j1, j2, j3⟩
          · rw [if_neg h1] at h; exact absurd h h1
/-- Only rows that there are, are used. -/
theorem usedV_lt {rows : List RowD} {l : List StepD} {n j : Nat} : ∀ (f at_ : Nat) (dc : Dc), wrongV rows l n f at_ dc = -1 → ∀ b : Nat → Bool, usedV l f at_ b j = true → b j = true ∨ j < rows.length := by
  intro f
  induction f with
  | zero => intro at_ dc h b hu; exact .inl hu
  | succ f ih =>
    intro at_ dc h b hu
    cases hs : l[at_]? with
    | none => unfold wrongV at h; rw [hs] at h; simp only at h; omega
    | some s =>
      by_cases hv : s.var = -1
      · have hrg := wrongV_ok_leaf hs hv h
        rw [usedV_leaf hs hv] at hu
        rcases markW_out _ hu with hu | ⟨i, hi, e⟩
        · exact .inl hu
        · obtain ⟨q, hq, hql⟩ := hrg i hi
          rw [hq, Int.toNat_natCast] at e
          exact .inr (by omega)
      · obtain ⟨nn, ny, hnn, hny, -, -, -, -, ⟨d1, h1⟩, ⟨d2, h2⟩⟩ := wrongV_ok_case hs hv h
        rw [usedV_case hs hv, hnn, hny, Int.toNat_natCast, Int.toNat_natCast] at hu
        rcases ih _ _ h2 _ hu with hu | hu
        · exact ih _ _ h1 _ hu
        · exact .inr hu
/-- Rows that say at least as much. -/
def Stronger (rows rows' : List RowD) : Prop := rows.length ≤ rows'.length ∧ ∀ j, j < rows.length → (rows'.getD j rowE).coef = (rows.getD j rowE).coef ∧ (rows'.getD j rowE).most ≤ (rows.getD j rowE).most
theorem leafV_stronger {rows rows' : List RowD} {n : Nat} {s : StepD} {dc : Dc} (h : Stronger rows rows') (hl : leafV rows n s dc = true) : leafV rows' n s dc = true := by
  obtain ⟨h1, h2⟩ := h
  unfold leafV at hl ⊢
  simp only [Bool.and_eq_true] at hl ⊢
  obtain ⟨ha, hok, hov⟩ := hl
  have hrow : ∀ i, i < s.wts.length → (rowW rows' (s.wts.getD i wt0)).coef = (rowW rows (s.wts.getD i wt0)).coef ∧ (rowW rows' (s.wts.getD i wt0)).most ≤ (rowW rows (s.wts.getD i wt0)).most := by
    intro i hi
    have g1 := lastK_ge (R := rows.length) (wts := s.wts) i (fun j hj => okW_at hok (by omega))
    obtain ⟨g2, g3, -⟩ := wtB_true (okW_at hok hi)
    exact h2 _ (by omega)
  refine ⟨ha, ?_, ?_⟩
  · unfold okW
    rw [List.all_eq_true]
    intro i hi
    have hi' : i < s.wts.length := by simpa using hi
    obtain ⟨g1, g2, g3, g4⟩ := wtB_true (okW_at hok hi')
    unfold wtB inB
    simp only [Bool.and_eq_true, decide_eq_true_eq]
    omega
  · have hov := of_decide_eq_true hov
    unfold overB
    refine decide_eq_true ?_
    have e1 : ∀ m, m ≤ s.wts.length → ∀ k, sK rows' s.wts m k = sK rows s.wts m k := by
      intro m
      induction m with
      | zero => intro _ _; rfl
      | succ m ih => intro hm k; simp only [sK]; rw [ih (by omega), (hrow m (by omega)).1]
    have e2 : ∀ m, m ≤ s.wts.length → mK rows' s.wts m ≤ mK rows s.wts m := by
      intro m
      induction m with
      | zero => intro _; exact Int.le_refl _
      | succ m ih =>
        intro hm
        have g := ih (by omega)
        obtain ⟨-, -, ht, -⟩ := wtB_true (okW_at hok (show m < s.wts.length by omega))
        have := Int.mul_le_mul_of_nonneg_left (hrow m (by omega)).2 (show 0 ≤ (s.wts.getD m wt0).times by omega)
        simp only [mK]
        omega
    have e3 : ∀ k, lK dc (sK rows' s.wts s.wts.length) k = lK dc (sK rows s.wts s.wts.length) k := by
      intro k
      induction k with
      | zero => rfl
      | succ k ih => simp only [lK]; rw [ih, e1 _ (Nat.le_refl _)]
    rw [e3]
    have := e2 _ (Nat.le_refl _)
    omega
theorem wrongV_stronger {rows rows' : List RowD} {l : List StepD} {n : Nat} (hst : Stronger rows rows') : ∀ (f at_ : Nat) (dc : Dc), wrongV rows l n f at_ dc = -1 → wrongV rows' l n f at_ dc = -1 := by
  intro f
  induction f with
  | zero => intro at_ dc h; simp only [wrongV] at h; omega
  | succ f ih =>
    intro at_ dc h
    cases hs : l[at_]? with
    | none => unfold wrongV at h; rw [hs] at h; simp only at h; omega
    | some s =>
      by_cases hv : s.var = -1
      · rw [wrongV_leaf hs hv] at h ⊢
        have hlv : leafV rows n s dc = true := by
          cases hq : leafV rows n s dc with
          | true => rfl
          | false => rw [hq] at h; simp at h
        rw [leafV_stronger hst hlv, if_pos rfl]
      · cases hc : (caseA n s dc && caseC l.length at_ s) with
        | false => rw [wrongV_bad hs hv hc] at h; omega
        | true =>
          rw [wrongV_case hs hv hc] at h ⊢
          by_cases h1 : wrongV rows l n f s.no.toNat (upd dc s.var.toNat 0) = -1
          · rw [if_pos h1] at h
            rw [if_pos (ih _ _ h1)]
            exact ih _ _ h
          · rw [if_neg h1] at h; exact absurd h h1
theorem agreesD_open (n set : Nat) : AgreesD n (fun _ => -1) set := fun _ _ => ⟨fun h => absurd (show (-1 : Int) = 1 from h) (by decide), fun h => absurd (show (-1 : Int) = 0 from h) (by decide)⟩
end Go.Proofs.Ytblmpmapcdpaiaa
end
section
/- What Solve returns holds; what holds excludes; plainly. -/
namespace Go.Proofs.Ytblmpmapcdpaiaa
open Go.RowKit Lib

theorem checkV_ok {p : ProgD} {rows : List RowD} {l : List StepD} (h : checkV p rows l = -1) : validB p = true ∧ l.length ≤ 8192 ∧ 0 < l.length ∧ wrongV rows l p.vars.toNat l.length 0 (fun _ => -1) = -1 := by
  unfold checkV at h
  split at h
  · rename_i hc
    split at h
    · omega
    · exact ⟨hc.1, hc.2, by omega, h⟩
  · omega
theorem checkV_mk {p : ProgD} {rows : List RowD} {l : List StepD} (h1 : validB p = true) (h2 : l.length ≤ 8192) (h3 : 0 < l.length) (h4 : wrongV rows l p.vars.toNat l.length 0 (fun _ => -1) = -1) : checkV p rows l = -1 := by
  unfold checkV
  rw [if_pos ⟨h1, h2⟩, if_neg (by omega)]
  exact h4
theorem checkV_sound {p : ProgD} {rows : List RowD} {l : List StepD} (hro : ∃ n : Nat, p.vars = n ∧ RowsOK n rows) (h : checkV p rows l = -1) (set : Nat) :
    ∃ j, j < rows.length ∧ usedV l l.length 0 (fun _ => false) j = true ∧ keptB (rows.getD j rowE) set = false := by
  obtain ⟨n, hn, hr⟩ := hro
  obtain ⟨-, -, -, hw⟩ := checkV_ok h
  rw [hn, Int.toNat_natCast] at hw
  exact wrongV_sound hr _ _ _ hw (fun _ => ⟨.inr (.inr rfl), fun _ => rfl⟩) set (agreesD_open n set) _
theorem keepsB_get {rows : List RowD} {set j : Nat} (h : keepsB rows set = true) (hj : j < rows.length) : keptB (rows.getD j rowE) set = true :=
  List.all_eq_true.1 h _ (List.mem_of_getElem? (getD_some rowE hj))
/-- What refutes excludes every choice. -/
theorem refutes_sound {p : ProgD} {l : List StepD} (h : wrongD p l = -1) (set : Nat) : keepsB p.rows set = false := by
  obtain ⟨j, h1, -, h2⟩ := checkV_sound (validB_rows (checkV_ok h).1) h set
  refine Bool.eq_false_iff.2 fun hk => ?_
  rw [keepsB_get hk h1] at h2
  cases h2
theorem getD_app {rows : List RowD} {r : RowD} {j : Nat} (h : j < rows.length) : (rows ++ [r]).getD j rowE = rows.getD j rowE := by
  rw [List.getD_eq_getElem?_getD, List.getD_eq_getElem?_getD, List.getElem?_append_left h]
theorem getD_end {rows : List RowD} {r : RowD} : (rows ++ [r]).getD rows.length rowE = r := by
  rw [List.getD_eq_getElem?_getD, List.getElem?_append_right (Nat.le_refl _)]; simp
/-- What bounds, bounds. -/
theorem bounds_sound {p : ProgD} {l : List StepD} {g : Int} (h : boundsV p l g = true) (set : Nat) (hk : keepsB p.rows set = true) : ch p.gain set ≤ g := by
  unfold boundsV at h
  rw [Bool.and_eq_true] at h
  obtain ⟨hin, hc⟩ := h
  have hc := beq_iff_eq.1 hc
  have hg : -12000000000 ≤ g ∧ g ≤ 12000000000 := by unfold inB at hin; simpa using hin
  have hv := (checkV_ok hc).1
  obtain ⟨j, h1, -, h2⟩ := checkV_sound (goalW_rows hg hv) hc set
  simp only [List.length_append, List.length_singleton] at h1
  by_cases hj : j < p.rows.length
  · rw [getD_app hj, keepsB_get hk hj] at h2
    cases h2
  · obtain rfl : j = p.rows.length := by omega
    rw [getD_end, goalW_eq (validB_true hv).2.2.2.2.2] at h2
    unfold keptB at h2
    have h3 := of_decide_eq_false h2
    simp only [goalS] at h3
    rw [ch_neg] at h3
    omega
theorem proofS_len {p : ProgD} (hm : p.vars ≤ 8) (h0 : 0 ≤ p.vars) : (proofS p).length ≤ 511 := by
  have := grow_len (rowsS p) p.vars.toNat 0 0 0
  unfold proofS
  have h2 : 2 ^ (p.vars.toNat + 1) ≤ 2 ^ 9 := Nat.pow_le_pow_right (by omega) (by omega)
  omega
theorem proofS_ok {p : ProgD} (hv : validB p = true) : 0 < (proofS p).length ∧ wrongV (rowsS p) (proofS p) p.vars.toNat (proofS p).length 0 (fun _ => -1) = -1 := by
  obtain ⟨v1, v2, -, -, -, -⟩ := validB_true hv
  have hm : p.vars = (p.vars.toNat : Int) := by omega
  have hl := rowsS_len hv (m := p.vars.toNat) hm
  have hb := rowsS_bad hv (m := p.vars.toNat) hm
  have h1 := growS_pos hb p.vars.toNat 0 0 0 (by omega) (by simp)
  refine ⟨h1, ?_⟩
  rw [← decN_open]
  exact wrongV_grow (rowsS p) (proofS p) p.vars.toNat (fun r hr => (hl r hr).1) hb p.vars.toNat 0 0 0 (proofS p).length (by omega) (by simp) (Nat.le_refl _) (by rw [Nat.zero_add]; exact Nat.le_refl _) (fun i s hi => by rw [Nat.zero_add]; exact hi)
theorem best_keeps {p : ProgD} {x : Nat × Int} (h : bestS p = some x) : keepsB p.rows x.1 = true ∧ x.2 = ch p.gain x.1 := by
  have hb := best_of p
  rw [h] at hb
  obtain ⟨h1, h2, -⟩ := hb
  unfold allS at h1
  exact ⟨(List.mem_filter.1 h1).2, h2⟩
theorem complete_none {p : ProgD} (hv : validB p = true) (hm : p.vars ≤ 8) (hb : bestS p = none) : wrongD p (proofS p) = -1 := by
  obtain ⟨h1, h2⟩ := proofS_ok hv
  have hl := proofS_len hm (validB_true hv).1
  have e : rowsS p = p.rows := by unfold rowsS; rw [hb]
  rw [e] at h2
  exact checkV_mk hv (by omega) h1 h2
theorem gain_le {p : ProgD} (hv : validB p = true) (set : Nat) : -12000000000 ≤ ch p.gain set ∧ ch p.gain set ≤ 12000000000 := by
  obtain ⟨v1, v2, -, -, v5, v6⟩ := validB_true hv
  have := chK_bd (l := p.gain) (M := 1000000000) (by omega) (fun k => coefOK_get v6 k) set p.gain.length
  unfold ch
  omega
theorem complete_some {p : ProgD} (hv : validB p = true) (hm : p.vars ≤ 8) {x : Nat × Int} (hb : bestS p = some x) :
    boundsV p (proofS p) x.2 = true ∧ (∀ g, g < x.2 → boundsV p (proofS p) g = false) ∧ wrongD p (proofS p) ≠ -1 ∧ -12000000000 ≤ x.2 ∧ x.2 ≤ 12000000000 := by
  obtain ⟨h1, h2⟩ := proofS_ok hv
  have hl := proofS_len hm (validB_true hv).1
  obtain ⟨k1, k2⟩ := best_keeps hb
  have hg := gain_le hv x.1
  rw [← k2] at hg
  have e : rowsS p = p.rows ++ [goalS p.gain x.2] := by unfold rowsS; rw [hb]
  rw [e] at h2
  refine ⟨?_, fun g hlt => ?_, fun hw => ?_, hg⟩
  · unfold boundsV
    rw [goalW_eq (validB_true hv).2.2.2.2.2, checkV_mk hv (by omega) h1 h2]
    unfold inB
    rw [decide_eq_true hg.1, decide_eq_true hg.2]
    rfl
  · refine Bool.eq_false_iff.2 fun h => ?_
    have := bounds_sound h x.1 k1
    omega
  · have := refutes_sound hw x.1
    rw [k1] at this
    cases this
/-- A proof that bounds a gain bounds every greater one. -/
theorem bounds_more {p : ProgD} {l : List StepD} {g h : Int} (hb : boundsV p l g = true) (hgh : g ≤ h) (hh : h ≤ 12000000000) : boundsV p l h = true := by
  unfold boundsV at hb ⊢
  rw [Bool.and_eq_true] at hb ⊢
  obtain ⟨hin, hc⟩ := hb
  have hg : -12000000000 ≤ g ∧ g ≤ 12000000000 := by unfold inB at hin; simpa using hin
  obtain ⟨c1, c2, c3, c4⟩ := checkV_ok (beq_iff_eq.1 hc)
  refine ⟨by unfold inB; simp only [Bool.and_eq_true, decide_eq_true_eq]; omega, beq_iff_eq.2 (checkV_mk c1 c2 c3 (wrongV_stronger ⟨by simp, fun j hj => ?_⟩ _ _ _ c4))⟩
  simp only [List.length_append, List.length_singleton] at hj
  by_cases hj2 : j < p.rows.length
  · rw [getD_app hj2, getD_app hj2]; exact ⟨rfl, Int.le_refl _⟩
  · obtain rfl : j = p.rows.length := by omega
    rw [getD_end, getD_end]
    exact ⟨rfl, by simp only [goalW]; omega⟩
/-- A proof that refutes also refutes with further rows behind, by the same rows. -/
theorem refutes_more {p : ProgD} {l : List StepD} {more : List RowD} (h : wrongD p l = -1) (hv : validB ⟨p.vars, p.rows ++ more, p.gain⟩ = true) : wrongD ⟨p.vars, p.rows ++ more, p.gain⟩ l = -1 ∧ rowsU ⟨p.vars, p.rows ++ more, p.gain⟩ l = rowsU p l := by
  obtain ⟨c1, c2, c3, c4⟩ := checkV_ok h
  have hw : wrongD ⟨p.vars, p.rows ++ more, p.gain⟩ l = -1 := checkV_mk hv c2 c3 (wrongV_stronger ⟨by simp, fun j hj => by
    have e : (p.rows ++ more).getD j rowE = p.rows.getD j rowE := by rw [List.getD_eq_getElem?_getD, List.getD_eq_getElem?_getD, List.getElem?_append_left hj]
    simp only
    rw [e]; exact ⟨rfl, Int.le_refl _⟩⟩ _ _ _ c4)
  refine ⟨hw, ?_⟩
  unfold rowsU
  rw [if_pos hw, if_pos h]
  simp only [List.length_append]
  rw [List.range_add, List.filter_append, List.map_append]
  have : ((List.range more.length).map (p.rows.length + ·)).filter (usedV l l.length 0 fun _ => false) = [] := by
    rw [List.filter_eq_nil_iff]
    intro i hi hu
    obtain ⟨q, -, rfl⟩ := List.mem_map.1 hi
    rcases usedV_lt _ _ _ c4 _ hu with hf | hf
    · cases hf
    · omega
  rw [this]
  simp
end Go.Proofs.Ytblmpmapcdpaiaa
end

/- A further row, and rows left out: plain mathematics. -/
import Derived.Test.YtblmpmapcdpaiaaL7
namespace Go.Proofs.Ytblmpmapcdpaiaa
open Go.RowKit Lib

theorem chL_cut (W : List RowD) {x M : Nat} (h : x ≤ M) : ∃ rest, chL W M = chL W x ++ rest := by
  obtain ⟨d, rfl⟩ := Nat.exists_eq_add_of_le h
  clear h
  induction d with
  | zero => exact ⟨[], by simp⟩
  | succ d ih =>
    obtain ⟨r, hr⟩ := ih
    exact ⟨r ++ (if keepsB W (x + d) then [x + d] else []), by rw [← Nat.add_assoc, chL_succ, hr, List.append_assoc]⟩
theorem chL_at {W : List RowD} {x M : Nat} (h : x < M) (hk : keepsB W x = true) : (chL W M)[(chL W x).length]? = some x := by
  obtain ⟨r, hr⟩ := chL_cut W (show x + 1 ≤ M from h)
  rw [hr, chL_succ, if_pos hk, List.append_assoc, List.getElem?_append_right (Nat.le_refl _), Nat.sub_self]; rfl
theorem chL_below {W : List RowD} {x M i y : Nat} (h : x ≤ M) (hi : i < (chL W x).length) (hy : (chL W M)[i]? = some y) : y < x := by
  obtain ⟨r, hr⟩ := chL_cut W h
  rw [hr, List.getElem?_append_left hi] at hy
  exact (chL_mem.1 (List.mem_of_getElem? hy)).1
theorem chL_mono (W : List RowD) {x y : Nat} (h : x ≤ y) : (chL W x).length ≤ (chL W y).length := by
  obtain ⟨r, hr⟩ := chL_cut W h
  rw [hr, List.length_append]; omega
theorem chL_sorted (W : List RowD) {M i j x y : Nat} (hij : i < j) (hx : (chL W M)[i]? = some x) (hy : (chL W M)[j]? = some y) : x < y := by
  have hp : (chL W M).Pairwise (· < ·) := List.Pairwise.filter _ List.pairwise_lt_range
  obtain ⟨h1, rfl⟩ := List.getElem?_eq_some_iff.1 hx
  obtain ⟨h2, rfl⟩ := List.getElem?_eq_some_iff.1 hy
  exact List.pairwise_iff_getElem.1 hp i j h1 h2 hij
theorem chL_more (rows : List RowD) (e : RowD) (M : Nat) : chL (rows ++ [e]) M = (chL rows M).filter (keptB e) := by
  unfold chL
  rw [List.filter_filter]
  congr 1
  funext s
  unfold keepsB
  rw [List.all_append]
  simp [Bool.and_comm]
theorem filter_at {α : Type} {p : α → Bool} {l : List α} {k : Nat} {y : α} (h : l[k]? = some y) (hp : p y = true) : (l.filter p)[((l.take k).filter p).length]? = some y := by
  obtain ⟨hk, rfl⟩ := List.getElem?_eq_some_iff.1 h
  have e : l = l.take k ++ l[k] :: l.drop (k + 1) := by
    rw [← List.drop_eq_getElem_cons hk, List.take_append_drop]
  have e2 : l.filter p = (l.take k).filter p ++ l[k] :: (l.drop (k + 1)).filter p := by
    conv => lhs; rw [e]
    rw [List.filter_append, List.filter_cons, if_pos hp]
  rw [e2, List.getElem?_append_right (Nat.le_refl _), Nat.sub_self]; rfl
theorem filter_take {α : Type} {p : α → Bool} {l : List α} {k : Nat} {y : α} (h : l[k]? = some y) : ((l.take (k + 1)).filter p).length = ((l.take k).filter p).length + if p y then 1 else 0 := by
  rw [List.take_add_one, h, List.filter_append, List.length_append]
  cases hp : p y <;> simp [hp]
/-- The indices below n whose bits are on. -/
def outK (B : Nat) : Nat → List Int
  | 0 => []
  | k + 1 => outK B k ++ if bitOn B k then [(k : Int)] else []
theorem outK_len (B k : Nat) : (outK B k).length ≤ k := by
  induction k with
  | zero => exact Nat.le_refl _
  | succ k ih => simp only [outK, List.length_append]; split <;> simp <;> omega
theorem outK_lt (B : Nat) : ∀ k, ∀ y ∈ outK B k, 0 ≤ y ∧ y < (k : Int) := by
  intro k
  induction k with
  | zero => intro y h; cases h
  | succ k ih =>
    intro y h
    simp only [outK] at h
    rcases List.mem_append.1 h with h | h
    · have := ih y h; omega
    · split at h
      · simp at h; omega
      · cases h
theorem idxK_app (l m : List Int) (n : Int) : ∀ k, k ≤ l.length → idxK (l ++ m) n k = idxK l n k := by
  have hg : ∀ i, i < l.length → (l ++ m).getD i 0 = l.getD i 0 := fun i hi => by
    rw [List.getD_eq_getElem?_getD, List.getElem?_append_left hi, ← List.getD_eq_getElem?_getD]
  intro k
  induction k with
  | zero => intro _; rfl
  | succ k ih =>
    intro h
    simp only [idxK]
    rw [ih (by omega), hg k (by omega)]
    by_cases h0 : k = 0
    · subst h0; simp
    · rw [hg (k - 1) (by omega)]
theorem outK_idx (B n : Nat) : ∀ k, k ≤ n → idxK (outK B k) n (outK B k).length = true := by
  intro k
  induction k with
  | zero => intro _; rfl
  | succ k ih =>
    intro h
    simp only [outK]
    split
    · rw [List.length_append, List.length_singleton, idxK, idxK_app _ _ _ _ (Nat.le_refl _), ih (by omega)]
      have e : (outK B k ++ [(k : Int)]).getD (outK B k).length 0 = k := by
        rw [List.getD_eq_getElem?_getD, List.getElem?_append_right (Nat.le_refl _), Nat.sub_self]; rfl
      rw [e]
      have hin : inB (k : Int) 0 ((n : Int) - 1) = true := by unfold inB; simp; omega
      rw [hin]
      by_cases h0 : (outK B k).length = 0
      · simp [h0]
      · have e2 : (outK B k ++ [(k : Int)]).getD ((outK B k).length - 1) 0 < (k : Int) := by
          rw [List.getD_eq_getElem?_getD, List.getElem?_append_left (by omega), ← List.getD_eq_getElem?_getD]
          have hs := getD_some (0 : Int) (show (outK B k).length - 1 < (outK B k).length by omega)
          exact (outK_lt B k _ (List.mem_of_getElem? hs)).2
        simp only [e2, decide_true, Bool.or_true, Bool.and_self]
    · rw [List.append_nil]; exact ih (by omega)
theorem wK_sub (rows : List RowD) (l : List Int) : ∀ k, k ≤ rows.length → ∀ r ∈ wK rows l k, r ∈ rows := by
  intro k
  induction k with
  | zero => intro _ r h; cases h
  | succ k ih =>
    intro hk r h
    simp only [wK] at h
    rcases List.mem_append.1 h with h | h
    · exact ih (by omega) r h
    · split at h
      · cases h
      · simp at h; subst h
        have := getD_some dR (show k < rows.length by omega)
        rw [List.getD_eq_getElem?_getD] at this
        exact List.mem_of_getElem? this
theorem outK_mem (B k : Nat) : ∀ n, ((k : Int) ∈ outK B n) ↔ (k < n ∧ bitOn B k = true) := by
  intro n
  induction n with
  | zero => simp [outK]
  | succ n ih =>
    simp only [outK, List.mem_append, ih]
    by_cases hb : bitOn B n = true
    · rw [if_pos hb]
      simp only [List.mem_singleton]
      constructor
      · rintro (⟨h1, h2⟩ | h)
        · exact ⟨by omega, h2⟩
        · obtain rfl : k = n := by omega
          exact ⟨by omega, hb⟩
      · rintro ⟨h1, h2⟩
        rcases Nat.lt_or_ge k n with h | h
        · exact .inl ⟨h, h2⟩
        · exact .inr (by omega)
    · rw [if_neg hb]
      constructor
      · rintro (⟨h1, h2⟩ | h)
        · exact ⟨by omega, h2⟩
        · cases h
      · rintro ⟨h1, h2⟩
        rcases Nat.lt_or_ge k n with h | h
        · exact .inl ⟨h, h2⟩
        · obtain rfl : k = n := by omega
          exact absurd h2 hb
theorem wK_out (rows : List RowD) (B n : Nat) : ∀ k, k ≤ n → (wK rows (outK B n) k).length + (outK B k).length = k := by
  intro k
  induction k with
  | zero => intro _; rfl
  | succ k ih =>
    intro hk
    have := ih (by omega)
    simp only [wK, outK, List.length_append]
    have hm := outK_mem B k n
    by_cases hb : bitOn B k = true
    · rw [if_pos (by simpa using hm.2 ⟨by omega, hb⟩), if_pos hb]; simp; omega
    · rw [if_neg (by simp only [decide_eq_true_eq]; intro h; exact hb (hm.1 h).2), if_neg hb]; simp; omega
theorem keepsB_sub {W rows : List RowD} (h : ∀ r ∈ W, r ∈ rows) {s : Nat} (hs : keepsB rows s = true) : keepsB W s = true := by
  unfold keepsB at *
  rw [List.all_eq_true] at *
  exact fun r hr => hs r (h r hr)
theorem valid_sub {vars : Int} {W rows : List RowD} {gn : List Int} (hl : W.length ≤ 300) (h : ∀ r ∈ W, rightB r vars = true) (hv : validB ⟨vars, rows, gn⟩ = true) : validB ⟨vars, W, gn⟩ = true := by
  obtain ⟨v1, v2, v3, v4, v5, v6⟩ := validB_true hv
  unfold validB
  simp only at v1 v2 v5 v6
  have : (W.all fun r => rightB r vars) = true := List.all_eq_true.2 h
  simp only [this, v6]
  simp; omega
theorem valid_rows {vars : Int} {rows : List RowD} {gn : List Int} (hv : validB ⟨vars, rows, gn⟩ = true) : ∀ r ∈ rows, rightB r vars = true := by
  obtain ⟨v1, v2, v3, v4, v5, v6⟩ := validB_true hv
  exact v4
/-- The further row: the programs, and what Solve and All say of them. -/
theorem more_law (m : Nat) (rows : List RowD) (gn : List Int) (e : RowD) (B : Nat) (hv : validB ⟨(m : Int), rows, gn⟩ = true) (hn : rows.length ≤ 8) (he : rightB e (m : Int) = true) :
    errV ⟨m, rows, gn⟩ = 0 ∧ errV ⟨m, rows ++ [e], gn⟩ = 0 ∧ errV ⟨m, wK rows (outK B rows.length) rows.length, gn⟩ = 0 ∧
      withoutE ⟨m, rows, gn⟩ (outK B rows.length) = 0 ∧ withoutV ⟨m, rows, gn⟩ (outK B rows.length) = ⟨m, wK rows (outK B rows.length) rows.length, gn⟩ ∧
      allV ⟨m, rows, gn⟩ = intL (chL rows (2 ^ m)) ∧ allV ⟨m, rows ++ [e], gn⟩ = intL ((chL rows (2 ^ m)).filter (keptB e)) ∧ allV ⟨m, wK rows (outK B rows.length) rows.length, gn⟩ = intL (chL (wK rows (outK B rows.length) rows.length) (2 ^ m)) ∧
      (∀ s, keepsB rows s = true → keepsB (wK rows (outK B rows.length) rows.length) s = true) ∧ (wK rows (outK B rows.length) rows.length).length + (outK B rows.length).length = rows.length ∧
      (∀ s : Nat, s < 2 ^ m → sumV e s = ch e.coef s ∧ -1000000000000 ≤ ch e.coef s ∧ ch e.coef s ≤ 1000000000000) ∧
      ∃ f1 s1 g1 p1 f2 s2 g2 p2, solveV ⟨m, rows, gn⟩ = ⟨f1, s1, g1, p1⟩ ∧ solveV ⟨m, rows ++ [e], gn⟩ = ⟨f2, s2, g2, p2⟩ ∧ (f2 = true → f1 = true ∧ g2 ≤ g1) := by
  have hv2 : validB ⟨(m : Int), rows ++ [e], gn⟩ = true := valid_sub (by simp; omega) (fun r hr => by
    rcases List.mem_append.1 hr with h | h
    · exact valid_rows hv r h
    · simp at h; subst h; exact he) hv
  have hsub := wK_sub rows (outK B rows.length) rows.length (Nat.le_refl _)
  have hlen := wK_out rows B rows.length rows.length (Nat.le_refl _)
  have hv3 : validB ⟨(m : Int), wK rows (outK B rows.length) rows.length, gn⟩ = true := valid_sub (by omega) (fun r hr => valid_rows hv r (hsub r hr)) hv
  have hok : withoutOK ⟨m, rows, gn⟩ (outK B rows.length) = true := by
    unfold withoutOK
    simp only [outK_idx B rows.length rows.length (Nat.le_refl _), hv, Bool.and_self]
  obtain ⟨w1, w2⟩ := with_good hok
  have hall : ∀ R, validB ⟨(m : Int), R, gn⟩ = true → allV ⟨m, R, gn⟩ = intL (chL R (2 ^ m)) := fun R h => by
    unfold allV; rw [if_pos h]; simp only [Int.toNat_natCast]
  have herr : ∀ R, validB ⟨(m : Int), R, gn⟩ = true → errV ⟨m, R, gn⟩ = 0 := fun R h => by unfold errV; rw [if_pos h]
  have hbm : ∀ R, allS ⟨(m : Int), R, gn⟩ = chL R (2 ^ m) := fun R => by unfold allS chL; simp only [Int.toNat_natCast]
  refine ⟨herr _ hv, herr _ hv2, herr _ hv3, w1, w2, hall _ hv, by rw [hall _ hv2, chL_more], hall _ hv3, fun s hs => keepsB_sub hsub hs, hlen, fun s hs => ?_, ?_⟩
  · have hr : e ∈ (⟨(m : Int), rows ++ [e], gn⟩ : ProgD).rows := List.mem_append.2 (.inr (by simp))
    rw [sumV_row hv2 hr (s := s) (by simpa using hs)]
    obtain ⟨-, q2, q3, -⟩ := validB_row hv2 hr
    exact ⟨rfl, ch_bd q3 (by omega) s⟩
  · unfold solveV
    rw [hv, hv2, if_pos rfl, if_pos rfl]
    have b1 := best_of ⟨m, rows, gn⟩
    have b2 := best_of ⟨m, rows ++ [e], gn⟩
    rw [hbm] at b1 b2
    rw [chL_more] at b2
    cases h2 : bestS ⟨m, rows ++ [e], gn⟩ with
    | none =>
      cases h1 : bestS ⟨m, rows, gn⟩ with
      | none => exact ⟨_, _, _, _, _, _, _, _, rfl, rfl, fun h => by cases h⟩
      | some x => exact ⟨_, _, _, _, _, _, _, _, rfl, rfl, fun h => by cases h⟩
    | some y =>
      rw [h2] at b2
      obtain ⟨c1, c2, -, -⟩ := b2
      have c1 := (List.mem_filter.1 c1).1
      cases h1 : bestS ⟨m, rows, gn⟩ with
      | none =>
        rw [h1] at b1
        have b1 : chL rows (2 ^ m) = [] := b1
        rw [b1] at c1; cases c1
      | some x =>
        rw [h1] at b1
        obtain ⟨d1, d2, d3, -⟩ := b1
        exact ⟨_, _, _, _, _, _, _, _, rfl, rfl, fun _ => ⟨rfl, by have := d3 _ c1; simp only at c2 this ⊢; omega⟩⟩
end Go.Proofs.Ytblmpmapcdpaiaa

/- Which pending writes survive: sorted, without doubles, in bounds, is the same as asked one by one. -/
import Derived.Test.YtfmdpmcniccioaaD9
namespace Go.Proofs.Ytfmdpmcniccioaa
open Go.RowKit Go.Shelf Lib

theorem eq_of_strict : ∀ {l m : List Int}, l.Pairwise (· < ·) → m.Pairwise (· < ·) → (∀ x, x ∈ l ↔ x ∈ m) → l = m := by
  intro l
  induction l with
  | nil =>
    intro m _ _ h
    cases m with
    | nil => rfl
    | cons y m => exact absurd ((h y).2 (by simp)) (by simp)
  | cons x l ih =>
    intro m hl hm h
    cases m with
    | nil => exact absurd ((h x).1 (by simp)) (by simp)
    | cons y m =>
      obtain ⟨h1, h2⟩ := List.pairwise_cons.1 hl
      obtain ⟨h3, h4⟩ := List.pairwise_cons.1 hm
      have hxy : x = y := by
        have a := (h x).1 (by simp)
        have b := (h y).2 (by simp)
        simp only [List.mem_cons] at a b
        rcases a with a | a
        · exact a
        · rcases b with b | b
          · exact b.symm
          · have := h3 x a; have := h1 y b; omega
      subst hxy
      congr 1
      refine ih h2 h4 (fun z => ⟨fun hz => ?_, fun hz => ?_⟩)
      · have a := (h z).1 (by simp [hz])
        simp only [List.mem_cons] at a
        rcases a with rfl | a
        · have := h1 z hz; omega
        · exact a
      · have a := (h z).2 (by simp [hz])
        simp only [List.mem_cons] at a
        rcases a with rfl | a
        · have := h3 z hz; omega
        · exact a
theorem sortI_pair (l : List Int) : (sortI l).Pairwise (· ≤ ·) := by
  have := List.pairwise_mergeSort (le := fun x y : Int => decide (x ≤ y)) (fun a b c h1 h2 => by simp at *; omega) (fun a b => by simp; omega) l
  exact this.imp (fun h => by simpa using h)
theorem sortI_mem (l : List Int) (x : Int) : x ∈ sortI l ↔ x ∈ l := by unfold sortI; exact List.mem_mergeSort
theorem compactUp_spec (zs : List Int) (hs : zs.Pairwise (· ≤ ·)) : ∀ m, m ≤ zs.length → (Lib.compactUpTo zs.toArray m).Pairwise (· < ·) ∧ (∀ x, x ∈ Lib.compactUpTo zs.toArray m ↔ ∃ j, j < m ∧ zs.getD j 0 = x) := by
  have hle : ∀ i j, i ≤ j → j < zs.length → zs.getD i 0 ≤ zs.getD j 0 := fun i j hij hj => by
    rcases Nat.lt_or_ge i j with h | h
    · have := List.pairwise_iff_getElem.1 hs i j (by omega) hj h
      rw [List.getD_eq_getElem?_getD, List.getD_eq_getElem?_getD, List.getElem?_eq_getElem hj, List.getElem?_eq_getElem (by omega)]
      exact this
    · obtain rfl : i = j := by omega
      exact Int.le_refl _
  have hget : ∀ j, j < zs.length → zs.toArray[j]! = zs.getD j 0 := fun j hj => by
    rw [getElem!_pos _ j (by simpa using hj)]
    rw [List.getD_eq_getElem?_getD, List.getElem?_eq_getElem hj]; rfl
  intro m
  induction m with
  | zero => intro _; exact ⟨by simp [Lib.compactUpTo], by simp [Lib.compactUpTo]⟩
  | succ m ih =>
    intro hm
    obtain ⟨i1, i2⟩ := ih (by omega)
    rw [Lib.compactUpTo_succ]
    by_cases h0 : m = 0
    · subst h0
      rw [Lib.keeps_lt_one _ 0 (by omega), if_pos rfl, hget 0 (by omega)]
      refine ⟨by simp [Lib.compactUpTo], fun x => ?_⟩
      simp [Lib.compactUpTo]
      exact eq_comm
    · have hprev : zs.getD (m - 1) 0 ≤ zs.getD m 0 := hle _ _ (by omega) (by omega)
      have e1 := hget m (by omega)
      have e2 := hget (m - 1) (by omega)
      by_cases hk : zs.getD m 0 = zs.getD (m - 1) 0
      · rw [Lib.keeps_neg (by omega) (by rw [e1, e2]; exact hk)]
        rw [if_neg (by decide), List.append_nil]
        refine ⟨i1, fun x => ?_⟩
        rw [i2]
        constructor
        · rintro ⟨j, hj, h⟩; exact ⟨j, by omega, h⟩
        · rintro ⟨j, hj, h⟩
          rcases Nat.lt_or_ge j m with h3 | h3
          · exact ⟨j, h3, h⟩
          · obtain rfl : j = m := by omega
            exact ⟨j - 1, by omega, by rw [← hk]; exact h⟩
      · rw [Lib.keeps_pos (by rw [e1, e2]; exact hk), if_pos rfl, e1]
        refine ⟨?_, fun x => ?_⟩
        · rw [List.pairwise_append]
          refine ⟨i1, by simp, fun a ha b hb => ?_⟩
          simp only [List.mem_singleton] at hb
          subst hb
          obtain ⟨j, hj, rfl⟩ := (i2 a).1 ha
          have := hle j (m - 1) (by omega) (by omega)
          omega
        · simp only [List.mem_append, List.mem_singleton, i2]
          constructor
          · rintro (⟨j, hj, h⟩ | h)
            · exact ⟨j, by omega, h⟩
            · exact ⟨m, by omega, h.symm⟩
          · rintro ⟨j, hj, h⟩
            rcases Nat.lt_or_ge j m with h3 | h3
            · exact .inl ⟨j, h3, h⟩
            · obtain rfl : j = m := by omega
              exact .inr h.symm
/-- The order in which the survivors are applied. -/
def ordI (m : Nat) (kl : List Int) : List Int := inL m (Lib.compact (sortI kl))
theorem ordI_eq (m : Nat) (kl : List Int) : ordI m kl = (keptI m kl).map fun i : Nat => (i : Int) := by
  have hs := compactUp_spec (sortI kl) (sortI_pair kl) (sortI kl).length (Nat.le_refl _)
  unfold ordI Lib.compact
  refine eq_of_strict ?_ ?_ (fun x => ?_)
  · unfold inL; exact hs.1.filter _
  · unfold keptI
    rw [List.pairwise_map]
    exact (List.pairwise_lt_range.filter _).imp (fun h => by omega)
  · unfold inL keptI
    simp only [List.mem_filter, List.mem_map, List.mem_range, hs.2, decide_eq_true_eq]
    have hm : (∃ j, j < (sortI kl).length ∧ (sortI kl).getD j 0 = x) ↔ x ∈ kl := by
      rw [← sortI_mem]
      constructor
      · rintro ⟨j, hj, rfl⟩
        rw [List.getD_eq_getElem?_getD, List.getElem?_eq_getElem hj]
        exact List.getElem_mem hj
      · intro h
        obtain ⟨j, hj, rfl⟩ := List.getElem_of_mem h
        exact ⟨j, hj, by rw [List.getD_eq_getElem?_getD, List.getElem?_eq_getElem hj]; rfl⟩
    rw [hm]
    have ho : (!outB m x) = true ↔ 0 ≤ x ∧ x < m := by unfold outB; simp
    rw [ho]
    constructor
    · rintro ⟨h1, h2, h3⟩
      exact ⟨x.toNat, ⟨by omega, by rw [Int.toNat_of_nonneg h2]; exact h1⟩, by omega⟩
    · rintro ⟨i, ⟨h1, h2⟩, rfl⟩
      exact ⟨h2, by omega, by omega⟩
theorem lastTorn_len (torn : Int) : ∀ l : List WrD, (lastTorn torn l).length = l.length := by
  intro l
  induction l with
  | nil => rfl
  | cons x l ih =>
    cases l with
    | nil => rfl
    | cons y l => simp only [lastTorn, List.length_cons] at ih ⊢; omega
theorem lastTorn_get (torn : Int) : ∀ (l : List WrD) (k : Nat) (w : WrD), l[k]? = some w → (lastTorn torn l)[k]? = some (if k + 1 = l.length then tornW torn w else w) := by
  intro l
  induction l with
  | nil => intro k w h; simp at h
  | cons x l ih =>
    intro k w h
    cases l with
    | nil =>
      cases k with
      | zero => simp at h; subst h; simp [lastTorn]
      | succ k => simp at h
    | cons y l =>
      cases k with
      | zero => simp at h; subst h; simp [lastTorn]
      | succ k =>
        have := ih k w (by simpa using h)
        simp only [lastTorn, List.getElem?_cons_succ]
        rw [this]
        congr 1
        simp
/-- The durable content when k of the survivors have been applied. -/
def durK (D : DiskD) (kl : List Int) (torn : Int) (k : Nat) : List UInt8 := ((lastTorn torn (keptW D kl)).take k).foldl ontoW D.dur
theorem durK_zero (D : DiskD) (kl : List Int) (torn : Int) : durK D kl torn 0 = D.dur := rfl
theorem keptW_get {D : DiskD} {kl : List Int} {k : Nat} {i : Nat} (h : (keptI D.pend.length kl)[k]? = some i) : (keptW D kl)[k]? = some (D.pend.getD i dW) ∧ i < D.pend.length := by
  refine ⟨by unfold keptW; rw [List.getElem?_map, h]; rfl, ?_⟩
  have := List.mem_of_getElem? h
  unfold keptI at this
  simp only [List.mem_filter, List.mem_range] at this
  exact this.1
theorem keptW_len (D : DiskD) (kl : List Int) : (keptW D kl).length = (keptI D.pend.length kl).length := by unfold keptW; simp
theorem durK_succ {D : DiskD} {kl : List Int} {torn : Int} {k i : Nat} (h : (keptI D.pend.length kl)[k]? = some i) :
    durK D kl torn (k + 1) = ontoW (durK D kl torn k) (if k + 1 = (keptI D.pend.length kl).length then tornW torn (D.pend.getD i dW) else D.pend.getD i dW) := by
  have h1 := lastTorn_get torn _ k _ (keptW_get h).1
  rw [keptW_len] at h1
  unfold durK
  rw [List.take_add_one, h1, List.foldl_append]; rfl
theorem durK_all (D : DiskD) (kl : List Int) (torn : Int) : durK D kl torn (keptI D.pend.length kl).length = crashB D kl torn := by
  unfold durK crashB
  rw [List.take_of_length_le (by rw [lastTorn_len, keptW_len]; exact Nat.le_refl _)]
theorem durK_len {n : Nat} {D : DiskD} (h : Inv n D) (kl : List Int) (torn : Int) (k : Nat) : (durK D kl torn k).length = n :=
  foldl_len _ _ h.dur (fun w hw => torn_fit (kept_fit h kl) w (List.mem_of_mem_take hw))
theorem keptI_len (m : Nat) (kl : List Int) : (keptI m kl).length ≤ m := by
  unfold keptI; exact Nat.le_trans (List.length_filter_le _ _) (by simp)
end Go.Proofs.Ytfmdpmcniccioaa

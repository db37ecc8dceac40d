/- Plain: passes and options that integers determine. -/
import Derived.Test.YtmajkagmcdlncaaPLoss
namespace L18

def pickV (c n : Int) : Int := (if c < 0 then -(c + 1) else c).tmod n
theorem pickV_bd (c : Int) {n : Int} (hn : 0 < n) : 0 ≤ pickV c n ∧ pickV c n < n := by
  unfold pickV
  have h : (0 : Int) ≤ (if c < 0 then -(c + 1) else c) := by split <;> omega
  generalize (if c < 0 then -(c + 1) else c) = d at h
  rw [Int.tmod_eq_emod_of_nonneg h]
  exact ⟨Int.emod_nonneg _ (by omega), Int.emod_lt_of_pos _ hn⟩
abbrev X3 := Int × Int × Int
def x0 : X3 := (0, 0, 0)
/-- Where the k-th pass begins (the first is number 1). -/
def atK (x : List X3) : Nat → Int
  | 0 => 5
  | k + 1 => atK x k + 1 + pickV (x.getD k x0).1 700
def passK (x : List X3) (k : Nat) : Pass :=
  let c := x.getD k x0
  let a := atK x (k + 1)
  ⟨pickV c.2.1 3, pickV (c.2.1.tdiv 3) 3, a + 2, a + 8 + pickV c.2.2 20 - 2, a, a + 8 + pickV c.2.2 20⟩
def passesK (x : List X3) (m : Nat) : List Pass := (List.range m).map (passK x)
theorem passesK_succ (x : List X3) (m : Nat) : passesK x (m + 1) = passesK x m ++ [passK x m] := by unfold passesK; rw [List.range_succ, List.map_append]; rfl
theorem passesK_len (x : List X3) (m : Nat) : (passesK x m).length = m := by simp [passesK]
theorem passesK_get {x : List X3} {m i : Nat} (h : i < m) : (passesK x m).getD i noPass = passK x i := by
  unfold passesK
  rw [List.getD_eq_getElem?_getD, List.getElem?_map, List.getElem?_range h]; rfl
def passesG (x : List X3) : List Pass := passesK x (min x.length 12)
theorem atK_bd (x : List X3) : ∀ k, 5 ≤ atK x k ∧ atK x k ≤ 5 + 700 * k
  | 0 => ⟨Int.le_refl _, by simp [atK]⟩
  | k + 1 => by
    obtain ⟨h1, h2⟩ := atK_bd x k
    have := pickV_bd (x.getD k x0).1 (n := 700) (by decide)
    rw [atK]; omega
theorem atK_lt (x : List X3) (k : Nat) : atK x k < atK x (k + 1) := by
  have := pickV_bd (x.getD k x0).1 (n := 700) (by decide)
  rw [atK]; omega
theorem passK_ok (x : List X3) {k : Nat} (hk : k < 12) : passOK (passK x k) := by
  obtain ⟨h1, h2⟩ := atK_bd x (k + 1)
  have p1 := pickV_bd (x.getD k x0).2.1 (n := 3) (by decide)
  have p2 := pickV_bd ((x.getD k x0).2.1.tdiv 3) (n := 3) (by decide)
  have p3 := pickV_bd (x.getD k x0).2.2 (n := 20) (by decide)
  unfold passOK passK
  simp only
  refine ⟨by omega, by omega, by omega, .inr ?_⟩
  omega
theorem properG (x : List X3) : properB (passesG x) = true := by
  unfold passesG
  have hm : min x.length 12 ≤ 12 := Nat.min_le_right _ _
  generalize min x.length 12 = m at hm
  unfold properB
  rw [Bool.and_eq_true, Bool.and_eq_true, decide_eq_true_eq, decide_eq_true_eq, decide_eq_true_eq, passesK_len]
  refine ⟨by omega, fun i hi => ?_, fun i hi h0 => ?_⟩
  · rw [passesK_get hi]
    exact decide_eq_true (passK_ok x (by omega))
  · rw [passesK_get hi, passesK_get (by omega)]
    obtain ⟨j, rfl⟩ : ∃ j, i = j + 1 := ⟨i - 1, by omega⟩
    rw [Nat.add_sub_cancel]
    have := atK_lt x (j + 1)
    unfold beforeB passK
    simp only
    rw [if_pos (by omega)]
    exact decide_eq_false (by omega)
/-- A pass of theirs is sure for some minutes. -/
theorem sureG {x : List X3} {p : Int} (h0 : 0 ≤ p) (h1 : p < (passesG x).length) : 0 ≤ (passAt (passesG x) p).sf ∧ (passAt (passesG x) p).sf < (passAt (passesG x) p).su ∧ (passAt (passesG x) p).su ≤ 10000 := by
  unfold passesG at h1 ⊢
  have hm : min x.length 12 ≤ 12 := Nat.min_le_right _ _
  generalize min x.length 12 = m at hm h1
  rw [passesK_len] at h1
  unfold passAt
  rw [passesK_get (show p.toNat < m by omega)]
  obtain ⟨h3, h2⟩ := atK_bd x (p.toNat + 1)
  have p3 := pickV_bd (x.getD p.toNat x0).2.2 (n := 20) (by decide)
  unfold passK
  simp only
  omega
/-! ### Options -/
def optStep (l : List Pass) (st : List Slot × Int) (c : Int) : List Slot × Int :=
  if 6 ≤ st.1.length then st else
    if max (passAt l (pickV c l.length)).sf st.2 + 1 ≤ (passAt l (pickV c l.length)).su then
      (st.1 ++ [⟨pickV c l.length, max (passAt l (pickV c l.length)).sf st.2, max (passAt l (pickV c l.length)).sf st.2 + 1⟩], max (passAt l (pickV c l.length)).sf st.2 + 1)
    else st
def optK (l : List Pass) (x : List Int) (k : Nat) : List Slot × Int := (x.take k).foldl (optStep l) ([], 0)
theorem optK_succ {l : List Pass} {x : List Int} {k : Nat} (h : k < x.length) : optK l x (k + 1) = optStep l (optK l x k) (x.getD k 0) := by
  unfold optK
  rw [List.take_succ_eq_append_getElem h, List.foldl_append, List.getD_eq_getElem?_getD, List.getElem?_eq_getElem h]; rfl
/-- Behind six slots nothing more comes. -/
theorem optK_full {l : List Pass} {x : List Int} {k : Nat} (h : 6 ≤ (optK l x k).1.length) : ∀ m, k ≤ m → m ≤ x.length → optK l x m = optK l x k := by
  intro m hk
  induction m with
  | zero => intro _; obtain rfl : k = 0 := by omega
            rfl
  | succ m ih =>
    intro hm
    by_cases e : k = m + 1
    · rw [e]
    · have := ih (by omega) (by omega)
      rw [optK_succ (by omega), this]
      unfold optStep
      rw [if_pos h]
def optV (l : List Pass) (x : List Int) : List Slot :=
  if l = [] then [] else
    if (optK l x x.length).1 = [] then [⟨0, (passAt l 0).sf, (passAt l 0).sf + 1⟩] else (optK l x x.length).1
def OptOK (l : List Pass) (st : List Slot × Int) : Prop := (∀ i, i < st.1.length → slotOK l st.1 i) ∧ st.1.length ≤ 6 ∧ st.2 = endAt st.1 st.1.length
theorem getD_app {α : Type} {l m : List α} {i : Nat} {d : α} (h : i < l.length) : (l ++ m).getD i d = l.getD i d := by
  rw [List.getD_eq_getElem?_getD, List.getElem?_append_left h, List.getD_eq_getElem?_getD]
theorem getD_last {α : Type} {l : List α} {x d : α} : (l ++ [x]).getD l.length d = x := by
  rw [List.getD_eq_getElem?_getD, List.getElem?_append_right (Nat.le_refl _), Nat.sub_self]; rfl
theorem endAt_app {o m : List Slot} {i : Nat} (h : i ≤ o.length) : endAt (o ++ m) i = endAt o i := by
  unfold endAt
  split
  · rfl
  · rw [getD_app (by omega)]
theorem slotOK_app {l : List Pass} {o m : List Slot} {i : Nat} (h : i < o.length) : slotOK l (o ++ m) i ↔ slotOK l o i := by
  unfold slotOK
  rw [getD_app h, endAt_app (by omega)]
theorem slots_snoc {l : List Pass} {o : List Slot} {s : Slot} (h : ∀ i, i < o.length → slotOK l o i) (hs : (0 ≤ s.pass ∧ s.pass < l.length) ∧ (max (endAt o o.length) (passAt l s.pass).sf ≤ s.fr ∧ s.fr < s.to ∧ s.to ≤ (passAt l s.pass).su)) : ∀ i, i < (o ++ [s]).length → slotOK l (o ++ [s]) i := by
  intro i hi
  rw [List.length_append, List.length_singleton] at hi
  by_cases e : i < o.length
  · exact (slotOK_app e).2 (h i e)
  · obtain rfl : i = o.length := by omega
    unfold slotOK
    rw [getD_last, endAt_app (Nat.le_refl _)]
    exact hs
theorem endAt_last (o : List Slot) (s : Slot) : endAt (o ++ [s]) (o ++ [s]).length = s.to := by
  unfold endAt
  rw [List.length_append, List.length_singleton, if_neg (by omega), Nat.add_sub_cancel, getD_last]
theorem optStep_ok {l : List Pass} (hl : 0 < l.length) {st : List Slot × Int} (h : OptOK l st) (c : Int) : OptOK l (optStep l st c) := by
  have hp := pickV_bd c (n := (l.length : Int)) (by omega)
  unfold optStep
  generalize pickV c l.length = p at hp
  split
  · exact h
  · rename_i h6
    split
    · rename_i hf
      refine ⟨slots_snoc h.1 ⟨hp, ?_, ?_, hf⟩, by simp; omega, by rw [endAt_last]⟩
      · rw [← h.2.2, Int.max_comm]; exact Int.le_refl _
      · simp only; omega
    · exact h
theorem optK_ok {l : List Pass} (hl : 0 < l.length) (x : List Int) : ∀ k, k ≤ x.length → OptOK l (optK l x k)
  | 0, _ => ⟨fun i hi => by simp [optK] at hi, by simp [optK], rfl⟩
  | k + 1, h => by rw [optK_succ (by omega)]; exact optStep_ok hl (optK_ok hl x k (by omega)) _
/-- An option that integers determine is valid. -/
theorem optV_ok {x : List X3} (y : List Int) (hl : passesG x ≠ []) : validB (passesG x) (optV (passesG x) y) = true ∧ optV (passesG x) y ≠ [] ∧ (optV (passesG x) y).length ≤ 6 := by
  have hpos : 0 < (passesG x).length := List.length_pos_iff.2 hl
  have h := optK_ok hpos y y.length (Nat.le_refl _)
  have hpr := properG x
  have hs0 := sureG (x := x) (p := 0) (Int.le_refl _) (by omega)
  unfold optV
  rw [if_neg hl]
  generalize passesG x = l at *
  split
  · refine ⟨?_, by simp, by simp⟩
    unfold validB slotsB
    rw [hpr]
    simp only [List.length_singleton, Bool.and_eq_true, decide_eq_true_eq]
    refine ⟨by decide, by decide, trivial, ?_⟩
    have := slots_snoc (l := l) (o := []) (s := ⟨0, (passAt l 0).sf, (passAt l 0).sf + 1⟩) (fun i hi => by simp at hi) ⟨⟨Int.le_refl _, by simpa using hpos⟩, by simp [endAt]; omega, by simp only; omega, by simp only; omega⟩
    simpa using this
  · rename_i hne
    refine ⟨?_, hne, h.2.1⟩
    unfold validB slotsB
    rw [hpr]
    have := List.length_pos_iff.2 hne
    simp only [Bool.and_eq_true, decide_eq_true_eq]
    exact ⟨by omega, h.2.1, trivial, h.1⟩
/-- With a further slot. -/
theorem longer_ok {l : List Pass} {o : List Slot} {s : Slot} (h : validB l o = true) (hp : 0 ≤ s.pass ∧ s.pass < l.length) (hf : s.fr = max (passAt l s.pass).sf (endAt o o.length)) (ht : s.to = s.fr + 1) :
    validB l (o ++ [s]) = (decide (o.length + 1 ≤ 6) && decide (s.fr < (passAt l s.pass).su)) := by
  unfold validB slotsB at h ⊢
  simp only [Bool.and_eq_true, decide_eq_true_eq] at h
  obtain ⟨h1, h2, h3, h4⟩ := h
  rw [h3, List.length_append, List.length_singleton]
  have e1 : decide (1 ≤ o.length + 1) = true := decide_eq_true (by omega)
  rw [e1, Bool.true_and, Bool.true_and]
  congr 1
  by_cases hs : s.fr < (passAt l s.pass).su
  · rw [decide_eq_true hs, decide_eq_true_eq]
    exact fun i hi => slots_snoc h4 ⟨hp, by rw [hf, Int.max_comm]; exact Int.le_refl _, by omega, by omega⟩ i (by simpa using hi)
  · rw [decide_eq_false hs]
    refine decide_eq_false fun hc => ?_
    have := hc o.length (by omega)
    unfold slotOK at this
    rw [getD_last] at this
    have := this.2.2.2
    omega
end L18

/- What Refutes of the reference answers about plain proofs: complete for Solve's proof, sound for any. -/
import Derived.Test.YtblmpmapcdpaiaaB7
namespace Go.Proofs.Ytblmpmapcdpaiaa
open Go.RowKit Lib

def lsd (c dec : List Int) : Nat → Int
  | 0 => 0
  | k + 1 => lsd c dec k + if dec.getD k 0 = 1 ∨ (dec.getD k 0 < 0 ∧ c.getD k 0 < 0) then c.getD k 0 else 0
def leafB (r : RowD) (dec : List Int) : Bool := decide (r.most < lsd r.coef dec dec.length)
def refB (rows : List RowD) (l : List StepD) : Nat → Nat → List Int → Bool
  | 0, _, _ => false
  | f + 1, i, dec =>
    match l[i]? with
    | none => false
    | some s =>
      match s.wts with
      | [w] => leafB (rows.getD w.row.toNat row0) dec
      | _ => if 0 ≤ dec.getD s.var.toNat 0 then false else refB rows l f s.no.toNat (dec.set s.var.toNat 0) && refB rows l f s.yes.toNat (dec.set s.var.toNat 1)
/-- A step of a plain proof. -/
inductive PlainS (n R i : Nat) : StepD → Prop
  | leaf (j : Nat) (h : j < R) : PlainS n R i ⟨-1, 0, 0, [⟨j, 1⟩]⟩
  | case (d no yes : Nat) (h : d < n) (h1 : i < no) (h2 : i < yes) : PlainS n R i ⟨d, no, yes, []⟩
def decP (n d set : Nat) : List Int := (List.range n).map fun k => if k < d then (if bitOn set k then 1 else 0) else -1
theorem decP_len (n d set : Nat) : (decP n d set).length = n := by simp [decP]
theorem decP_get {n d set k : Nat} (h : k < n) : (decP n d set).getD k 0 = if k < d then (if bitOn set k then 1 else 0) else -1 := by
  rw [List.getD_eq_getElem?_getD, decP, List.getElem?_map, List.getElem?_range h]; rfl
theorem bitOn_low {set d : Nat} (h : set < 2 ^ d) {k : Nat} (hk : d ≤ k) : bitOn set k = false := by
  unfold bitOn
  have : set < 2 ^ k := Nat.lt_of_lt_of_le h (Nat.pow_le_pow_right (by omega) hk)
  rw [Nat.div_eq_of_lt this]; rfl
theorem bitOn_add {set d : Nat} (h : set < 2 ^ d) (k : Nat) (hk : k ≤ d) : bitOn (set + 2 ^ d) k = if k = d then true else bitOn set k := by
  rw [bitOn_test, bitOn_test, Nat.add_comm]
  by_cases e : k = d
  · subst e
    rw [if_pos rfl, Nat.testBit_two_pow_add_eq, Nat.testBit_lt_two_pow h]; rfl
  · rw [if_neg e, Nat.testBit_two_pow_add_gt (by omega)]
theorem decP_set0 {n d set : Nat} (h : set < 2 ^ d) (hd : d < n) : (decP n d set).set d 0 = decP n (d + 1) set := by
  apply List.ext_getElem?
  intro i
  rw [List.getElem?_set, decP_len]
  by_cases hi : i < n
  · simp only [decP, List.getElem?_map, List.getElem?_range hi, Option.map_some]
    by_cases e : d = i
    · subst e; simp [hd, bitOn_low h (Nat.le_refl _)]
    · rw [if_neg e]
      by_cases h2 : i < d
      · simp [h2, Nat.lt_succ_of_lt h2]
      · simp [h2, show ¬ i < d + 1 by omega]
  · rw [if_neg (by omega)]
    simp only [decP, List.getElem?_map]
    rw [List.getElem?_eq_none (by simp; omega)]; rfl
theorem decP_set1 {n d set : Nat} (h : set < 2 ^ d) (hd : d < n) : (decP n d set).set d 1 = decP n (d + 1) (set + 2 ^ d) := by
  apply List.ext_getElem?
  intro i
  rw [List.getElem?_set, decP_len]
  by_cases hi : i < n
  · simp only [decP, List.getElem?_map, List.getElem?_range hi, Option.map_some]
    by_cases e : d = i
    · subst e; simp [hd, bitOn_add h d (Nat.le_refl _)]
    · rw [if_neg e]
      by_cases h2 : i < d
      · simp [h2, Nat.lt_succ_of_lt h2, bitOn_add h i (by omega), Ne.symm e]
      · simp [h2, show ¬ i < d + 1 by omega]
  · rw [if_neg (by omega)]
    simp only [decP, List.getElem?_map]
    rw [List.getElem?_eq_none (by simp; omega)]; rfl
theorem lsd_decP (c : List Int) (n d set : Nat) : ∀ k, k ≤ n → lsd c (decP n d set) k = lsK c d set k := by
  intro k
  induction k with
  | zero => intro _; rfl
  | succ k ih =>
    intro h
    simp only [lsd, lsK]
    rw [ih (by omega), decP_get (by omega)]
    congr 1
    by_cases hk : k < d
    · simp only [hk, if_true]
      cases bitOn set k <;> simp
    · simp only [hk, if_false]
      by_cases hc : c.getD k 0 < 0
      · rw [if_pos (.inr ⟨by decide, hc⟩)]; omega
      · rw [if_neg (by rintro (h | h) <;> omega)]; omega
theorem badAt_some {rows : List RowD} {d set i : Nat} (h : badAt rows d set = some i) : i < rows.length ∧ (rows.getD i row0).most < ls (rows.getD i row0).coef d set := by
  unfold badAt at h
  rw [List.findIdx?_eq_some_iff_getElem] at h
  obtain ⟨h1, h2, -⟩ := h
  refine ⟨h1, ?_⟩
  rw [List.getD_eq_getElem?_getD, List.getElem?_eq_getElem h1]
  simpa using h2
/-- Solve's proof refutes. -/
theorem refB_grow (rows : List RowD) (l : List StepD) (n : Nat) (hr : ∀ r ∈ rows, r.coef.length = n) (hbad : ∀ s, s < 2 ^ n → badAt rows n s ≠ none) :
    ∀ (fuel d set k f : Nat), d + fuel = n → set < 2 ^ d → (growS rows fuel d set k).length ≤ f → (∀ i s, (growS rows fuel d set k)[i]? = some s → l[k + i]? = some s) → refB rows l f k (decP n d set) = true := by
  intro fuel
  induction fuel with
  | zero =>
    intro d set k f hd hs hf hl
    obtain rfl : d = n := by omega
    unfold growS at hf hl
    cases hb : badAt rows d set with
    | none => exact absurd hb (hbad set hs)
    | some i =>
      rw [hb] at hf hl
      simp only at hf hl
      obtain ⟨f, rfl⟩ : ∃ g, f = g + 1 := ⟨f - 1, by simp at hf; omega⟩
      have h0 := hl 0 _ rfl
      obtain ⟨b1, b2⟩ := badAt_some hb
      unfold refB
      rw [Nat.add_zero] at h0
      rw [h0]
      simp only [Int.toNat_natCast]
      unfold leafB
      rw [decP_len, lsd_decP _ _ _ _ _ (Nat.le_refl _)]
      have hc := hr _ (List.mem_of_getElem? (getD_some row0 b1))
      unfold ls at b2
      rw [hc] at b2
      exact decide_eq_true b2
  | succ fuel ih =>
    intro d set k f hd hs hf hl
    unfold growS at hf hl
    cases hb : badAt rows d set with
    | some i =>
      rw [hb] at hf hl
      simp only at hf hl
      obtain ⟨f, rfl⟩ : ∃ g, f = g + 1 := ⟨f - 1, by simp at hf; omega⟩
      have h0 := hl 0 _ rfl
      obtain ⟨b1, b2⟩ := badAt_some hb
      unfold refB
      rw [Nat.add_zero] at h0
      rw [h0]
      simp only [Int.toNat_natCast]
      unfold leafB
      rw [decP_len, lsd_decP _ _ _ _ _ (Nat.le_refl _)]
      have hc := hr _ (List.mem_of_getElem? (getD_some row0 b1))
      unfold ls at b2
      rw [hc] at b2
      exact decide_eq_true b2
    | none =>
      rw [hb] at hf hl
      simp only at hf hl
      generalize hA : growS rows fuel (d + 1) set (k + 1) = A at hf hl
      generalize hB : growS rows fuel (d + 1) (set + 2 ^ d) (k + 1 + A.length) = B at hf hl
      simp only [List.length_cons, List.length_append] at hf
      obtain ⟨f, rfl⟩ : ∃ g, f = g + 1 := ⟨f - 1, by omega⟩
      have h0 := hl 0 _ rfl
      rw [Nat.add_zero] at h0
      unfold refB
      rw [h0]
      simp only [Int.toNat_natCast]
      rw [decP_get (show d < n by omega), if_neg (Nat.lt_irrefl d), if_neg (by decide), decP_set0 hs (by omega), decP_set1 hs (by omega)]
      have e1 : (((k + 1 : Nat) : Int)).toNat = k + 1 := Int.toNat_natCast _
      have e2 : ((k + 1 + A.length : Nat) : Int).toNat = k + 1 + A.length := Int.toNat_natCast _
      have p2 : 2 ^ (d + 1) = 2 ^ d + 2 ^ d := by rw [Nat.pow_succ]; omega
      rw [ih (d + 1) set (k + 1) f (by omega) (by omega) (by rw [hA]; omega) (fun i s hi => by
        rw [hA] at hi
        have hil : i < A.length := by
          refine Classical.byContradiction fun hc => ?_
          rw [List.getElem?_eq_none (by omega)] at hi; cases hi
        have := hl (i + 1) s (by rw [List.getElem?_cons_succ, List.getElem?_append_left hil]; exact hi)
        rw [show k + 1 + i = k + (i + 1) by omega]; exact this)]
      rw [ih (d + 1) (set + 2 ^ d) (k + 1 + A.length) f (by omega) (by omega) (by rw [hB]; omega) (fun i s hi => by
        rw [hB] at hi
        have := hl (A.length + i + 1) s (by rw [List.getElem?_cons_succ, List.getElem?_append_right (by omega), Nat.add_sub_cancel_left]; exact hi)
        rw [show k + 1 + A.length + i = k + (A.length + i + 1) by omega]; exact this)]
      rfl
/-- The steps of Solve's proof are plain. -/
theorem grow_plain (rows : List RowD) (n : Nat) : ∀ (fuel d set k : Nat), d + fuel = n → ∀ i s, (growS rows fuel d set k)[i]? = some s → PlainS n rows.length (k + i) s := by
  intro fuel
  induction fuel with
  | zero =>
    intro d set k hd i s h
    unfold growS at h
    cases hb : badAt rows d set with
    | none => rw [hb] at h; simp at h
    | some j =>
      rw [hb] at h
      simp only at h
      obtain ⟨b1, -⟩ := badAt_some hb
      match i, h with
      | 0, h => simp at h; subst h; exact .leaf j b1
      | i + 1, h => simp at h
  | succ fuel ih =>
    intro d set k hd i s h
    unfold growS at h
    cases hb : badAt rows d set with
    | some j =>
      rw [hb] at h
      simp only at h
      obtain ⟨b1, -⟩ := badAt_some hb
      match i, h with
      | 0, h => simp at h; subst h; exact .leaf j b1
      | i + 1, h => simp at h
    | none =>
      rw [hb] at h
      simp only at h
      generalize hA : growS rows fuel (d + 1) set (k + 1) = A at h
      generalize hB : growS rows fuel (d + 1) (set + 2 ^ d) (k + 1 + A.length) = B at h
      match i, h with
      | 0, h => simp only [List.getElem?_cons_zero, Option.some.injEq] at h; subst h; exact .case d (k + 1) (k + 1 + A.length) (by omega) (by omega) (by omega)
      | i + 1, h =>
        rw [List.getElem?_cons_succ] at h
        by_cases hi : i < A.length
        · rw [List.getElem?_append_left hi, ← hA] at h
          have := ih (d + 1) set (k + 1) (by omega) i s h
          rwa [show k + 1 + i = k + (i + 1) by omega] at this
        · rw [List.getElem?_append_right (by omega), ← hB] at h
          have := ih (d + 1) (set + 2 ^ d) (k + 1 + A.length) (by omega) (i - A.length) s h
          rwa [show k + 1 + A.length + (i - A.length) = k + (i + 1) by omega] at this
theorem grow_len (rows : List RowD) : ∀ (fuel d set k : Nat), (growS rows fuel d set k).length + 1 ≤ 2 ^ (fuel + 1) := by
  intro fuel
  induction fuel with
  | zero => intro d set k; unfold growS; split <;> simp
  | succ fuel ih =>
    intro d set k
    unfold growS
    have p : 2 ^ (fuel + 1 + 1) = 2 ^ (fuel + 1) + 2 ^ (fuel + 1) := by rw [Nat.pow_succ]; omega
    have p1 : 1 ≤ 2 ^ fuel := Nat.one_le_two_pow
    have p2 : 2 ^ (fuel + 1) = 2 ^ fuel + 2 ^ fuel := by rw [Nat.pow_succ]; omega
    split
    · simp; omega
    · simp only [List.length_cons, List.length_append]
      have h1 := ih (d + 1) set (k + 1)
      have h2 := ih (d + 1) (set + 2 ^ d) (k + 1 + (growS rows fuel (d + 1) set (k + 1)).length)
      omega
/-- A choice that agrees with what is decided. -/
def Agrees (dec : List Int) (s : Nat) : Prop := ∀ k, k < dec.length → 0 ≤ dec.getD k 0 → (dec.getD k 0 = 1 ↔ bitOn s k = true)
theorem lsd_le (c dec : List Int) (s : Nat) (h : Agrees dec s) : ∀ k, k ≤ dec.length → lsd c dec k ≤ chK c s k := by
  intro k
  induction k with
  | zero => intro _; exact Int.le_refl _
  | succ k ih =>
    intro hk
    have := ih (by omega)
    have ha := h k (by omega)
    simp only [lsd, chK]
    generalize dec.getD k 0 = d at ha ⊢
    generalize c.getD k 0 = x at ⊢
    by_cases h1 : d = 1
    · have hb := (ha (by omega)).1 h1
      rw [if_pos (.inl h1), if_pos hb]; omega
    · by_cases h0 : 0 ≤ d
      · have hb : ¬ bitOn s k = true := fun hb => h1 ((ha h0).2 hb)
        rw [if_neg (by rintro (h | h) <;> omega), if_neg hb]; omega
      · split <;> split <;> omega
theorem agrees_set {dec : List Int} {s d : Nat} (h : Agrees dec s) (hd : d < dec.length) (b : Bool) (hb : bitOn s d = b) : Agrees (dec.set d (if b then 1 else 0)) s := by
  intro k hk hk0
  rw [List.length_set] at hk
  by_cases e : k = d
  · subst e
    have : (dec.set k (if b then 1 else 0)).getD k 0 = if b then 1 else 0 := by
      rw [List.getD_eq_getElem?_getD, List.getElem?_set_self hd]; rfl
    rw [this, hb]
    cases b <;> simp
  · have : (dec.set d (if b then 1 else 0)).getD k 0 = dec.getD k 0 := by
      rw [List.getD_eq_getElem?_getD, List.getElem?_set_ne (Ne.symm e), ← List.getD_eq_getElem?_getD]
    rw [this] at hk0 ⊢
    exact h k hk hk0
/-- What refutes excludes every choice. -/
theorem refB_sound (rows : List RowD) (l : List StepD) (n : Nat) (hr : ∀ r ∈ rows, r.coef.length = n) (hl : ∀ i s, l[i]? = some s → PlainS n rows.length i s) :
    ∀ (f i : Nat) (dec : List Int), dec.length = n → refB rows l f i dec = true → ∀ s, Agrees dec s → keepsB rows s = false := by
  intro f
  induction f with
  | zero => intro i dec _ h; cases h
  | succ f ih =>
    intro i dec hn h s hs
    unfold refB at h
    cases hli : l[i]? with
    | none => rw [hli] at h; cases h
    | some t =>
      rw [hli] at h
      simp only at h
      cases hl i t hli with
      | leaf j hj =>
        simp only [Int.toNat_natCast, leafB, decide_eq_true_eq] at h
        have hm := List.mem_of_getElem? (getD_some row0 hj)
        have hle := lsd_le (rows.getD j row0).coef dec s hs dec.length (Nat.le_refl _)
        refine Bool.eq_false_iff.2 fun hk => ?_
        unfold keepsB at hk
        have := List.all_eq_true.1 hk _ hm
        unfold keptB ch at this
        rw [hr _ hm, ← hn] at this
        have := of_decide_eq_true this
        omega
      | case d no yes hd h1 h2 =>
        simp only [Int.toNat_natCast] at h
        split at h
        · cases h
        · rw [Bool.and_eq_true] at h
          cases hb : bitOn s d with
          | false => exact ih no _ (by rw [List.length_set]; exact hn) h.1 s (agrees_set hs (by omega) false hb)
          | true => exact ih yes _ (by rw [List.length_set]; exact hn) h.2 s (agrees_set hs (by omega) true hb)
theorem agrees_open (n s : Nat) : Agrees (List.replicate n (-1)) s := by
  intro k hk h0
  rw [List.length_replicate] at hk
  rw [List.getD_eq_getElem?_getD, List.getElem?_replicate_of_lt hk] at h0
  simp at h0
theorem decP_open (n : Nat) : decP n 0 0 = List.replicate n (-1) := by
  unfold decP
  simp only [Nat.not_lt_zero, if_false]
  exact (List.eq_replicate_iff.2 ⟨by simp, fun b hb => by simp at hb; exact hb.2.symm⟩)
end Go.Proofs.Ytblmpmapcdpaiaa

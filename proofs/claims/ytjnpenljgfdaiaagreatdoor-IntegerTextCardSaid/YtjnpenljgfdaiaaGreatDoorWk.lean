/- Plain: what the loops over groups reckon. -/
import Derived.Lib.SlTrimSet
import Derived.Lib.Strings
import Derived.Lib.Repeat
import Derived.Test.YtjnpenljgfdaiaaGreatDoorAns
namespace N3
open Go Go.Lib

/-! ### compare -/
theorem len_lt {n m : Nat} (h : (toG n).length < (toG m).length) : n < m := by
  refine Classical.byContradiction fun hc => ?_
  have h1 := val_lt (toG_lt n)
  rw [val_toG] at h1
  have h2 := toG_len_le (n := m) (k := (toG n).length) (by omega)
  omega
theorem cmpI_cast_lt {n m : Nat} (h : n < m) : cmpI (n : Int) (m : Int) = -1 := by unfold cmpI; rw [if_pos (by omega)]
theorem cmpI_cast_gt {n m : Nat} (h : m < n) : cmpI (n : Int) (m : Int) = 1 := by unfold cmpI; rw [if_neg (by omega), if_pos (by omega)]
theorem cmpI_cast_self (n : Nat) : cmpI (n : Int) (n : Int) = 0 := by unfold cmpI; rw [if_neg (by omega), if_neg (by omega)]
/-- Equal from a place on. -/
def EqFrom (l m : List Nat) (i : Nat) : Prop := ∀ j, i ≤ j → l.getD j 0 = m.getD j 0
theorem EqFrom.all {l m : List Nat} (h : EqFrom l m 0) (hl : l.length = m.length) : l = m := by
  apply List.ext_getElem hl
  intro j h1 h2
  have := h j (Nat.zero_le _)
  simpa [List.getD_eq_getElem?_getD, List.getElem?_eq_getElem h1, List.getElem?_eq_getElem h2] using this
theorem EqFrom.len {l m : List Nat} (hl : l.length = m.length) : EqFrom l m l.length := fun j hj => by
  rw [List.getD_eq_getElem?_getD, List.getD_eq_getElem?_getD, List.getElem?_eq_none hj, List.getElem?_eq_none (by omega)]
theorem EqFrom.step {l m : List Nat} {i : Nat} (h : EqFrom l m (i + 1)) (e : l.getD i 0 = m.getD i 0) : EqFrom l m i := fun j hj => by
  rcases Nat.eq_or_lt_of_le hj with rfl | hj
  · exact e
  · exact h j hj
theorem cmp_at {n m i : Nat} (hl : (toG n).length = (toG m).length) (hi : i < (toG n).length) (h : EqFrom (toG n) (toG m) (i + 1)) (hne : (toG n).getD i 0 ≠ (toG m).getD i 0) :
    cmpI (n : Int) (m : Int) = cmpI (((toG n).getD i 0 : Nat) : Int) (((toG m).getD i 0 : Nat) : Int) := by
  rcases Nat.lt_or_gt_of_ne hne with h1 | h1
  · have := val_lt_of_high (toG_lt n) (toG_lt m) hl hi h1 (fun j hj => h j hj)
    rw [val_toG, val_toG] at this
    rw [cmpI_cast_lt this, cmpI_cast_lt h1]
  · have := val_lt_of_high (toG_lt m) (toG_lt n) hl.symm (by omega) h1 (fun j hj => (h j hj).symm)
    rw [val_toG, val_toG] at this
    rw [cmpI_cast_gt this, cmpI_cast_gt h1]
theorem toG_eq {n m : Nat} (h : toG n = toG m) : n = m := by rw [← val_toG n, h, val_toG]
/-! ### times -/
theorem shift_toG {o : Nat} (h : o ≠ 0) : 0 :: toG o = toG (10000 * o) := by
  have := toG_cons (x := 0) (n := o) (by decide) (by omega)
  rw [Nat.zero_add] at this; exact this
/-- The product with the highest k groups. -/
def horner (l : List Nat) (a k : Nat) : Nat := a * val (l.drop (l.length - k))
theorem horner_zero (l : List Nat) (a : Nat) : horner l a 0 = 0 := by unfold horner; rw [Nat.sub_zero, List.drop_length]; simp [val]
theorem horner_all (l : List Nat) (a : Nat) : horner l a l.length = a * val l := by unfold horner; rw [Nat.sub_self, List.drop_zero]
theorem high_succ {l : List Nat} {k : Nat} (h : k < l.length) : val (l.drop (l.length - (k + 1))) = l.getD (l.length - 1 - k) 0 + 10000 * val (l.drop (l.length - k)) := by
  have e : l.length - (k + 1) = l.length - 1 - k := by omega
  rw [e, drop_val (by omega), show l.length - 1 - k + 1 = l.length - k by omega]
theorem horner_succ {l : List Nat} {k : Nat} (a : Nat) (h : k < l.length) : horner l a (k + 1) = 10000 * horner l a k + a * l.getD (l.length - 1 - k) 0 := by
  unfold horner
  rw [high_succ h, Nat.mul_add, Nat.mul_left_comm]; omega
theorem high_le (l : List Nat) (k : Nat) : val (l.drop (l.length - k)) ≤ val l := by
  conv => rhs; rw [← List.take_append_drop (l.length - k) l, val_app]
  have : 1 ≤ 10000 ^ (List.take (l.length - k) l).length := Nat.one_le_pow _ _ (by decide)
  have := Nat.mul_le_mul_right (val (l.drop (l.length - k))) this
  omega
theorem horner_le (l : List Nat) (k a : Nat) : horner l a k ≤ a * val l := Nat.mul_le_mul_left a (high_le l k)
/-! ### over -/
/-- What is left behind the highest k groups. -/
def remK (l : List Nat) (m k : Nat) : Nat := val (l.drop (l.length - k)) % m
def quoK (l : List Nat) (m k : Nat) : List Nat := List.replicate (l.length - k) 0 ++ quo m (l.drop (l.length - k))
def digK (l : List Nat) (m k : Nat) : Nat := (l.getD (l.length - 1 - k) 0 + 10000 * remK l m k) / m
theorem remK_zero (l : List Nat) (m : Nat) : remK l m 0 = 0 := by unfold remK; rw [Nat.sub_zero, List.drop_length]; simp [val]
theorem remK_all (l : List Nat) (m : Nat) : remK l m l.length = val l % m := by unfold remK; rw [Nat.sub_self, List.drop_zero]
theorem quoK_zero (l : List Nat) (m : Nat) : quoK l m 0 = List.replicate l.length 0 := by unfold quoK; rw [Nat.sub_zero, List.drop_length, quo, List.append_nil]
theorem quoK_all (l : List Nat) (m : Nat) : quoK l m l.length = quo m l := by unfold quoK; rw [Nat.sub_self, List.drop_zero]; rfl
theorem quoK_len {l : List Nat} {m k : Nat} (h : k ≤ l.length) : (quoK l m k).length = l.length := by
  unfold quoK; rw [List.length_append, List.length_replicate, quo_len, List.length_drop]; omega
theorem rem_bound {l : List Nat} (hl : OKl l) {m k : Nat} (hm : 0 < m) : l.getD (l.length - 1 - k) 0 + 10000 * remK l m k < 10000 * m := by
  have h1 : l.getD (l.length - 1 - k) 0 < 10000 := by
    by_cases hi : l.length - 1 - k < l.length
    · exact hl _ (by rw [List.getD_eq_getElem?_getD, List.getElem?_eq_getElem hi]; exact List.getElem_mem _)
    · rw [List.getD_eq_getElem?_getD, List.getElem?_eq_none (by omega)]; decide
  have h2 : remK l m k < m := Nat.mod_lt _ hm
  omega
theorem remK_succ {l : List Nat} {m k : Nat} (h : k < l.length) : remK l m (k + 1) = (l.getD (l.length - 1 - k) 0 + 10000 * remK l m k) - m * digK l m k := by
  have e : remK l m (k + 1) = (l.getD (l.length - 1 - k) 0 + 10000 * remK l m k) % m := by
    unfold remK; rw [high_succ h, rem_step]
  have := Nat.div_add_mod (l.getD (l.length - 1 - k) 0 + 10000 * remK l m k) m
  rw [e]; unfold digK; omega
theorem digK_mul_le {l : List Nat} {m k : Nat} : m * digK l m k ≤ l.getD (l.length - 1 - k) 0 + 10000 * remK l m k := by
  have := Nat.div_add_mod (l.getD (l.length - 1 - k) 0 + 10000 * remK l m k) m
  unfold digK; omega
theorem digK_lt {l : List Nat} (hl : OKl l) {m k : Nat} (hm : 0 < m) : digK l m k < 10000 := by
  unfold digK
  exact (Nat.div_lt_iff_lt_mul hm).2 (rem_bound hl hm)
theorem quoK_succ {l : List Nat} {m k : Nat} (h : k < l.length) : quoK l m (k + 1) = (quoK l m k).set (l.length - 1 - k) (digK l m k) := by
  unfold quoK
  have e1 : l.length - (k + 1) = l.length - 1 - k := by omega
  have e2 : l.length - k = l.length - 1 - k + 1 := by omega
  rw [e1, e2, List.replicate_succ', List.append_assoc, List.set_append_right _ _ (by simp), List.length_replicate, Nat.sub_self]
  congr 1
  have hd : l.drop (l.length - 1 - k) = l.getD (l.length - 1 - k) 0 :: l.drop (l.length - 1 - k + 1) := by
    rw [List.drop_eq_getElem_cons (by omega), List.getD_eq_getElem?_getD, List.getElem?_eq_getElem (by omega), Option.getD_some]
  rw [hd, quo]
  show _ = digK l m k :: quo m _
  congr 1
  unfold digK remK
  rw [e2]
theorem quoK_ok {l : List Nat} (hl : OKl l) {m : Nat} (hm : 0 < m) (k : Nat) : OKl (quoK l m k) := by
  intro x hx
  unfold quoK at hx
  rcases List.mem_append.1 hx with hx | hx
  · rw [(List.mem_replicate.1 hx).2]; decide
  · exact quo_ok hm (fun y hy => hl y (List.mem_of_mem_drop hy)) x hx
/-! ### text -/
def txtK (l : List Nat) (k : Nat) : List UInt8 := txt (l.drop (l.length - k))
theorem txtK_zero (l : List Nat) : txtK l 0 = [] := by unfold txtK; rw [Nat.sub_zero, List.drop_length]; rfl
theorem txtK_all (l : List Nat) : txtK l l.length = txt l := by unfold txtK; rw [Nat.sub_self, List.drop_zero]
theorem txtK_succ {l : List Nat} {k : Nat} (h : k < l.length) : txtK l (k + 1) = txtK l k ++ (if k = 0 then decDigits (l.getD (l.length - 1 - k) 0) else pad4 (l.getD (l.length - 1 - k) 0)) := by
  unfold txtK
  have e1 : l.length - (k + 1) = l.length - 1 - k := by omega
  have hd : l.drop (l.length - 1 - k) = l.getD (l.length - 1 - k) 0 :: l.drop (l.length - k) := by
    rw [List.drop_eq_getElem_cons (by omega), List.getD_eq_getElem?_getD, List.getElem?_eq_getElem (by omega), Option.getD_some, show l.length - 1 - k + 1 = l.length - k by omega]
  rw [e1, hd, txt]
  by_cases hk : k = 0
  · subst hk
    rw [Nat.sub_zero, List.drop_length, if_pos rfl, if_pos rfl]; rfl
  · rw [if_neg hk, if_neg]
    intro hc
    have := congrArg List.length hc
    rw [List.length_drop, List.length_nil] at this
    omega
theorem pad4_len {b : Nat} (hb : b < 10000) : (pad4 b).length = 4 := by
  have h : (decDigits b).length ≤ 4 := by rw [decDigits_length]; exact (nDigits_le (by decide)).2 hb
  unfold pad4; rw [List.length_append, List.length_replicate]; omega
theorem dig4_len {b : Nat} (hb : b < 10000) : (decDigits b).length ≤ 4 := by rw [decDigits_length]; exact (nDigits_le (by decide)).2 hb
theorem txtK_len {l : List Nat} (hl : OKl l) : ∀ k, k ≤ l.length → (txtK l k).length ≤ 4 * k
  | 0, _ => by rw [txtK_zero]; exact Nat.le_refl _
  | k + 1, h => by
    have ih := txtK_len hl k (by omega)
    have hg : l.getD (l.length - 1 - k) 0 < 10000 := hl _ (by rw [List.getD_eq_getElem?_getD, List.getElem?_eq_getElem (by omega)]; exact List.getElem_mem _)
    rw [txtK_succ (by omega), List.length_append]
    split
    · have := dig4_len hg; omega
    · have := pad4_len hg; omega
theorem repeat_zero (k : Nat) : repeatL [48] k = List.replicate k 48 := by
  induction k with
  | zero => rfl
  | succ k ih => rw [repeatL, ih, List.replicate_succ]; rfl
theorem pad_repeat (b : Nat) : repeatL [48] (4 - (decDigits b).length) ++ decDigits b = pad4 b := by rw [repeat_zero]; rfl
/-- The text of a number with a sign. -/
theorem sgn_text (neg : Bool) {n : Nat} (h : n ≠ 0) : itoa (sgn neg n) = (if neg = true then [45] else []) ++ txt (toG n) := by
  rw [txt_toG n h]
  cases neg
  · exact itoa_nat n
  · unfold itoa sgn
    rw [if_pos rfl, if_pos (by omega), show (-(n : Int)).natAbs = n by omega]; rfl
theorem txt_len (n : Nat) (h : n ≠ 0) : (txt (toG n)).length ≤ 200 ↔ n < lim := by
  rw [txt_toG n h, decDigits_length]
  exact nDigits_le (by decide)
theorem itoa_zero : itoa 0 = [48] := by
  rw [show (0 : Int) = ((0 : Nat) : Int) from rfl, itoa_nat, decDigits_one (by decide)]; rfl
/-! ### isValid -/
theorem dropWhile_nil {α : Type} (p : α → Bool) (l : List α) : l.dropWhile p = [] ↔ l.all p = true := by
  induction l with
  | nil => simp
  | cons x l ih =>
    rw [List.dropWhile_cons, List.all_cons]
    by_cases h : p x = true
    · rw [if_pos h, h, Bool.true_and]; exact ih
    · rw [if_neg h]
      have : p x = false := by simpa using h
      rw [this]; simp
theorem trimS_nil (l cs : List UInt8) : trimS l cs = [] ↔ l.all (cs.contains ·) = true := by
  unfold trimS trimLeftS trimRightS
  rw [dropWhile_nil]
  constructor
  · intro h
    have h2 : (l.reverse.dropWhile (cs.contains ·)).all (cs.contains ·) = true := by rwa [List.all_reverse] at h
    cases hd : l.reverse.dropWhile (cs.contains ·) with
    | nil =>
      have := (dropWhile_nil _ _).1 hd
      rwa [List.all_reverse] at this
    | cons x r =>
      have hx : ¬ cs.contains x = true := by
        have h3 := List.head?_dropWhile_not (cs.contains ·) l.reverse
        rw [hd] at h3
        simpa using h3
      rw [hd, List.all_cons, Bool.and_eq_true] at h2
      exact absurd h2.1 hx
  · intro h
    have : l.reverse.dropWhile (cs.contains ·) = [] := (dropWhile_nil _ _).2 (by rw [List.all_reverse]; exact h)
    rw [this]; rfl
def tenC : List UInt8 := [48, 49, 50, 51, 52, 53, 54, 55, 56, 57]
theorem tenC_isD (c : UInt8) : tenC.contains c = isD c := by
  have h : ∀ n, n < 256 → tenC.contains (UInt8.ofNat n) = isD (UInt8.ofNat n) := by decide +kernel
  have := h c.toNat c.toNat_lt
  rwa [UInt8.ofNat_toNat] at this
theorem trim_digits (l : List UInt8) : trimS l tenC = [] ↔ l.all isD = true := by
  rw [trimS_nil]
  have : (fun c => tenC.contains c) = isD := funext tenC_isD
  rw [this]
/-- The digits of a string: without a sign. -/
def bare (l : List UInt8) : List UInt8 := if l.head? = some 45 then l.tail else l
theorem prefix_bare (l : List UInt8) : trimPrefix l [45] = bare l := by
  unfold trimPrefix bare
  cases l with
  | nil => rfl
  | cons c l =>
    by_cases h : c = 45
    · subst h; simp [hasPrefix]
    · have h1 : ¬ (some c = some (45 : UInt8)) := fun e => h (Option.some.inj e)
      rw [List.head?_cons, if_neg h1]
      have h2 : hasPrefix (c :: l) [45] = false := by
        have h3 : (45 == c) = false := beq_eq_false_iff_ne.2 (Ne.symm h)
        unfold hasPrefix
        rw [List.isPrefixOf_cons_cons, h3]; rfl
      rw [h2]; rfl
theorem isI_bare (l : List UInt8) : isI l = (!(bare l).isEmpty && (decide ((bare l).length ≤ 200) && ((bare l).all isD && (decide (l = [48]) || decide ((bare l).head? ≠ some 48))))) := rfl
theorem intV_bare (l : List UInt8) : intV l = sgn (decide ((bare l).length < l.length)) (decV (bare l)) := by
  unfold intV bare sgn
  by_cases h : l.head? = some 45
  · rw [if_pos h, if_pos h]
    have : l.tail.length < l.length := by
      cases l with
      | nil => cases h
      | cons c l => simp
    rw [decide_eq_true this, if_pos rfl]
  · rw [if_neg h, if_neg h, decide_eq_false (Nat.lt_irrefl _), if_neg (by decide)]
/-! ### parse -/
theorem parse_step {D : List UInt8} {t f : Nat} (g : List Nat) (hf : f ≤ t) (ht : t ≤ D.length) (hg : 10000 ^ g.length = 10 ^ (D.length - t)) (hv : val g = decV (D.drop t)) :
    val (g ++ [decV ((D.take t).drop f)]) = decV (D.drop f) := by
  have e : D.drop f = (D.take t).drop f ++ D.drop t := by
    conv => lhs; rw [← List.take_append_drop t D]
    rw [List.drop_append_of_le_length (by rw [List.length_take]; omega)]
  rw [val_app, e, decV_app, hv, List.length_drop, ← hg]
  simp only [val, Nat.mul_zero, Nat.add_zero]
  rw [Nat.mul_comm]; omega
theorem decV_lt (l : List UInt8) (h : l.all isD = true) : decV l < 10 ^ l.length := by
  refine snoc_rec (P := fun l => l.all isD = true → decV l < 10 ^ l.length) (fun _ => by simp [decV]) (fun l c ih h => ?_) l h
  rw [List.all_append, Bool.and_eq_true] at h
  have hc : isD c = true := by simpa using h.2
  have := (isD_back hc).1
  have := ih h.1
  rw [decV_snoc, List.length_append, List.length_cons, List.length_nil, Nat.pow_succ]
  omega
end N3

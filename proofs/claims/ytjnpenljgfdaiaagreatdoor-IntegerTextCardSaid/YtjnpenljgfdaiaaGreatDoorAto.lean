/- Plain: what Atoi answers at an integer. -/
import Derived.Lib.AtoiAll
import Derived.Test.YtjnpenljgfdaiaaGreatDoorWk
namespace N3
open Go Go.Lib

theorem decV_cons (c : UInt8) (l : List UInt8) : decV (c :: l) = (c.toNat - 48) * 10 ^ l.length + decV l := by
  show decV ([c] ++ l) = _
  rw [decV_app]; simp [decV]
theorem parse_digits : ∀ (l : List UInt8) (acc : Nat), l.all isD = true → acc < 18446744073709551616 →
    parseUint10 acc l = if acc * 10 ^ l.length + decV l < 18446744073709551616 then .ok (acc * 10 ^ l.length + decV l) else .range
  | [], acc, _, h => by
    rw [parseUint10]
    simp only [List.length_nil, Nat.pow_zero, Nat.mul_one, decV, List.foldl_nil, Nat.add_zero]
    rw [if_pos h]
  | c :: l, acc, ha, h => by
    rw [List.all_cons, Bool.and_eq_true] at ha
    have hc := ha.1
    unfold isD at hc
    simp only [Bool.and_eq_true, decide_eq_true_eq] at hc
    have hp : 1 ≤ 10 ^ l.length := Nat.one_le_pow _ _ (by decide)
    have e : acc * 10 ^ (l.length + 1) + ((c.toNat - 48) * 10 ^ l.length + decV l) = (acc * 10 + (c.toNat - 48)) * 10 ^ l.length + decV l := by
      rw [Nat.add_mul, Nat.pow_succ, Nat.mul_assoc acc 10, Nat.mul_comm 10]; omega
    have hge : acc * 10 + (c.toNat - 48) ≤ (acc * 10 + (c.toNat - 48)) * 10 ^ l.length := Nat.le_mul_of_pos_right _ hp
    rw [parseUint10, if_pos hc, decV_cons, List.length_cons, e]
    split
    · rw [if_neg (by omega)]
    · split
      · rw [if_neg (by omega)]
      · exact parse_digits l _ ha.2 (by omega)
theorem parse_mag {l : List UInt8} (h : l.all isD = true) (hl : l ≠ []) : parseMag l = if decV l < 18446744073709551616 then .ok (decV l) else .range := by
  unfold parseMag
  rw [if_neg hl, parse_digits l 0 h (by decide), Nat.zero_mul, Nat.zero_add]
theorem bare_facts {l : List UInt8} (h : isI l = true) : bare l ≠ [] ∧ (bare l).all isD = true := by
  rw [isI_bare] at h
  simp only [Bool.and_eq_true, decide_eq_true_eq, Bool.not_eq_true'] at h
  exact ⟨fun e => by rw [e] at h; exact absurd h.1 (by decide), h.2.2.1⟩
/-- Atoi of an integer. -/
theorem atoi_all {l : List UInt8} (h : isI l = true) : atoiAll l = if inM (intV l) = true then .ok (intV l) else .range := by
  obtain ⟨h1, h2⟩ := bare_facts h
  have hpm := parse_mag h2 h1
  cases l with
  | nil => exact absurd h (by decide)
  | cons c r =>
    unfold atoiAll
    by_cases hc : c = 45
    · subst hc
      have hb : bare (45 :: r) = r := by unfold bare; rw [List.head?_cons, if_pos rfl, List.tail_cons]
      have hi : intV (45 :: r) = -(decV r : Int) := by unfold intV; rw [List.head?_cons, if_pos rfl, List.tail_cons]
      rw [hb] at hpm
      have h45 : ((45 : UInt8).toNat = 43 ∨ (45 : UInt8).toNat = 45) := .inr rfl
      simp only [if_pos h45, hpm, hi]
      have hn : (45 : UInt8).toNat = 45 := rfl
      by_cases hu : decV r < 18446744073709551616
      · rw [if_pos hu]
        simp only [hn, not_true, false_and, if_false, true_and]
        by_cases h63 : 9223372036854775808 < decV r
        · rw [if_pos h63, if_neg]
          unfold inM
          simp only [Bool.and_eq_true, decide_eq_true_eq]; omega
        · rw [if_neg h63, if_pos trivial, if_pos]
          unfold inM
          simp only [Bool.and_eq_true, decide_eq_true_eq]; omega
      · rw [if_neg hu, if_neg]
        unfold inM
        simp only [Bool.and_eq_true, decide_eq_true_eq]; omega
    · have hne : (c :: r).head? ≠ some 45 := by rw [List.head?_cons]; exact fun e => hc (Option.some.inj e)
      have hb : bare (c :: r) = c :: r := by unfold bare; rw [if_neg hne]
      have hi : intV (c :: r) = (decV (c :: r) : Int) := by unfold intV; rw [if_neg hne]
      rw [hb] at hpm h2
      have hd : isD c = true := by rw [List.all_cons, Bool.and_eq_true] at h2; exact h2.1
      unfold isD at hd
      simp only [Bool.and_eq_true, decide_eq_true_eq] at hd
      have hn3 : ¬ (c.toNat = 43 ∨ c.toNat = 45) := by omega
      have hn5 : ¬ c.toNat = 45 := by omega
      simp only [if_neg hn3, hpm, hi]
      by_cases hu : decV (c :: r) < 18446744073709551616
      · rw [if_pos hu]
        simp only [hn5, not_false_eq_true, true_and, false_and, if_false]
        by_cases h63 : 9223372036854775808 ≤ decV (c :: r)
        · rw [if_pos h63, if_neg]
          unfold inM
          simp only [Bool.and_eq_true, decide_eq_true_eq]; omega
        · rw [if_neg h63, if_pos]
          unfold inM
          simp only [Bool.and_eq_true, decide_eq_true_eq]; omega
      · rw [if_neg hu, if_neg]
        unfold inM
        simp only [Bool.and_eq_true, decide_eq_true_eq]; omega
end N3

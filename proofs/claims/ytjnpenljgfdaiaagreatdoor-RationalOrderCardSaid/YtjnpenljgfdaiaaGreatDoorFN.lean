/- package rational's functions at fractions whose numbers have their places: what they answer, as Calls. -/
import Derived.Test.YtjnpenljgfdaiaaGreatDoorQ8
import Derived.Test.YtjnpenljgfdaiaaGreatDoorPK
namespace Go.Proofs.YtjnpenljgfdaiaaGreatDoor
open Go.RowKit Go.Shelf Lib

theorem errR_some (r : ByteArray × ByteArray) : errR (some r) = 0 := rfl
theorem errR_none : errR none = 40 := rfl
theorem valR_some (r : ByteArray × ByteArray) : valR (some r) = ratV r.1 r.2 := rfl
theorem valR_none : valR none = ratV ⟨#[]⟩ ⟨#[]⟩ := rfl
/-- A fraction, if there is one, as a value. -/
def qV : Option (Int × Int) → Value
  | some r => ratV (N3.S r.1) (N3.S r.2)
  | none => ratV ⟨#[]⟩ ⟨#[]⟩
def qE : Option (Int × Int) → Int
  | some _ => 0
  | none => 40
def addQ (r s : Int × Int) : Option (Int × Int) := if (r.1 * s.2).natAbs < N3.lim ∧ (s.1 * r.2).natAbs < N3.lim ∧ (r.1 * s.2 + s.1 * r.2).natAbs < N3.lim ∧ (r.2 * s.2).natAbs < N3.lim then some (N3.addF r s) else none
def subQ (r s : Int × Int) : Option (Int × Int) := if (r.1 * s.2).natAbs < N3.lim ∧ (s.1 * r.2).natAbs < N3.lim ∧ (r.1 * s.2 - s.1 * r.2).natAbs < N3.lim ∧ (r.2 * s.2).natAbs < N3.lim then some (N3.subF r s) else none
def mulQ (r s : Int × Int) : Option (Int × Int) := if (r.1 * s.1).natAbs < N3.lim ∧ (r.2 * s.2).natAbs < N3.lim then some (N3.mulF r s) else none
def divQ (r s : Int × Int) : Option (Int × Int) := if s.1 ≠ 0 ∧ (r.1 * s.2).natAbs < N3.lim ∧ (r.2 * s.1).natAbs < N3.lim then some (N3.divF r s) else none
theorem qV_if (c : Prop) [Decidable c] (r : Int × Int) : valR (if c then some (strR r) else none) = qV (if c then some r else none) := by split <;> rfl
theorem qE_if (c : Prop) [Decidable c] (r : Int × Int) : errR (if c then some (strR r) else none) = qE (if c then some r else none) := by split <;> rfl
section
variable {r s : Int × Int} (h : Fit r) (k : Fit s) (V : World) (hV : EnvR V)
include h k hV
theorem cmp_q : Calls Tryz.prog 23 #[ratV (N3.S r.1) (N3.S r.2), ratV (N3.S s.1) (N3.S s.2)] V fun e w' => e = .returned (.int .i64 (N3.cmpF r s)) ∧ Below V.heap.size V w' := by
  have z1 := S_size h.num; have z2 := S_size h.den; have z3 := S_size k.num; have z4 := S_size k.den
  have q := compare04 (N3.S r.1) (N3.S r.2) (N3.S s.1) (N3.S s.2) V (by omega) (by omega) (by omega) (by omega) hV.env
  rw [cmp_S h k] at q; exact q
theorem add_q : Calls Tryz.prog 26 #[ratV (N3.S r.1) (N3.S r.2), ratV (N3.S s.1) (N3.S s.2)] V fun e w' => e = .returned (.tuple #[qV (addQ r s), .int .i64 (qE (addQ r s))]) ∧ Below V.heap.size V w' := by
  have z1 := S_size h.num; have z2 := S_size h.den; have z3 := S_size k.num; have z4 := S_size k.den
  have q := add04 (N3.S r.1) (N3.S r.2) (N3.S s.1) (N3.S s.2) V (by omega) (by omega) (by omega) (by omega) hV.env
  rw [addR_S h k, qV_if, qE_if] at q; exact q
theorem sub_q : Calls Tryz.prog 24 #[ratV (N3.S r.1) (N3.S r.2), ratV (N3.S s.1) (N3.S s.2)] V fun e w' => e = .returned (.tuple #[qV (subQ r s), .int .i64 (qE (subQ r s))]) ∧ Below V.heap.size V w' := by
  have z1 := S_size h.num; have z2 := S_size h.den; have z3 := S_size k.num; have z4 := S_size k.den
  have q := sub04 (N3.S r.1) (N3.S r.2) (N3.S s.1) (N3.S s.2) V (by omega) (by omega) (by omega) (by omega) hV.env
  rw [subR_S h k, qV_if, qE_if] at q; exact q
theorem mul_q : Calls Tryz.prog 27 #[ratV (N3.S r.1) (N3.S r.2), ratV (N3.S s.1) (N3.S s.2)] V fun e w' => e = .returned (.tuple #[qV (mulQ r s), .int .i64 (qE (mulQ r s))]) ∧ Below V.heap.size V w' := by
  have z1 := S_size h.num; have z2 := S_size h.den; have z3 := S_size k.num; have z4 := S_size k.den
  have q := mul04 (N3.S r.1) (N3.S r.2) (N3.S s.1) (N3.S s.2) V (by omega) (by omega) (by omega) (by omega) hV.env
  rw [mulR_S h k, qV_if, qE_if] at q; exact q
theorem div_q : Calls Tryz.prog 63 #[ratV (N3.S r.1) (N3.S r.2), ratV (N3.S s.1) (N3.S s.2)] V fun e w' => e = .returned (.tuple #[qV (divQ r s), .int .i64 (qE (divQ r s))]) ∧ Below V.heap.size V w' := by
  have z1 := S_size h.num; have z2 := S_size h.den; have z3 := S_size k.num; have z4 := S_size k.den
  have q := div04 (N3.S r.1) (N3.S r.2) (N3.S s.1) (N3.S s.2) V (by omega) (by omega) (by omega) (by omega) hV.env
  by_cases h0 : s.1 = 0
  · rw [divR_S0 h k h0] at q
    rw [show divQ r s = none from if_neg (fun hh => hh.1 h0)]; exact q
  · rw [divR_S h k h0, qV_if, qE_if] at q
    rw [show divQ r s = (if (r.1 * s.2).natAbs < N3.lim ∧ (r.2 * s.1).natAbs < N3.lim then some (N3.divF r s) else none) from by simp only [divQ, h0, ne_eq, not_false_eq_true, true_and]]; exact q
end
section
variable {r s : Int × Int} (h : Fit r) (k : Fit s)
include h k
theorem addQ_fit {t : Int × Int} (e : addQ r s = some t) : t = N3.addF r s ∧ Fit t := by
  unfold addQ at e
  split at e
  · rename_i hc
    obtain rfl := (Option.some.inj e).symm
    exact ⟨rfl, mk_fit hc.2.2.1 hc.2.2.2 (Int.mul_ne_zero (N3.low_ne h.low) (N3.low_ne k.low))⟩
  · cases e
theorem subQ_fit {t : Int × Int} (e : subQ r s = some t) : t = N3.subF r s ∧ Fit t := by
  unfold subQ at e
  split at e
  · rename_i hc
    obtain rfl := (Option.some.inj e).symm
    exact ⟨rfl, mk_fit hc.2.2.1 hc.2.2.2 (Int.mul_ne_zero (N3.low_ne h.low) (N3.low_ne k.low))⟩
  · cases e
theorem mulQ_fit {t : Int × Int} (e : mulQ r s = some t) : t = N3.mulF r s ∧ Fit t := by
  unfold mulQ at e
  split at e
  · rename_i hc
    obtain rfl := (Option.some.inj e).symm
    exact ⟨rfl, mk_fit hc.1 hc.2 (Int.mul_ne_zero (N3.low_ne h.low) (N3.low_ne k.low))⟩
  · cases e
omit k in
theorem divQ_fit {t : Int × Int} (e : divQ r s = some t) : s.1 ≠ 0 ∧ t = N3.divF r s ∧ Fit t := by
  unfold divQ at e
  split at e
  · rename_i hc
    obtain rfl := (Option.some.inj e).symm
    exact ⟨hc.1, rfl, mk_fit hc.2.1 hc.2.2 (Int.mul_ne_zero (N3.low_ne h.low) hc.1)⟩
  · cases e
end
theorem addQ_ok {r s : Int × Int} {a b : Nat} (h1 : r.1.natAbs < 10 ^ a) (h2 : r.2.natAbs < 10 ^ a) (h3 : s.1.natAbs < 10 ^ b) (h4 : s.2.natAbs < 10 ^ b) (hab : a + b + 1 ≤ 200) : addQ r s = some (N3.addF r s) := by
  have q1 := N3.natAbs_lt (k := a + b) h1 h4 (Nat.le_refl _)
  have q2 := N3.natAbs_lt (k := a + b) h3 h2 (by omega)
  have q3 := N3.natAbs_lt (k := a + b) h2 h4 (Nat.le_refl _)
  have q4 : (r.1 * s.2 + s.1 * r.2).natAbs < 10 ^ (a + b + 1) := by rw [Nat.pow_succ]; omega
  exact if_pos ⟨N3.lim_of q1 (by omega), N3.lim_of q2 (by omega), N3.lim_of q4 hab, N3.lim_of q3 (by omega)⟩
theorem subQ_ok {r s : Int × Int} {a b : Nat} (h1 : r.1.natAbs < 10 ^ a) (h2 : r.2.natAbs < 10 ^ a) (h3 : s.1.natAbs < 10 ^ b) (h4 : s.2.natAbs < 10 ^ b) (hab : a + b + 1 ≤ 200) : subQ r s = some (N3.subF r s) := by
  have q1 := N3.natAbs_lt (k := a + b) h1 h4 (Nat.le_refl _)
  have q2 := N3.natAbs_lt (k := a + b) h3 h2 (by omega)
  have q3 := N3.natAbs_lt (k := a + b) h2 h4 (Nat.le_refl _)
  have q4 : (r.1 * s.2 - s.1 * r.2).natAbs < 10 ^ (a + b + 1) := by rw [Nat.pow_succ]; omega
  exact if_pos ⟨N3.lim_of q1 (by omega), N3.lim_of q2 (by omega), N3.lim_of q4 hab, N3.lim_of q3 (by omega)⟩
theorem mulQ_ok {r s : Int × Int} {a b : Nat} (h1 : r.1.natAbs < 10 ^ a) (h2 : r.2.natAbs < 10 ^ a) (h3 : s.1.natAbs < 10 ^ b) (h4 : s.2.natAbs < 10 ^ b) (hab : a + b ≤ 200) : mulQ r s = some (N3.mulF r s) :=
  if_pos ⟨N3.lim_of (N3.natAbs_lt (k := a + b) h1 h3 (Nat.le_refl _)) hab, N3.lim_of (N3.natAbs_lt (k := a + b) h2 h4 (Nat.le_refl _)) hab⟩
theorem divQ_ok {r s : Int × Int} {a b : Nat} (h1 : r.1.natAbs < 10 ^ a) (h2 : r.2.natAbs < 10 ^ a) (h3 : s.1.natAbs < 10 ^ b) (h4 : s.2.natAbs < 10 ^ b) (hab : a + b ≤ 200) (h0 : s.1 ≠ 0) : divQ r s = some (N3.divF r s) :=
  if_pos ⟨h0, N3.lim_of (N3.natAbs_lt (k := a + b) h1 h4 (Nat.le_refl _)) hab, N3.lim_of (N3.natAbs_lt (k := a + b) h2 h3 (Nat.le_refl _)) hab⟩
theorem divQ_0 {r s : Int × Int} (h0 : s.1 = 0) : divQ r s = none := if_neg (fun h => h.1 h0)
theorem qE_bad {o : Option (Int × Int)} (h : o = none) : qE o = 40 := by rw [h]; rfl
end Go.Proofs.YtjnpenljgfdaiaaGreatDoor

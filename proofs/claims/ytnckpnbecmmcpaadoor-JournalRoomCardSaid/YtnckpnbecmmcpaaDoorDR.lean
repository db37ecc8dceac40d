/- Plain: Append on a disk without power. -/
import Derived.Test.YtnckpnbecmmcpaaDoorDP
namespace Go.Proofs.YtnckpnbecmmcpaaDoor
open Go.RowKit
theorem app_dark {n : Nat} {L l : List ByteArray} {D : DiskD} (ho : D.off = true) (hl : ∀ t ∈ l, t.size ≤ 65536) (hf : tapeN L ≤ n) :
    (tapeN l = 0 ∧ appE n ⟨L, false⟩ D l = 0 ∧ appJ n ⟨L, false⟩ D l = ⟨L, false⟩ ∧ appD n ⟨L, false⟩ D l = D) ∨
    (n < tapeN L + tapeN l ∧ appE n ⟨L, false⟩ D l = 341 ∧ appJ n ⟨L, false⟩ D l = ⟨L, false⟩ ∧ appD n ⟨L, false⟩ D l = D) ∨
    (tapeN L + tapeN l ≤ n ∧ appE n ⟨L, false⟩ D l = 331 ∧ appJ n ⟨L, false⟩ D l = ⟨L, true⟩ ∧ appD n ⟨L, false⟩ D l = D) := by
  have hb : longB l = false := by
    unfold longB
    rw [List.any_eq_false]
    intro t ht
    have := hl t ht
    simp; omega
  have hs := outS_size L l
  unfold appE appJ appD
  simp only [hb, Bool.false_eq_true, or_self, if_false]
  by_cases hfl : (n : Int) - (tapeN L : Int) < ((outS L l).size : Int)
  · right; left
    rw [if_pos hfl, if_pos hfl, if_pos hfl]
    exact ⟨by omega, rfl, rfl, rfl⟩
  · rw [if_neg hfl, if_neg hfl, if_neg hfl]
    by_cases h0 : (outS L l).size = 0
    · left
      rw [if_pos h0, if_pos h0, if_pos h0]
      exact ⟨by omega, rfl, rfl, rfl⟩
    · right; right
      rw [if_neg h0, if_neg h0, if_neg h0]
      have h1 : (seqD (app4 L l) D).1 = 331 ∧ (seqD (app4 L l) D).2 = D := by
        unfold app4 seqD
        have hw : ∀ o s, (wrO o s D).1 = 331 ∧ (wrO o s D).2 = D := fun o s => by
          have e : writeE D o s = 331 := by unfold writeE; rw [ho]; rfl
          refine ⟨e, ?_⟩
          show writeD D o s = D
          unfold writeD
          rw [if_neg (by rw [e]; decide)]
        rw [if_neg (by rw [(hw _ _).1]; decide)]
        exact hw _ _
      rw [if_neg (by rw [h1.1]; decide)]
      exact ⟨by omega, h1.1, rfl, h1.2⟩
end Go.Proofs.YtnckpnbecmmcpaaDoor

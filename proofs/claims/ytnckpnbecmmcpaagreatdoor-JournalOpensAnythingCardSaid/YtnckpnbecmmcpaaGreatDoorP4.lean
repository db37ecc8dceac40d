/- Plain: a journal's calls while no loss of power is scheduled; lengths of encodings. No Go program in sight. -/
import Derived.Test.YtnckpnbecmmcpaaGreatDoorP2
namespace Go.Proofs.YtnckpnbecmmcpaaGreatDoor
open Go.RowKit
open W01 (putsT putsE strN strE strC str_ext data_append)
theorem app4_on {n : Nat} {L l : List ByteArray} {D : DiskD} (h : Good n L D) (h0 : D.left = 0) (hne : l ≠ []) (hf : tapeN L + tapeN l ≤ n) : (seqD (app4 L l) D).1 = 0 ∧ (seqD (app4 L l) D).2.left = 0 := by
  obtain ⟨x, -, h2, -, h4, -⟩ := tape_cons (L := L) hne
  have hs := outS_size L l
  have hO : OnD n D := ⟨h.inv, h.on, h0⟩
  have hys : ((outS L l).extract 0 1).size = 1 := by rw [ByteArray.size_extract]; omega
  generalize (outS L l).extract 0 1 = y at hys
  have hc1 : ((tapeN L : Int) + 1) = ((tapeN L + 1 : Nat) : Int) := by omega
  unfold app4
  rw [h2, hc1]
  obtain ⟨a1, a2, -, -, -⟩ := on_write hO (tapeN L + 1) x (by omega)
  obtain ⟨b1, b2, -, -, -⟩ := on_sync a2
  have key : ∀ (y : ByteArray), y.size = 1 → (seqD [wrO ((tapeN L + 1 : Nat) : Int) x, syO, wrO (tapeN L : Int) y, syO] D).1 = 0 ∧ (seqD [wrO ((tapeN L + 1 : Nat) : Int) x, syO, wrO (tapeN L : Int) y, syO] D).2.left = 0 := fun y hy => by
    obtain ⟨c1, c2, -, -, -⟩ := on_write b2 (tapeN L) y (by omega)
    obtain ⟨d1, d2, -, -, -⟩ := on_sync c2
    have e1 : (wrO ((tapeN L + 1 : Nat) : Int) x D).1 = 0 := a1
    have e2 : (syO (wrO ((tapeN L + 1 : Nat) : Int) x D).2).1 = 0 := b1
    have e3 : (wrO (tapeN L : Int) y (syO (wrO ((tapeN L + 1 : Nat) : Int) x D).2).2).1 = 0 := c1
    have e4 : (syO (wrO (tapeN L : Int) y (syO (wrO ((tapeN L + 1 : Nat) : Int) x D).2).2).2).1 = 0 := d1
    simp only [seqD, e1, e2, e3, e4, if_true]
    exact ⟨trivial, d2.left⟩
  exact key _ (by rw [ByteArray.size_extract]; omega)
theorem app_on {n : Nat} {L l : List ByteArray} {D : DiskD} (h : Good n L D) (h0 : D.left = 0) (hl : ∀ t ∈ l, t.size ≤ 65536) :
    (tapeN L + tapeN l ≤ n ∧ appE n ⟨L, false⟩ D l = 0 ∧ appJ n ⟨L, false⟩ D l = ⟨L ++ l, false⟩ ∧ Good n (L ++ l) (appD n ⟨L, false⟩ D l) ∧ (appD n ⟨L, false⟩ D l).left = 0) ∨
    (n < tapeN L + tapeN l ∧ appE n ⟨L, false⟩ D l = 341 ∧ appJ n ⟨L, false⟩ D l = ⟨L, false⟩ ∧ appD n ⟨L, false⟩ D l = D) := by
  have hfit := h.full.2.1
  have hs := outS_size L l
  have hb : longB l = false := by
    unfold longB
    rw [List.any_eq_false]
    intro t ht
    have := hl t ht
    simp; omega
  by_cases hf : tapeN L + tapeN l ≤ n
  · left
    refine ⟨hf, ?_⟩
    have hnf : ¬ (n : Int) - (tapeN L : Int) < ((outS L l).size : Int) := by omega
    by_cases hne : l = []
    · subst hne
      unfold appE appJ appD
      simp only [hb, Bool.false_eq_true, or_self, if_false]
      have hz : (outS L []).size = 0 := rfl
      rw [if_neg hnf, if_neg hnf, if_neg hnf, if_pos hz, if_pos hz, if_pos hz, List.append_nil]
      exact ⟨rfl, rfl, h, h0⟩
    · obtain ⟨e1, e2⟩ := app4_on h h0 hne hf
      rcases append_good h hl hne hf with ⟨-, hg⟩ | ⟨e, -⟩
      · have hz : ¬ (outS L l).size = 0 := by
          obtain ⟨x, -, -, -, h4, -⟩ := tape_cons (L := L) hne
          omega
        unfold appE appJ appD
        simp only [hb, Bool.false_eq_true, or_self, if_false]
        rw [if_neg hnf, if_neg hnf, if_neg hnf, if_neg hz, if_neg hz, if_neg hz, if_pos e1]
        exact ⟨e1, rfl, hg, e2⟩
      · rw [e1] at e; cases e
  · right
    have hnf : (n : Int) - (tapeN L : Int) < ((outS L l).size : Int) := by omega
    refine ⟨by omega, ?_⟩
    unfold appE appJ appD
    simp only [hb, Bool.false_eq_true, or_self, if_false]
    rw [if_pos hnf, if_pos hnf, if_pos hnf]
    exact ⟨rfl, rfl, rfl⟩
/-- A sound journal is opened. -/
theorem open_good {n : Nat} {L : List ByteArray} {D : DiskD} (h : Good n L D) (h0 : D.left = 0) : openE n D = 0 ∧ openL n D = L ∧ Good n L (openD n D) ∧ (openD n D).left = 0 :=
  open_reads h.inv h.on h0 h.pend h.full.reads
/-- A first byte that is neither 0 nor 1. -/
theorem open_bad {n : Nat} {D : DiskD} {x : UInt8} {r : List UInt8} (hO : OnD n D) (hv : D.vis = x :: r) (h0 : x ≠ 0) (h1 : x ≠ 1) : openE n D = 342 ∧ openD n D = D := by
  obtain ⟨r1, r2⟩ := on_read hO
  have hb : bts (strOf D.vis) = x :: r := by rw [hv]; simp [bts, strOf]
  obtain ⟨q1, q2⟩ := byA_drop (s := strOf D.vis) (a := 0) (by rw [List.drop_zero]; exact hb)
  have hl : loadS (strOf D.vis) = none := loadA_bad ⟨q1, by rw [q2]; intro e; exact h0 (UInt8.toNat_inj.1 e)⟩ (fun hr => h1 (UInt8.toNat_inj.1 (q2.symm.trans hr.mark)))
  unfold openE openD
  rw [if_neg (by rw [r1]; decide), if_neg (by rw [r1]; decide), r2, hl]
  exact ⟨rfl, rfl⟩
theorem enc_len1 {z : Nat} (h : z < 128) : (W01.enc z).length = 1 := by rw [W01.enc_lt h]; rfl
theorem enc_len2 {z : Nat} (h : 128 ≤ z) (h2 : z < 16384) : (W01.enc z).length = 2 := by rw [W01.enc_ge h, List.length_cons, enc_len1 (by omega)]
theorem zig_size (k : Nat) : W01.zig (k : Int) = 2 * k := by unfold W01.zig; rw [if_neg (by omega)]; omega
theorem putsT_len1 {t : ByteArray} (h : t.size < 64) : (putsT t).size = t.size + 1 := by
  unfold putsT
  rw [if_pos (by omega), ByteArray.size_append, W01.strOfNums_size, enc_len1 (by rw [zig_size]; omega)]; omega
theorem putsT_len2 {t : ByteArray} (h : 64 ≤ t.size) (h2 : t.size < 8192) : (putsT t).size = t.size + 2 := by
  unfold putsT
  rw [if_pos (by omega), ByteArray.size_append, W01.strOfNums_size, enc_len2 (by rw [zig_size]; omega) (by rw [zig_size]; omega)]; omega
end Go.Proofs.YtnckpnbecmmcpaaGreatDoor

/- Plain: a good disk is opened, whatever is scheduled. -/
import Derived.Test.YtnckpnbecmmcpaaDoorP4
namespace Go.Proofs.YtnckpnbecmmcpaaDoor
open Go.RowKit
theorem open_any {n : Nat} {L : List ByteArray} {D : DiskD} (h : Good n L D) : openE n D = 0 ∧ openL n D = L ∧ openD n D = D ∧ (readS D 0 n).size = n := by
  have e : readE D 0 n = 0 := by
    unfold readE
    rw [h.on, h.inv.dur]
    have : insideB n (0 : Int) (n : Int) = true := inside_iff.2 ⟨by omega, by omega, by omega, by omega⟩
    rw [this]; rfl
  have r2 : readS D 0 n = strOf D.vis := by
    unfold readS strOf
    rw [if_pos e]
    congr 2
    simp
    exact List.take_of_length_le (Nat.le_of_eq h.inv.visLen)
  have hload := h.full.reads.load
  have hsz : (strOf D.vis).size = n := by
    show (strOf D.vis).data.size = n
    unfold strOf
    rw [List.size_toArray]
    exact h.inv.visLen
  have hb : bts (strOf D.vis) = D.vis := by simp [bts, strOf]
  have hz : allZ (strOf D.vis) (tapeN L) = true := by
    refine allZ_iff.2 ?_
    rw [hb, hsz, h.full.2.2, show tapeN L = (bts (tapeS z32 L)).length by rw [bts_len]; rfl, List.drop_left]
    rfl
  unfold openE openL openD
  rw [if_neg (by rw [e]; decide), if_neg (by rw [e]; decide), r2, hload]
  simp only [hz, if_true]
  exact ⟨trivial, trivial, trivial, hsz⟩
end Go.Proofs.YtnckpnbecmmcpaaDoor

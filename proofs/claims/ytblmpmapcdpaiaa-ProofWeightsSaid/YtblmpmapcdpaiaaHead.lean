/- A program's box is written at its rows: what views say stays. -/
import Derived.Test.YtblmpmapcdpaiaaB2
namespace Go.Proofs.Ytblmpmapcdpaiaa
open Go.RowKit

theorem IntsAt.setHead {W : World} {v : Value} {l : List Int} {b : Nat} {x y z : Value} {t : TypeId} (h : IntsAt W v l) (hb : Blk W b #[x, y, z] t) (hy : ∃ (a : Option Addr) (n c : Nat), y = .slice a n c) (u : Value) : IntsAt (W.setCell ⟨b, 1, none⟩ u) v l := by
  obtain ⟨a, n, c, rfl⟩ := hy
  obtain ⟨a', c', e, h1, h2, h3⟩ := h
  refine ⟨a', c', e, h1, h2, fun hl => ?_⟩
  obtain ⟨b', off, e2, h4⟩ := h3 hl
  refine ⟨b', off, e2, fun j k hj => ?_⟩
  have := h4 j k hj
  refine (World.cell?_setCell_other _ _ _ _ (fun e3 => ?_)).trans this
  rw [← e3] at this
  have h5 := (hb.cell 1).symm.trans this
  simp at h5
theorem RowsAt.setHead {W : World} {v : Value} {l : List RowD} {b : Nat} {x y z : Value} {t : TypeId} (h : RowsAt W v l) (hb : Blk W b #[x, y, z] t) (hy : ∃ (a : Option Addr) (n c : Nat), y = .slice a n c) (u : Value) : RowsAt (W.setCell ⟨b, 1, none⟩ u) v l := by
  obtain ⟨a', c', e, h1, h2, h3⟩ := h
  refine ⟨a', c', e, h1, h2, fun hl => ?_⟩
  obtain ⟨b', off, e2, h4⟩ := h3 hl
  refine ⟨b', off, e2, fun j k hj => ?_⟩
  obtain ⟨cs, c1, c2, vc, c3, c4⟩ := h4 j k hj
  subst c3
  refine ⟨_, c1, fun i c hc => ?_, vc, rfl, c4.setHead hb hy u⟩
  refine (World.cell?_setCell_other _ _ _ _ (fun e3 => ?_)).trans (c2 i c hc)
  have h5 := c2 5 _ rfl
  have : b = b' := congrArg Addr.block e3
  subst this
  have h6 := (hb.cell (off + j * 6 + 5)).symm.trans h5
  rw [Array.getElem?_eq_none (by simp)] at h6
  cases h6
end Go.Proofs.Ytblmpmapcdpaiaa

/- package nadirref02: the constants; what block keeps of the words of h. -/
import Derived.Test.YtnckpnbecmmcpaaGreatDoorS6
import Derived.Test.YtnckpnbecmmcpaaGreatDoorSApp
namespace Go.Proofs.YtnckpnbecmmcpaaGreatDoor
open Go.RowKit
def listV (v : V8) : List Int := [v.a, v.b, v.c, v.d, v.e, v.f, v.g, v.h]
/-- A row of words in a block of its own. -/
theorem sliceNew {W : World} {B n : Nat} {ws : List Int} {t : TypeId} (h : Blk W B (ws.map (Value.int .u32)).toArray t) (hn : n = ws.length) (hm : n ≤ maxLen) : SliceOf (Value.int .u32) W (.slice (some ⟨B, 0, none⟩) n n) ws := by
  subst hn
  refine ⟨_, _, rfl, Nat.le_refl _, hm, fun _ => ⟨B, 0, rfl, fun j y hj => ?_⟩⟩
  rw [h.cell, Nat.zero_add, List.getElem?_toArray, List.getElem?_map, hj]; rfl
attribute [local irreducible] wpStill
set_option maxRecDepth 100000 in
set_option maxHeartbeats 4000000 in
theorem const88 (w : World) : Calls Tryz.prog 88 #[] w fun e w' => ∃ v, e = .returned v ∧ SliceOf (Value.int .u32) w' v KR ∧ Below w.heap.size w w' := by
  go_enter Tryz.func88, Tryz.ntmps88
  go_wp2
  go_ret
  exact ⟨_, rfl, sliceNew (B := w.heap.size) (ws := KR) (Blk.new w _ 109) rfl (by unfold maxLen; decide), (Below.refl _ _).alloc (Nat.le_refl _) _⟩
/-- A row of one's own, copied out of another. -/
theorem copied {W : World} {B : Nat} {v : Value} {ws : List Int} (h : W.ownsRow B 109 1 v (0 + ws.length) ([] ++ ws.map (Value.int .u32))) (hm : ws.length ≤ maxLen) : SliceOf (Value.int .u32) W v ws := by
  rw [Nat.zero_add, List.nil_append] at h
  rcases h.2 with ⟨rfl, hn⟩ | ⟨g, cap, cur, rfl, hb, hg, h1, h2, -⟩
  · exact ⟨none, 0, by rw [hn], by omega, by unfold maxLen; decide, fun hp => by omega⟩
  · refine ⟨_, cap, rfl, h1, h2, fun _ => ⟨g, 0, rfl, fun j y hj => ?_⟩⟩
    have q := h.cells (g := g) rfl j (.int .u32 y) (by rw [List.getElem?_map, hj]; rfl)
    rw [add_zero_off] at q
    rw [Nat.zero_add]; exact q
end Go.Proofs.YtnckpnbecmmcpaaGreatDoor

/- package nadirref02: block, the words. -/
import Derived.Test.YtnckpnbecmmcpaaDoorS6
import Derived.Test.YtnckpnbecmmcpaaDoorSApp
import Derived.Test.YtnckpnbecmmcpaaDoorS7a
namespace Go.Proofs.YtnckpnbecmmcpaaDoor
open Go.RowKit
/-- An own row of words. -/
def OwnW (W : World) (B : Nat) (v : Value) (ws : List Int) : Prop := W.ownsRow B 137 1 v ws.length (ws.map (Value.int .u32))
theorem OwnW.snoc {W : World} {B : Nat} {v : Value} {ws : List Int} {x : Int} (h : W.ownsRow B 137 1 v (ws.length + 1) (ws.map (Value.int .u32) ++ [.int .u32 x])) : OwnW W B v (ws ++ [x]) := by
  unfold OwnW
  rw [List.length_append, List.map_append]; exact h
theorem OwnW.len {W : World} {B : Nat} {v : Value} {ws : List Int} (h : OwnW W B v ws) : ∃ (a : Option Addr) (cap : Nat), v = .slice a ws.length cap ∧ ws.length ≤ cap ∧ cap ≤ maxLen := by
  rcases h.2 with ⟨rfl, hn⟩ | ⟨g, cap, cur, rfl, hb, hg, h1, h2, -⟩
  · exact ⟨none, 0, by rw [hn], by omega, by unfold maxLen; omega⟩
  · exact ⟨_, cap, rfl, h1, h2⟩
theorem ownsRow_belowZ {B : Nat} {e : TypeId} {k : Nat} {v : Value} {n : Nat} {xs : List Value} {w w' : World} (h : w.ownsRow B e k v n xs) (hb : Below w.heap.size w w') : w'.ownsRow B e k v n xs :=
  h.kept (row := none) ⟨hb.os, hb.tape, hb.output, hb.size, fun j hj _ => hb.block j hj⟩ (by cases hv : v.ownBlock <;> simp)
theorem mixV2 (x : Int) (a b : Nat) : bits .xor .u32 (rotr x a) (rotr x b) = mixV x [a, b] := by
  show _ = bits .xor .u32 (bits .xor .u32 0 (rotr x a)) (rotr x b)
  rw [xor_zero32 (isU_rotr _ _)]
theorem add_off (g o i : Nat) : (⟨g, o, none⟩ : Addr).add i = ⟨g, o + i, none⟩ := by
  unfold Addr.add; split <;> simp_all
theorem mixV3 (x : Int) (a b c : Nat) : bits .xor .u32 (bits .xor .u32 (rotr x a) (rotr x b)) (rotr x c) = mixV x [a, b, c] := by
  show _ = bits .xor .u32 (bits .xor .u32 (bits .xor .u32 0 (rotr x a)) (rotr x b)) (rotr x c)
  rw [xor_zero32 (isU_rotr _ _)]
/-- Eight words at the start of a block. -/
def W8At (W : World) (u : Value) (v : V8) : Prop := ∃ b cap, u = .slice (some ⟨b, 0, none⟩) 8 cap ∧ 8 ≤ cap ∧ cap ≤ maxLen ∧ ∀ j y, (listV v)[j]? = some y → W.cell? ⟨b, j, none⟩ = some (.int .u32 y)
theorem W8At.below {W W' : World} {u : Value} {v : V8} (h : W8At W u v) (hb : Below W.heap.size W W') : W8At W' u v := by
  obtain ⟨b, cap, h1, h2, h3, h4⟩ := h
  exact ⟨b, cap, h1, h2, h3, fun j y hj => (hb.cell (p := ⟨b, j, none⟩) (World.block_lt_of_cell? _ _ (h4 j y hj))).trans (h4 j y hj)⟩
theorem W8At.of_own {W : World} {B : Nat} {u : Value} {v : V8} (h : W.ownsRow B 137 1 u (0 + 8) ([] ++ (listV v).map (Value.int .u32))) : W8At W u v := by
  rw [Nat.zero_add, List.nil_append] at h
  rcases h.2 with ⟨rfl, hn⟩ | ⟨g, cap, cur, rfl, hb, hg, h1, h2, -⟩
  · omega
  · refine ⟨g, cap, rfl, h1, h2, fun j y hj => ?_⟩
    have q := h.cells (g := g) rfl j (.int .u32 y) (by rw [List.getElem?_map, hj]; rfl)
    rw [add_zero_off] at q
    exact q
theorem W8At.new (W : World) (v : V8) : W8At (W.alloc (.cells (cellsV v) 137)) (.slice (some ⟨W.heap.size, 0, none⟩) 8 8) v := by
  refine ⟨_, _, rfl, Nat.le_refl _, by unfold maxLen; decide, fun j y hj => ?_⟩
  rw [(Blk.new W (cellsV v) 137).cell]
  show ((listV v).map (Value.int .u32)).toArray[j]? = _
  rw [List.getElem?_toArray, List.getElem?_map, hj]; rfl
theorem OwnW.slice {W : World} {B : Nat} {u : Value} {ws : List Int} (h : OwnW W B u ws) (hm : ws.length ≤ maxLen) : SliceOf (Value.int .u32) W u ws := copied (B := B) (by rw [Nat.zero_add, List.nil_append]; exact h) hm
theorem wordsGet {ws : List Int} {j : Nat} (hj : j < ws.length) : (ws.map (Value.int .u32))[j]? = some (.int .u32 (ws.getD j 0)) := by
  rw [List.getElem?_map, List.getElem?_eq_getElem hj]; simp [List.getD, List.getElem?_eq_getElem hj]
attribute [local irreducible] wpStill
end Go.Proofs.YtnckpnbecmmcpaaDoor

/- nadirlaw18.sane: the loops. -/
import Derived.Test.YtmajkagmcdlncaaS1
namespace Go.Proofs.Ytmajkagmcdlncaa
open Go.RowKit Go.Shelf
open L18 (Pass Slot noPass noSlot validB)

def exHd : OptH := ⟨0, 0, 0, 0, 0, 0, 0, 0⟩
def exLost : Nat → List Int
  | 0 => []
  | 1 => [0]
  | 2 => [0, 1]
  | _ => [0, 1, 2]
def exAns : Nat → Int
  | 0 => 0
  | 1 => 2
  | 2 => 3
  | _ => -1
theorem sane_sent : ∀ j, j < 4 → sentN exL exO (exLost j) = exAns j ∧ sentE exL exO (exLost j) = 0 := by decide +kernel
theorem sane_late : ∀ j, j < 3 → (lastN exL exO (j : Nat) = exAns j ∧ lateQ exL exO (j : Nat) = exLost j) ∧ (sureE exL exO (j : Nat) = 0 ∧ sureB exL exO (j : Nat) = decide (j < 2)) := by decide +kernel
theorem sane_rest : (needN exL exO = 2 ∧ needE exL exO = 0) ∧ (failB exL exO 2 = true ∧ failL exL exO 2 = [0, 1, 2] ∧ sureE exL exO 2 = 0) ∧ (failB exL exO 1 = false ∧ sureE exL exO 1 = 0) ∧ (sureE exL exO 4 = 180 ∧ sentE exL exO [1, 0] = 180) ∧
    (validB exL exO = true ∧ validB exL [] = false ∧ L18.allowB exL [0, 2] 1 = true ∧ L18.allowB exL [0, 1] 1 = false) := by decide +kernel
def exOs : List OptD := [⟨exHd, exO⟩, ⟨exHd, [exSlot 1 100]⟩, ⟨exHd, [exSlot 2 1500]⟩]
theorem sane_worst : worstE exL exOs 1 = 0 ∧ worstL exL exOs 1 = [1, 2] ∧ worstS exL exOs 1 = [1, 2] := by decide +kernel
theorem sane_can : CanOK exL := by unfold CanOK; decide +kernel
/-- What holds in sane's world. -/
structure SW (w W : World) (B : Nat) (vp vs : Value) : Prop where
  below : Below w.heap.size w W
  ps : PassesAt W vp exL
  ob : Blk W B #[.int .i64 0, .int .i64 0, .int .i64 0, .int .i64 0, .int .i64 0, .int .i64 0, .int .i64 0, .int .i64 0, vs] 28
  sl : SlotsAt W vs exO
theorem SW.later {w W W' : World} {B : Nat} {vp vs : Value} (h : SW w W B vp vs) (hb : Below W.heap.size W W') : SW w W' B vp vs :=
  ⟨h.below.trans (hb.mono h.below.size), PassesAt.later h.ps hb, h.ob.below hb h.ob.lt, SlotsAt.later h.sl hb⟩
theorem SW.opt {w W : World} {B : Nat} {vp vs : Value} (h : SW w W B vp vs) : OptV W (.agg #[.int .i64 0, .int .i64 0, .int .i64 0, .int .i64 0, .int .i64 0, .int .i64 0, .int .i64 0, .int .i64 0, vs]) ⟨exHd, exO⟩ := ⟨vs, rfl, h.sl⟩
theorem SW.cells {w W : World} {B : Nat} {vp vs : Value} (h : SW w W B vp vs) : W.cell? ⟨B, 0, none⟩ = some (.int .i64 0) ∧ W.cell? ⟨B, 1, none⟩ = some (.int .i64 0) ∧ W.cell? ⟨B, 2, none⟩ = some (.int .i64 0) ∧ W.cell? ⟨B, 3, none⟩ = some (.int .i64 0) ∧ W.cell? ⟨B, 4, none⟩ = some (.int .i64 0) ∧ W.cell? ⟨B, 5, none⟩ = some (.int .i64 0) ∧ W.cell? ⟨B, 6, none⟩ = some (.int .i64 0) ∧ W.cell? ⟨B, 7, none⟩ = some (.int .i64 0) ∧ W.cell? ⟨B, 8, none⟩ = some vs :=
  ⟨h.ob.cell 0, h.ob.cell 1, h.ob.cell 2, h.ob.cell 3, h.ob.cell 4, h.ob.cell 5, h.ob.cell 6, h.ob.cell 7, h.ob.cell 8⟩
theorem ints_two {W : World} {B : Nat} {x y : Int} (h : Blk W B #[.int .i64 x, .int .i64 y] 3) : IntsAt W (.slice (some ⟨B, 0, none⟩) 2 2) [x, y] := by
  refine ⟨_, _, rfl, Nat.le_refl _, by unfold maxLen; decide, fun _ => ⟨_, _, rfl, fun j z hj => ?_⟩⟩
  rw [Nat.zero_add, h.cell]
  match j, hj with
  | 0, hj => cases hj; rfl
  | 1, hj => cases hj; rfl
theorem ints_three {W : World} {B : Nat} {x y z : Int} (h : Blk W B #[.int .i64 x, .int .i64 y, .int .i64 z] 3) : IntsAt W (.slice (some ⟨B, 0, none⟩) 3 3) [x, y, z] := by
  refine ⟨_, _, rfl, Nat.le_refl _, by unfold maxLen; decide, fun _ => ⟨_, _, rfl, fun j u hj => ?_⟩⟩
  rw [Nat.zero_add, h.cell]
  match j, hj with
  | 0, hj => cases hj; rfl
  | 1, hj => cases hj; rfl
  | 2, hj => cases hj; rfl
def exV (b : Nat) : Nat → Value
  | 0 => .slice none 0 0
  | 1 => .slice (some ⟨b, 0, none⟩) 1 1
  | 2 => .slice (some ⟨b + 1, 0, none⟩) 2 2
  | _ => .slice (some ⟨b + 1 + 1, 0, none⟩) 3 3
/-- The lists of the first loop, in memory from b on. -/
structure Lsts (W : World) (b : Nat) : Prop where
  k1 : Blk W b #[.int .i64 0] 3
  k2 : Blk W (b + 1) #[.int .i64 0, .int .i64 1] 3
  k3 : Blk W (b + 1 + 1) #[.int .i64 0, .int .i64 1, .int .i64 2] 3
  k4 : Blk W (b + 1 + 1 + 1) #[.slice none 0 0, .slice (some ⟨b, 0, none⟩) 1 1, .slice (some ⟨b + 1, 0, none⟩) 2 2, .slice (some ⟨b + 1 + 1, 0, none⟩) 3 3] 23
theorem Lsts.later {W W' : World} {b : Nat} (h : Lsts W b) (hb : Below W.heap.size W W') : Lsts W' b := ⟨h.k1.below hb h.k1.lt, h.k2.below hb h.k2.lt, h.k3.below hb h.k3.lt, h.k4.below hb h.k4.lt⟩
theorem Lsts.ints {W : World} {b : Nat} (h : Lsts W b) : ∀ j, IntsAt W (exV b j) (exLost j)
  | 0 => nil_ints _
  | 1 => ints_one h.k1
  | 2 => ints_two h.k2
  | _ + 3 => ints_three h.k3
theorem Lsts.at {W : World} {b : Nat} (h : Lsts W b) {j : Nat} (hj : j < 4) : W.cell? ⟨b + 1 + 1 + 1, j, none⟩ = some (exV b j) := by
  rw [h.k4.cell]
  match j, hj with
  | 0, _ | 1, _ | 2, _ | 3, _ => rfl
theorem exV_slice (b : Nat) : ∀ j, ∃ a, exV b j = .slice a (exLost j).length (exLost j).length
  | 0 => ⟨_, rfl⟩
  | 1 => ⟨_, rfl⟩
  | 2 => ⟨_, rfl⟩
  | _ + 3 => ⟨_, rfl⟩
theorem ans_at (W : World) {j : Nat} (hj : j < 4) : (W.alloc (.cells #[.int .i64 0, .int .i64 2, .int .i64 3, .int .i64 (-1)] 3)).cell? ⟨W.heap.size, j, none⟩ = some (.int .i64 (exAns j)) := by
  rw [(Blk.new W #[.int .i64 0, .int .i64 2, .int .i64 3, .int .i64 (-1)] 3).cell]
  match j, hj with
  | 0, _ | 1, _ | 2, _ | 3, _ => rfl
theorem ans_at3 (W : World) {j : Nat} (hj : j < 3) : (W.alloc (.cells #[.int .i64 0, .int .i64 2, .int .i64 3] 3)).cell? ⟨W.heap.size, j, none⟩ = some (.int .i64 (exAns j)) := by
  rw [(Blk.new W #[.int .i64 0, .int .i64 2, .int .i64 3] 3).cell]
  match j, hj with
  | 0, _ | 1, _ | 2, _ => rfl
end Go.Proofs.Ytmajkagmcdlncaa

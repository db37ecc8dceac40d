/- package nadirref02: block, the words. -/
import Derived.Test.YtnckpnbecmmcpaaGreatDoorS6
import Derived.Test.YtnckpnbecmmcpaaGreatDoorSApp
import Derived.Test.YtnckpnbecmmcpaaGreatDoorS7a
namespace Go.Proofs.YtnckpnbecmmcpaaGreatDoor
open Go.RowKit
/-- An own row of words. -/
def OwnW (W : World) (B : Nat) (v : Value) (ws : List Int) : Prop := W.ownsRow B 109 1 v ws.length (ws.map (Value.int .u32))
theorem OwnW.snoc {W : World} {B : Nat} {v : Value} {ws : List Int} {x : Int} (h : W.ownsRow B 109 1 v (ws.length + 1) (ws.map (Value.int .u32) ++ [.int .u32 x])) : OwnW W B v (ws ++ [x]) := by
  unfold OwnW
  rw [List.length_append, List.map_append]; exact h
theorem OwnW.len {W : World} {B : Nat} {v : Value} {ws : List Int} (h : OwnW W B v ws) : ∃ (a : Option Addr) (cap : Nat), v = .slice a ws.length cap ∧ ws.length ≤ cap ∧ cap ≤ maxLen := by
  rcases h.2 with ⟨rfl, hn⟩ | ⟨g, cap, cur, rfl, hb, hg, h1, h2, -⟩
  · exact ⟨none, 0, by rw [hn], by omega, by unfold maxLen; omega⟩
  · exact ⟨_, cap, rfl, h1, h2⟩
theorem ownsRow_belowZ {B : Nat} {e : TypeId} {k : Nat} {v : Value} {n : Nat} {xs : List Value} {w w' : World} (h : w.ownsRow B e k v n xs) (hb : Below w.heap.size w w') : w'.ownsRow B e k v n xs :=
  h.kept (row := none) ⟨hb.os, hb.tape, hb.output, hb.size, fun j hj _ => hb.block j hj⟩ (by cases hv : v.ownBlock <;> simp)
theorem mixV2 (x : Int) (a b : Nat) : bits .xor .u32 (rotr x a) (rotr x b) = mixV x [a, b] := by
  show _ = bits .xor .u32 (bits .xor .u32 0 (rotr x a)) (rotr x b)
  rw [xor_zero32 (isU_rotr _ _)]
theorem add_off (g o i : Nat) : (⟨g, o, none⟩ : Addr).add i = ⟨g, o + i, none⟩ := by
  unfold Addr.add; split <;> simp_all
theorem mixV3 (x : Int) (a b c : Nat) : bits .xor .u32 (bits .xor .u32 (rotr x a) (rotr x b)) (rotr x c) = mixV x [a, b, c] := by
  show _ = bits .xor .u32 (bits .xor .u32 (bits .xor .u32 0 (rotr x a)) (rotr x b)) (rotr x c)
  rw [xor_zero32 (isU_rotr _ _)]
/-- Eight words at the start of a block. -/
def W8At (W : World) (u : Value) (v : V8) : Prop := ∃ b cap, u = .slice (some ⟨b, 0, none⟩) 8 cap ∧ 8 ≤ cap ∧ cap ≤ maxLen ∧ ∀ j y, (listV v)[j]? = some y → W.cell? ⟨b, j, none⟩ = some (.int .u32 y)
theorem W8At.below {W W' : World} {u : Value} {v : V8} (h : W8At W u v) (hb : Below W.heap.size W W') : W8At W' u v := by
  obtain ⟨b, cap, h1, h2, h3, h4⟩ := h
  exact ⟨b, cap, h1, h2, h3, fun j y hj => (hb.cell (p := ⟨b, j, none⟩) (World.block_lt_of_cell? _ _ (h4 j y hj))).trans (h4 j y hj)⟩
theorem W8At.of_own {W : World} {B : Nat} {u : Value} {v : V8} (h : W.ownsRow B 109 1 u (0 + 8) ([] ++ (listV v).map (Value.int .u32))) : W8At W u v := by
  rw [Nat.zero_add, List.nil_append] at h
  rcases h.2 with ⟨rfl, hn⟩ | ⟨g, cap, cur, rfl, hb, hg, h1, h2, -⟩
  · omega
  · refine ⟨g, cap, rfl, h1, h2, fun j y hj => ?_⟩
    have q := h.cells (g := g) rfl j (.int .u32 y) (by rw [List.getElem?_map, hj]; rfl)
    rw [add_zero_off] at q
    exact q
theorem W8At.new (W : World) (v : V8) : W8At (W.alloc (.cells (cellsV v) 109)) (.slice (some ⟨W.heap.size, 0, none⟩) 8 8) v := by
  refine ⟨_, _, rfl, Nat.le_refl _, by unfold maxLen; decide, fun j y hj => ?_⟩
  rw [(Blk.new W (cellsV v) 109).cell]
  show ((listV v).map (Value.int .u32)).toArray[j]? = _
  rw [List.getElem?_toArray, List.getElem?_map, hj]; rfl
theorem OwnW.slice {W : World} {B : Nat} {u : Value} {ws : List Int} (h : OwnW W B u ws) (hm : ws.length ≤ maxLen) : SliceOf (Value.int .u32) W u ws := copied (B := B) (by rw [Nat.zero_add, List.nil_append]; exact h) hm
theorem wordsGet {ws : List Int} {j : Nat} (hj : j < ws.length) : (ws.map (Value.int .u32))[j]? = some (.int .u32 (ws.getD j 0)) := by
  rw [List.getElem?_map, List.getElem?_eq_getElem hj]; simp [List.getD, List.getElem?_eq_getElem hj]
attribute [local irreducible] wpStill
set_option maxRecDepth 100000 in
set_option maxHeartbeats 4000000 in
theorem block59 (vh v : Value) (h : V8) (l : List UInt8) (w : World) (hh : SliceOf (Value.int .u32) w vh (listV h)) (hv : BytesAt w v l) (hl : l.length = 64) : Calls Tryz.prog 59 #[vh, v] w fun e w' => ∃ v', e = .returned v' ∧ OwnW w' w.heap.size v' (listV (addB h l)) ∧ Below w.heap.size w w' := by
  obtain ⟨ah, caph, rfl, hleh, hcmh, hcellh⟩ := hh
  have h8 : (listV h).length = 8 := rfl
  rw [h8] at hleh hcellh ⊢
  obtain ⟨bh, oh, rfl, hch⟩ := hcellh (by decide)
  have HHC := Lib.hid hch
  have HCM := Lib.hid hcmh
  clear hch hcmh hcellh h8
  have HV := Lib.hid hv
  obtain ⟨a, cap, rfl, hle, hcm, -⟩ := hv
  rw [hl] at hle ⊢
  have HL := Lib.hid hl
  unfold maxLen at hcm
  clear hl
  go_enter Tryz.func59, Tryz.ntmps59
  go_wp2
  go_loopw [5, 6] (fun u5 u6 wr => ∃ i : Nat, i ≤ 16 ∧ u6 = .int .i64 (i : Int) ∧ OwnW wr w.heap.size u5 (words16 l i) ∧ Below w.heap.size w wr) (fun _ u6 _ => (16 - intOf u6).toNat)
  case atStart => exact ⟨0, by omega, rfl, World.ownsRow_nil _ _ _ _, Below.refl _ _⟩
  case round =>
    obtain ⟨i, hi, rfl, ho, hB⟩ := hrel
    by_cases hi16 : i < 16
    · have d1 : decide ((i : Int) < 16) = true := decide_eq_true (by omega)
      have hbyte := fun j (hj : j < 64) => (SliceOf.below HV.out hB).get (getD_some (0 : UInt8) (show j < l.length by rw [HL.out]; exact hj))
      obtain ⟨b, off, rfl, c0⟩ := hbyte (4 * i) (by omega)
      obtain ⟨b1, off1, e1, c1⟩ := hbyte (4 * i + 1) (by omega)
      cases e1
      obtain ⟨b1, off1, e1, c2⟩ := hbyte (4 * i + 2) (by omega)
      cases e1
      obtain ⟨b1, off1, e1, c3⟩ := hbyte (4 * i + 3) (by omega)
      cases e1
      have hbw : b < w.heap.size := by
        have q := (HV.out).get (getD_some (0 : UInt8) (show 4 * i < l.length by rw [HL.out]; omega))
        obtain ⟨b9, off9, e9, c9⟩ := q
        cases e9
        exact World.block_lt_of_cell? _ _ c9
      have HW := Lib.hid (words16_succ l i)
      have HWA := Lib.hid (show wordAt l i = word4 (byI l (4 * i)) (byI l (4 * i + 1)) (byI l (4 * i + 2)) (byI l (4 * i + 3)) from rfl)
      have hb0 := byI_bd l (4 * i)
      have hb1 := byI_bd l (4 * i + 1)
      have hb2 := byI_bd l (4 * i + 2)
      have hb3 := byI_bd l (4 * i + 3)
      unfold byI at HWA hb0 hb1 hb2 hb3
      generalize ((l.getD (4 * i) 0).toNat : Int) = y0 at c0 HWA hb0
      generalize ((l.getD (4 * i + 1) 0).toNat : Int) = y1 at c1 HWA hb1
      generalize ((l.getD (4 * i + 2) 0).toNat : Int) = y2 at c2 HWA hb2
      generalize ((l.getD (4 * i + 3) 0).toNat : Int) = y3 at c3 HWA hb3
      obtain ⟨j0, hj0⟩ : ∃ j, 4 * i = j := ⟨_, rfl⟩
      obtain ⟨j1, hj1⟩ : ∃ j, 4 * i + 1 = j := ⟨_, rfl⟩
      obtain ⟨j2, hj2⟩ : ∃ j, 4 * i + 2 = j := ⟨_, rfl⟩
      obtain ⟨j3, hj3⟩ : ∃ j, 4 * i + 3 = j := ⟨_, rfl⟩
      rw [hj0] at c0
      rw [hj1] at c1
      rw [hj2] at c2
      rw [hj3] at c3
      have w0 : IntKind.i64.wrap (4 * (i : Int)) = (j0 : Int) := by rw [wrapS _ (by omega) (by omega)]; omega
      have w1 : IntKind.i64.wrap ((j0 : Int) + 1) = (j1 : Int) := by rw [wrapS _ (by omega) (by omega)]; omega
      have w2 : IntKind.i64.wrap ((j0 : Int) + 2) = (j2 : Int) := by rw [wrapS _ (by omega) (by omega)]; omega
      have w3 : IntKind.i64.wrap ((j0 : Int) + 3) = (j3 : Int) := by rw [wrapS _ (by omega) (by omega)]; omega
      have i0 : (0 : Int) ≤ (j0 : Int) ∧ (j0 : Int) < 64 := by omega
      have i1 : (0 : Int) ≤ (j1 : Int) ∧ (j1 : Int) < 64 := by omega
      have i2 : (0 : Int) ≤ (j2 : Int) ∧ (j2 : Int) < 64 := by omega
      have i3 : (0 : Int) ≤ (j3 : Int) ∧ (j3 : Int) < 64 := by omega
      have v0 : IntKind.u32.wrap y0 = y0 := wraps_u32 _ (by omega) (by omega)
      have v1 : IntKind.u32.wrap y1 = y1 := wraps_u32 _ (by omega) (by omega)
      have v2 : IntKind.u32.wrap y2 = y2 := wraps_u32 _ (by omega) (by omega)
      have v3 : IntKind.u32.wrap y3 = y3 := wraps_u32 _ (by omega) (by omega)
      have hle16 := words16_len l i
      have ho' := ho
      unfold OwnW at ho'
      rw [hle16] at ho'
      have HO := Lib.hid ho'
      have HLE := Lib.hid hle16
      clear hbyte hj0 hj1 hj2 hj3 hle16 ho ho' hb0 hb1 hb2 hb3
      have HCB := Lib.hid (fun W (hW : Below w.heap.size wr W) => And.intro ((hW.cell (p := ⟨b, off + j0, none⟩) hbw).trans c0) (And.intro ((hW.cell (p := ⟨b, off + j1, none⟩) hbw).trans c1) (And.intro ((hW.cell (p := ⟨b, off + j2, none⟩) hbw).trans c2) ((hW.cell (p := ⟨b, off + j3, none⟩) hbw).trans c3))))
      have HO2 := Lib.hid (World.ownsRow.drew HO.out)
      clear HO
      go_upto_region 5 with (fail)
      refine wp_region_noPanic ?_
      refine wp_region_held_drew (S := (fun w' => Below w.heap.size wr w' ∧ w'.cell? ⟨b, off + j0, none⟩ = some (.int .u8 y0) ∧ w'.cell? ⟨b, off + j1, none⟩ = some (.int .u8 y1) ∧ w'.cell? ⟨b, off + j2, none⟩ = some (.int .u8 y2) ∧ w'.cell? ⟨b, off + j3, none⟩ = some (.int .u8 y3))) (by kernel_rfl) ⟨(Below.refl _ _).drew, HCB.out _ (Below.refl _ _).drew⟩ (fun hHeld => ?_)
      refine wpAnyH_take (i := 0) (oi := { dst := some 23, op := Op.move (Operand.tmp 5), type := 110, pos := "ref.go:43", after := #[], guard := none }) (v := ?_) rfl (by kernel_rfl) (by kernel_rfl) (by kernel_rfl) (fun _ _ _ h => h) (Or.inl ⟨by kernel_rfl, ?_⟩) (by assumption) ?_
      rotate_left
      · intro w hSw
        (try dsimp only at hSw)
        go_simp
        all_goals (with_reducible rfl)
      (try simp only [Act.put, List.setIfInBounds_toArray, List.set_cons_zero, List.set_cons_succ])
      refine wpAnyH_take (i := 1) (oi := { dst := some 24, op := Op.move (Operand.tmp 1), type := 39, pos := "ref.go:43", after := #[], guard := none }) (v := ?_) rfl (by kernel_rfl) (by kernel_rfl) (by kernel_rfl) (fun _ _ _ h => h) (Or.inl ⟨by kernel_rfl, ?_⟩) (by assumption) ?_
      rotate_left
      · intro w hSw
        (try dsimp only at hSw)
        go_simp
        all_goals (with_reducible rfl)
      (try simp only [Act.put, List.setIfInBounds_toArray, List.set_cons_zero, List.set_cons_succ])
      refine wpAnyH_take (i := 2) (oi := { dst := some 25, op := Op.move (Operand.tmp 6), type := 3, pos := "ref.go:43", after := #[], guard := none }) (v := ?_) rfl (by kernel_rfl) (by kernel_rfl) (by kernel_rfl) (fun _ _ _ h => h) (Or.inl ⟨by kernel_rfl, ?_⟩) (by assumption) ?_
      rotate_left
      · intro w hSw
        (try dsimp only at hSw)
        go_simp
        all_goals (with_reducible rfl)
      (try simp only [Act.put, List.setIfInBounds_toArray, List.set_cons_zero, List.set_cons_succ])
      refine wpAnyH_take (i := 3) (oi := { dst := some 26, op := Op.binOp BinOp.mul 3 (Operand.const (Value.int IntKind.i64 4)) (Operand.tmp 25) 3, type := 3, pos := "ref.go:43", after := #[{ on := 2, ground := Ground.data }], guard := none }) (v := ?_) rfl (by kernel_rfl) (by kernel_rfl) (by kernel_rfl) (fun _ _ _ h => h) (Or.inl ⟨by kernel_rfl, ?_⟩) (by assumption) ?_
      rotate_left
      · intro w hSw
        (try dsimp only at hSw)
        go_simp
        all_goals (with_reducible rfl)
      (try simp only [Act.put, List.setIfInBounds_toArray, List.set_cons_zero, List.set_cons_succ])
      refine wpAnyH_take (i := 4) (oi := { dst := some 27, op := Op.indexAddr 39 (Operand.tmp 24) (Operand.tmp 26), type := 0, pos := "ref.go:43", after := #[{ on := 1, ground := Ground.data }, { on := 3, ground := Ground.data }], guard := none }) (v := ?_) rfl (by kernel_rfl) (by kernel_rfl) (by kernel_rfl) (fun _ _ _ h => h) (Or.inl ⟨by kernel_rfl, ?_⟩) (by assumption) ?_
      rotate_left
      · intro w hSw
        (try dsimp only at hSw)
        go_simp
        all_goals (with_reducible rfl)
      (try simp only [Act.put, List.setIfInBounds_toArray, List.set_cons_zero, List.set_cons_succ])
      refine wpAnyH_take (i := 5) (oi := { dst := some 28, op := Op.load 5 (Operand.tmp 27), type := 5, pos := "ref.go:43", after := #[{ on := 4, ground := Ground.data }], guard := none }) (v := ?_) rfl (by kernel_rfl) (by kernel_rfl) (by kernel_rfl) (fun _ _ _ h => h) (Or.inl ⟨by kernel_rfl, ?_⟩) (by assumption) ?_
      rotate_left
      · intro w hSw
        (try dsimp only at hSw)
        go_simp
        all_goals (with_reducible rfl)
      (try simp only [Act.put, List.setIfInBounds_toArray, List.set_cons_zero, List.set_cons_succ])
      refine wpAnyH_take (i := 6) (oi := { dst := some 29, op := Op.convert 5 109 (Operand.tmp 28), type := 109, pos := "ref.go:43", after := #[{ on := 5, ground := Ground.data }], guard := none }) (v := ?_) rfl (by kernel_rfl) (by kernel_rfl) (by kernel_rfl) (fun _ _ _ h => h) (Or.inl ⟨by kernel_rfl, ?_⟩) (by assumption) ?_
      rotate_left
      · intro w hSw
        (try dsimp only at hSw)
        go_simp
        all_goals (with_reducible rfl)
      (try simp only [Act.put, List.setIfInBounds_toArray, List.set_cons_zero, List.set_cons_succ])
      refine wpAnyH_take (i := 7) (oi := { dst := some 30, op := Op.binOp BinOp.shl 109 (Operand.tmp 29) (Operand.const (Value.int IntKind.u64 24)) 113, type := 109, pos := "ref.go:43", after := #[{ on := 6, ground := Ground.data }], guard := none }) (v := ?_) rfl (by kernel_rfl) (by kernel_rfl) (by kernel_rfl) (fun _ _ _ h => h) (Or.inl ⟨by kernel_rfl, ?_⟩) (by assumption) ?_
      rotate_left
      · intro w hSw
        (try dsimp only at hSw)
        go_simp
        all_goals (with_reducible rfl)
      (try simp only [Act.put, List.setIfInBounds_toArray, List.set_cons_zero, List.set_cons_succ])
      refine wpAnyH_take (i := 8) (oi := { dst := some 31, op := Op.move (Operand.tmp 1), type := 39, pos := "ref.go:43", after := #[], guard := none }) (v := ?_) rfl (by kernel_rfl) (by kernel_rfl) (by kernel_rfl) (fun _ _ _ h => h) (Or.inl ⟨by kernel_rfl, ?_⟩) (by assumption) ?_
      rotate_left
      · intro w hSw
        (try dsimp only at hSw)
        go_simp
        all_goals (with_reducible rfl)
      (try simp only [Act.put, List.setIfInBounds_toArray, List.set_cons_zero, List.set_cons_succ])
      refine wpAnyH_take (i := 9) (oi := { dst := some 32, op := Op.move (Operand.tmp 6), type := 3, pos := "ref.go:43", after := #[], guard := none }) (v := ?_) rfl (by kernel_rfl) (by kernel_rfl) (by kernel_rfl) (fun _ _ _ h => h) (Or.inl ⟨by kernel_rfl, ?_⟩) (by assumption) ?_
      rotate_left
      · intro w hSw
        (try dsimp only at hSw)
        go_simp
        all_goals (with_reducible rfl)
      (try simp only [Act.put, List.setIfInBounds_toArray, List.set_cons_zero, List.set_cons_succ])
      refine wpAnyH_take (i := 10) (oi := { dst := some 33, op := Op.binOp BinOp.mul 3 (Operand.const (Value.int IntKind.i64 4)) (Operand.tmp 32) 3, type := 3, pos := "ref.go:43", after := #[{ on := 9, ground := Ground.data }], guard := none }) (v := ?_) rfl (by kernel_rfl) (by kernel_rfl) (by kernel_rfl) (fun _ _ _ h => h) (Or.inl ⟨by kernel_rfl, ?_⟩) (by assumption) ?_
      rotate_left
      · intro w hSw
        (try dsimp only at hSw)
        go_simp
        all_goals (with_reducible rfl)
      (try simp only [Act.put, List.setIfInBounds_toArray, List.set_cons_zero, List.set_cons_succ])
      refine wpAnyH_take (i := 11) (oi := { dst := some 34, op := Op.binOp BinOp.add 3 (Operand.tmp 33) (Operand.const (Value.int IntKind.i64 1)) 3, type := 3, pos := "ref.go:43", after := #[{ on := 10, ground := Ground.data }], guard := none }) (v := ?_) rfl (by kernel_rfl) (by kernel_rfl) (by kernel_rfl) (fun _ _ _ h => h) (Or.inl ⟨by kernel_rfl, ?_⟩) (by assumption) ?_
      rotate_left
      · intro w hSw
        (try dsimp only at hSw)
        go_simp
        all_goals (with_reducible rfl)
      (try simp only [Act.put, List.setIfInBounds_toArray, List.set_cons_zero, List.set_cons_succ])
      refine wpAnyH_take (i := 12) (oi := { dst := some 35, op := Op.indexAddr 39 (Operand.tmp 31) (Operand.tmp 34), type := 0, pos := "ref.go:43", after := #[{ on := 8, ground := Ground.data }, { on := 11, ground := Ground.data }], guard := none }) (v := ?_) rfl (by kernel_rfl) (by kernel_rfl) (by kernel_rfl) (fun _ _ _ h => h) (Or.inl ⟨by kernel_rfl, ?_⟩) (by assumption) ?_
      rotate_left
      · intro w hSw
        (try dsimp only at hSw)
        go_simp
        all_goals (with_reducible rfl)
      (try simp only [Act.put, List.setIfInBounds_toArray, List.set_cons_zero, List.set_cons_succ])
      refine wpAnyH_take (i := 13) (oi := { dst := some 36, op := Op.load 5 (Operand.tmp 35), type := 5, pos := "ref.go:43", after := #[{ on := 12, ground := Ground.data }], guard := none }) (v := ?_) rfl (by kernel_rfl) (by kernel_rfl) (by kernel_rfl) (fun _ _ _ h => h) (Or.inl ⟨by kernel_rfl, ?_⟩) (by assumption) ?_
      rotate_left
      · intro w hSw
        (try dsimp only at hSw)
        go_simp
        all_goals (with_reducible rfl)
      (try simp only [Act.put, List.setIfInBounds_toArray, List.set_cons_zero, List.set_cons_succ])
      refine wpAnyH_take (i := 14) (oi := { dst := some 37, op := Op.convert 5 109 (Operand.tmp 36), type := 109, pos := "ref.go:43", after := #[{ on := 13, ground := Ground.data }], guard := none }) (v := ?_) rfl (by kernel_rfl) (by kernel_rfl) (by kernel_rfl) (fun _ _ _ h => h) (Or.inl ⟨by kernel_rfl, ?_⟩) (by assumption) ?_
      rotate_left
      · intro w hSw
        (try dsimp only at hSw)
        go_simp
        all_goals (with_reducible rfl)
      (try simp only [Act.put, List.setIfInBounds_toArray, List.set_cons_zero, List.set_cons_succ])
      refine wpAnyH_take (i := 15) (oi := { dst := some 38, op := Op.binOp BinOp.shl 109 (Operand.tmp 37) (Operand.const (Value.int IntKind.u64 16)) 113, type := 109, pos := "ref.go:43", after := #[{ on := 14, ground := Ground.data }], guard := none }) (v := ?_) rfl (by kernel_rfl) (by kernel_rfl) (by kernel_rfl) (fun _ _ _ h => h) (Or.inl ⟨by kernel_rfl, ?_⟩) (by assumption) ?_
      rotate_left
      · intro w hSw
        (try dsimp only at hSw)
        go_simp
        all_goals (with_reducible rfl)
      (try simp only [Act.put, List.setIfInBounds_toArray, List.set_cons_zero, List.set_cons_succ])
      refine wpAnyH_take (i := 16) (oi := { dst := some 39, op := Op.binOp BinOp.or 109 (Operand.tmp 30) (Operand.tmp 38) 109, type := 109, pos := "ref.go:43", after := #[{ on := 7, ground := Ground.data }, { on := 15, ground := Ground.data }], guard := none }) (v := ?_) rfl (by kernel_rfl) (by kernel_rfl) (by kernel_rfl) (fun _ _ _ h => h) (Or.inl ⟨by kernel_rfl, ?_⟩) (by assumption) ?_
      rotate_left
      · intro w hSw
        (try dsimp only at hSw)
        go_simp
        all_goals (with_reducible rfl)
      (try simp only [Act.put, List.setIfInBounds_toArray, List.set_cons_zero, List.set_cons_succ])
      refine wpAnyH_take (i := 17) (oi := { dst := some 40, op := Op.move (Operand.tmp 1), type := 39, pos := "ref.go:43", after := #[], guard := none }) (v := ?_) rfl (by kernel_rfl) (by kernel_rfl) (by kernel_rfl) (fun _ _ _ h => h) (Or.inl ⟨by kernel_rfl, ?_⟩) (by assumption) ?_
      rotate_left
      · intro w hSw
        (try dsimp only at hSw)
        go_simp
        all_goals (with_reducible rfl)
      (try simp only [Act.put, List.setIfInBounds_toArray, List.set_cons_zero, List.set_cons_succ])
      refine wpAnyH_take (i := 18) (oi := { dst := some 41, op := Op.move (Operand.tmp 6), type := 3, pos := "ref.go:43", after := #[], guard := none }) (v := ?_) rfl (by kernel_rfl) (by kernel_rfl) (by kernel_rfl) (fun _ _ _ h => h) (Or.inl ⟨by kernel_rfl, ?_⟩) (by assumption) ?_
      rotate_left
      · intro w hSw
        (try dsimp only at hSw)
        go_simp
        all_goals (with_reducible rfl)
      (try simp only [Act.put, List.setIfInBounds_toArray, List.set_cons_zero, List.set_cons_succ])
      refine wpAnyH_take (i := 19) (oi := { dst := some 42, op := Op.binOp BinOp.mul 3 (Operand.const (Value.int IntKind.i64 4)) (Operand.tmp 41) 3, type := 3, pos := "ref.go:43", after := #[{ on := 18, ground := Ground.data }], guard := none }) (v := ?_) rfl (by kernel_rfl) (by kernel_rfl) (by kernel_rfl) (fun _ _ _ h => h) (Or.inl ⟨by kernel_rfl, ?_⟩) (by assumption) ?_
      rotate_left
      · intro w hSw
        (try dsimp only at hSw)
        go_simp
        all_goals (with_reducible rfl)
      (try simp only [Act.put, List.setIfInBounds_toArray, List.set_cons_zero, List.set_cons_succ])
      refine wpAnyH_take (i := 20) (oi := { dst := some 43, op := Op.binOp BinOp.add 3 (Operand.tmp 42) (Operand.const (Value.int IntKind.i64 2)) 3, type := 3, pos := "ref.go:43", after := #[{ on := 19, ground := Ground.data }], guard := none }) (v := ?_) rfl (by kernel_rfl) (by kernel_rfl) (by kernel_rfl) (fun _ _ _ h => h) (Or.inl ⟨by kernel_rfl, ?_⟩) (by assumption) ?_
      rotate_left
      · intro w hSw
        (try dsimp only at hSw)
        go_simp
        all_goals (with_reducible rfl)
      (try simp only [Act.put, List.setIfInBounds_toArray, List.set_cons_zero, List.set_cons_succ])
      refine wpAnyH_take (i := 21) (oi := { dst := some 44, op := Op.indexAddr 39 (Operand.tmp 40) (Operand.tmp 43), type := 0, pos := "ref.go:43", after := #[{ on := 17, ground := Ground.data }, { on := 20, ground := Ground.data }], guard := none }) (v := ?_) rfl (by kernel_rfl) (by kernel_rfl) (by kernel_rfl) (fun _ _ _ h => h) (Or.inl ⟨by kernel_rfl, ?_⟩) (by assumption) ?_
      rotate_left
      · intro w hSw
        (try dsimp only at hSw)
        go_simp
        all_goals (with_reducible rfl)
      (try simp only [Act.put, List.setIfInBounds_toArray, List.set_cons_zero, List.set_cons_succ])
      refine wpAnyH_take (i := 22) (oi := { dst := some 45, op := Op.load 5 (Operand.tmp 44), type := 5, pos := "ref.go:43", after := #[{ on := 21, ground := Ground.data }], guard := none }) (v := ?_) rfl (by kernel_rfl) (by kernel_rfl) (by kernel_rfl) (fun _ _ _ h => h) (Or.inl ⟨by kernel_rfl, ?_⟩) (by assumption) ?_
      rotate_left
      · intro w hSw
        (try dsimp only at hSw)
        go_simp
        all_goals (with_reducible rfl)
      (try simp only [Act.put, List.setIfInBounds_toArray, List.set_cons_zero, List.set_cons_succ])
      refine wpAnyH_take (i := 23) (oi := { dst := some 46, op := Op.convert 5 109 (Operand.tmp 45), type := 109, pos := "ref.go:43", after := #[{ on := 22, ground := Ground.data }], guard := none }) (v := ?_) rfl (by kernel_rfl) (by kernel_rfl) (by kernel_rfl) (fun _ _ _ h => h) (Or.inl ⟨by kernel_rfl, ?_⟩) (by assumption) ?_
      rotate_left
      · intro w hSw
        (try dsimp only at hSw)
        go_simp
        all_goals (with_reducible rfl)
      (try simp only [Act.put, List.setIfInBounds_toArray, List.set_cons_zero, List.set_cons_succ])
      refine wpAnyH_take (i := 24) (oi := { dst := some 47, op := Op.binOp BinOp.shl 109 (Operand.tmp 46) (Operand.const (Value.int IntKind.u64 8)) 113, type := 109, pos := "ref.go:43", after := #[{ on := 23, ground := Ground.data }], guard := none }) (v := ?_) rfl (by kernel_rfl) (by kernel_rfl) (by kernel_rfl) (fun _ _ _ h => h) (Or.inl ⟨by kernel_rfl, ?_⟩) (by assumption) ?_
      rotate_left
      · intro w hSw
        (try dsimp only at hSw)
        go_simp
        all_goals (with_reducible rfl)
      (try simp only [Act.put, List.setIfInBounds_toArray, List.set_cons_zero, List.set_cons_succ])
      refine wpAnyH_take (i := 25) (oi := { dst := some 48, op := Op.binOp BinOp.or 109 (Operand.tmp 39) (Operand.tmp 47) 109, type := 109, pos := "ref.go:43", after := #[{ on := 16, ground := Ground.data }, { on := 24, ground := Ground.data }], guard := none }) (v := ?_) rfl (by kernel_rfl) (by kernel_rfl) (by kernel_rfl) (fun _ _ _ h => h) (Or.inl ⟨by kernel_rfl, ?_⟩) (by assumption) ?_
      rotate_left
      · intro w hSw
        (try dsimp only at hSw)
        go_simp
        all_goals (with_reducible rfl)
      (try simp only [Act.put, List.setIfInBounds_toArray, List.set_cons_zero, List.set_cons_succ])
      refine wpAnyH_take (i := 26) (oi := { dst := some 49, op := Op.move (Operand.tmp 1), type := 39, pos := "ref.go:43", after := #[], guard := none }) (v := ?_) rfl (by kernel_rfl) (by kernel_rfl) (by kernel_rfl) (fun _ _ _ h => h) (Or.inl ⟨by kernel_rfl, ?_⟩) (by assumption) ?_
      rotate_left
      · intro w hSw
        (try dsimp only at hSw)
        go_simp
        all_goals (with_reducible rfl)
      (try simp only [Act.put, List.setIfInBounds_toArray, List.set_cons_zero, List.set_cons_succ])
      refine wpAnyH_take (i := 27) (oi := { dst := some 50, op := Op.move (Operand.tmp 6), type := 3, pos := "ref.go:43", after := #[], guard := none }) (v := ?_) rfl (by kernel_rfl) (by kernel_rfl) (by kernel_rfl) (fun _ _ _ h => h) (Or.inl ⟨by kernel_rfl, ?_⟩) (by assumption) ?_
      rotate_left
      · intro w hSw
        (try dsimp only at hSw)
        go_simp
        all_goals (with_reducible rfl)
      (try simp only [Act.put, List.setIfInBounds_toArray, List.set_cons_zero, List.set_cons_succ])
      refine wpAnyH_take (i := 28) (oi := { dst := some 51, op := Op.binOp BinOp.mul 3 (Operand.const (Value.int IntKind.i64 4)) (Operand.tmp 50) 3, type := 3, pos := "ref.go:43", after := #[{ on := 27, ground := Ground.data }], guard := none }) (v := ?_) rfl (by kernel_rfl) (by kernel_rfl) (by kernel_rfl) (fun _ _ _ h => h) (Or.inl ⟨by kernel_rfl, ?_⟩) (by assumption) ?_
      rotate_left
      · intro w hSw
        (try dsimp only at hSw)
        go_simp
        all_goals (with_reducible rfl)
      (try simp only [Act.put, List.setIfInBounds_toArray, List.set_cons_zero, List.set_cons_succ])
      refine wpAnyH_take (i := 29) (oi := { dst := some 52, op := Op.binOp BinOp.add 3 (Operand.tmp 51) (Operand.const (Value.int IntKind.i64 3)) 3, type := 3, pos := "ref.go:43", after := #[{ on := 28, ground := Ground.data }], guard := none }) (v := ?_) rfl (by kernel_rfl) (by kernel_rfl) (by kernel_rfl) (fun _ _ _ h => h) (Or.inl ⟨by kernel_rfl, ?_⟩) (by assumption) ?_
      rotate_left
      · intro w hSw
        (try dsimp only at hSw)
        go_simp
        all_goals (with_reducible rfl)
      (try simp only [Act.put, List.setIfInBounds_toArray, List.set_cons_zero, List.set_cons_succ])
      refine wpAnyH_take (i := 30) (oi := { dst := some 53, op := Op.indexAddr 39 (Operand.tmp 49) (Operand.tmp 52), type := 0, pos := "ref.go:43", after := #[{ on := 26, ground := Ground.data }, { on := 29, ground := Ground.data }], guard := none }) (v := ?_) rfl (by kernel_rfl) (by kernel_rfl) (by kernel_rfl) (fun _ _ _ h => h) (Or.inl ⟨by kernel_rfl, ?_⟩) (by assumption) ?_
      rotate_left
      · intro w hSw
        (try dsimp only at hSw)
        go_simp
        all_goals (with_reducible rfl)
      (try simp only [Act.put, List.setIfInBounds_toArray, List.set_cons_zero, List.set_cons_succ])
      refine wpAnyH_take (i := 31) (oi := { dst := some 54, op := Op.load 5 (Operand.tmp 53), type := 5, pos := "ref.go:43", after := #[{ on := 30, ground := Ground.data }], guard := none }) (v := ?_) rfl (by kernel_rfl) (by kernel_rfl) (by kernel_rfl) (fun _ _ _ h => h) (Or.inl ⟨by kernel_rfl, ?_⟩) (by assumption) ?_
      rotate_left
      · intro w hSw
        (try dsimp only at hSw)
        go_simp
        all_goals (with_reducible rfl)
      (try simp only [Act.put, List.setIfInBounds_toArray, List.set_cons_zero, List.set_cons_succ])
      refine wpAnyH_take (i := 32) (oi := { dst := some 55, op := Op.convert 5 109 (Operand.tmp 54), type := 109, pos := "ref.go:43", after := #[{ on := 31, ground := Ground.data }], guard := none }) (v := ?_) rfl (by kernel_rfl) (by kernel_rfl) (by kernel_rfl) (fun _ _ _ h => h) (Or.inl ⟨by kernel_rfl, ?_⟩) (by assumption) ?_
      rotate_left
      · intro w hSw
        (try dsimp only at hSw)
        go_simp
        all_goals (with_reducible rfl)
      (try simp only [Act.put, List.setIfInBounds_toArray, List.set_cons_zero, List.set_cons_succ])
      refine wpAnyH_take (i := 33) (oi := { dst := some 56, op := Op.binOp BinOp.or 109 (Operand.tmp 48) (Operand.tmp 55) 109, type := 109, pos := "ref.go:43", after := #[{ on := 25, ground := Ground.data }, { on := 32, ground := Ground.data }], guard := none }) (v := ?_) rfl (by kernel_rfl) (by kernel_rfl) (by kernel_rfl) (fun _ _ _ h => h) (Or.inl ⟨by kernel_rfl, ?_⟩) (by assumption) ?_
      rotate_left
      · intro w hSw
        (try dsimp only at hSw)
        go_simp
        all_goals (with_reducible rfl)
      (try simp only [Act.put, List.setIfInBounds_toArray, List.set_cons_zero, List.set_cons_succ])
      refine wpAnyH_one1 (i := 34) (o := { dst := some 57, op := Op.buildSlice 110 1 #[(0, Operand.tmp 56)], type := 110, pos := "ref.go:43", after := #[{ on := 33, ground := Ground.data }], guard := none }) (by kernel_rfl) rfl (fun K hK => ?_)
      go_simp
      refine hK.out _ _ ?_ (fun hHeld2 => ?_)
      · exact ⟨hHeld.1.alloc hB.size _, HCB.out _ (hHeld.1.alloc hB.size _)⟩
      clear hHeld
      have hHeld := hHeld2
      clear hHeld2
      clear hK K
      (try simp only [Act.put, List.setIfInBounds_toArray, List.set_cons_zero, List.set_cons_succ])
      refine wpAnyH_one1 (i := 35) (o := { dst := some 58, op := Op.call { callee := Callee.builtin Builtin.append, args := #[Operand.tmp 23, Operand.tmp 57], argTypes := #[110, 110] }, type := 110, pos := "ref.go:43", after := #[{ on := 0, ground := Ground.data }, { on := 34, ground := Ground.data }], guard := none }) (by kernel_rfl) rfl (fun K hK => ?_)
      refine step_pushK E110 rfl (.tmp 23) (.tmp 57) rfl w.heap.size HO2.out rfl rfl rfl (by intro u hu; simp at hu; rw [hu]; rfl) (by unfold maxLen; omega) (by omega) (Nat.le_trans hB.size (by simp)) (fun v' wq n1 n2 n3 => ?_)
      refine hK.out _ _ ?_ (fun hHeld2 => ?_)
      · exact ⟨(Below.refl _ _).drew.trans n2, HCB.out _ ((Below.refl _ _).drew.trans n2)⟩
      clear hHeld
      have hHeld := hHeld2
      clear hHeld2
      clear hK K
      (try simp only [Act.put, List.setIfInBounds_toArray, List.set_cons_zero, List.set_cons_succ])
      refine wpAnyH_take (i := 36) (oi := { dst := some 5, op := Op.assign (Operand.tmp 58), type := 110, pos := "ref.go:43", after := #[{ on := 35, ground := Ground.data }, { on := 35, ground := Ground.chain }, { on := 0, ground := Ground.phase }, { on := 1, ground := Ground.phase }, { on := 2, ground := Ground.phase }, { on := 3, ground := Ground.phase }, { on := 4, ground := Ground.phase }, { on := 5, ground := Ground.phase }, { on := 6, ground := Ground.phase }, { on := 7, ground := Ground.phase }, { on := 8, ground := Ground.phase }, { on := 9, ground := Ground.phase }, { on := 10, ground := Ground.phase }, { on := 11, ground := Ground.phase }, { on := 12, ground := Ground.phase }, { on := 13, ground := Ground.phase }, { on := 14, ground := Ground.phase }, { on := 15, ground := Ground.phase }, { on := 16, ground := Ground.phase }, { on := 17, ground := Ground.phase }, { on := 18, ground := Ground.phase }, { on := 19, ground := Ground.phase }, { on := 20, ground := Ground.phase }, { on := 21, ground := Ground.phase }, { on := 22, ground := Ground.phase }, { on := 23, ground := Ground.phase }, { on := 24, ground := Ground.phase }, { on := 25, ground := Ground.phase }, { on := 26, ground := Ground.phase }, { on := 27, ground := Ground.phase }, { on := 28, ground := Ground.phase }, { on := 29, ground := Ground.phase }, { on := 30, ground := Ground.phase }, { on := 31, ground := Ground.phase }, { on := 32, ground := Ground.phase }, { on := 33, ground := Ground.phase }, { on := 34, ground := Ground.phase }, { on := 35, ground := Ground.phase }], guard := none }) (v := ?_) rfl (by kernel_rfl) (by kernel_rfl) (by kernel_rfl) (fun _ _ _ h => h) (Or.inl ⟨by kernel_rfl, ?_⟩) (by assumption) ?_
      rotate_left
      · intro w hSw
        (try dsimp only at hSw)
        go_simp
        all_goals (with_reducible rfl)
      (try simp only [Act.put, List.setIfInBounds_toArray, List.set_cons_zero, List.set_cons_succ])
      refine wpAnyH_done (by kernel_rfl) ?_ _
      refine NoPanic.normal ?_
      have n4 := (Below.refl w.heap.size wr).drew.trans n2
      have HN := Lib.hid (show OwnW wq w.heap.size v' (words16 l (i + 1)) from by
        rw [HW.out, HWA.out]
        have n5 : wq.ownsRow w.heap.size 109 1 v' ((words16 l i).length + 1) ((words16 l i).map (Value.int .u32) ++ [.int .u32 (word4 y0 y1 y2 y3)]) := by rw [HLE.out]; exact n1
        exact OwnW.snoc n5)
      have HB := Lib.hid (hB.trans n4)
      clear n1 n2 n3 n4 hHeld HO2 HCB c0 c1 c2 c3 v0 v1 v2 v3 w0 w1 w2 w3
      generalize hX : bits .or .u32 _ _ = X
      clear hX
      go_wp2
      go_roundw
      case rel => exact ⟨i + 1, by omega, by go_num, HN.out, HB.out⟩
      case measure => simp [intOf]; omega
    · have he : i = 16 := by omega
      have d1 : decide ((i : Int) < 16) = false := decide_eq_false (by omega)
      have d1b : decide (i < 16) = false := decide_eq_false (by omega)
      rw [he] at ho
      have HO := Lib.hid ho
      have HB := Lib.hid hB
      have HWL := Lib.hid (extW_len (words16 l 16))
      have HSC := Lib.hid (show schedW l = extW (words16 l 16) (64 - 16) from rfl)
      have h16l := words16_len l 16
      obtain ⟨W16, hW16⟩ : ∃ W16, words16 l 16 = W16 := ⟨_, rfl⟩
      rw [hW16] at HO HWL HSC h16l
      clear ho hB he hW16
      obtain ⟨w5, hren⟩ : ∃ z, z = wr := ⟨_, rfl⟩
      subst hren
      go_wp2
      go_loopw [5, 7] (fun u5 u7 wr => ∃ i : Nat, 16 ≤ i ∧ i ≤ 64 ∧ u7 = .int .i64 (i : Int) ∧ OwnW wr w.heap.size u5 (extW W16 (i - 16)) ∧ Below w.heap.size w wr) (fun _ u7 _ => (64 - intOf u7).toNat)
      case atStart => exact ⟨16, by omega, by omega, rfl, HO.out, HB.out⟩
      case round =>
        clear d1 d1b
        obtain ⟨i, hi1, hi2, rfl, ho, hB⟩ := hrel
        have hlen : (extW W16 (i - 16)).length = i := by rw [HWL.out]; omega
        by_cases hlt : i < 64
        · have d1 : decide ((i : Int) < 64) = true := decide_eq_true (by omega)
          have HW := Lib.hid (show extW W16 (i + 1 - 16) = extW W16 (i - 16) ++ [nextV ((extW W16 (i - 16)).getD (i - 16) 0) ((extW W16 (i - 16)).getD (i - 15) 0) ((extW W16 (i - 16)).getD (i - 7) 0) ((extW W16 (i - 16)).getD (i - 2) 0)] by
            rw [show i + 1 - 16 = (i - 16) + 1 by omega, extW]
            unfold nextW
            rw [hlen])
          generalize extW W16 (i - 16) = ws at ho hlen HW
          have ho' := ho
          unfold OwnW at ho'
          rw [hlen] at ho'
          obtain ⟨g, cap, rfl, hg, hcap, hcm2⟩ : ∃ g cap, u5 = .slice (some ⟨g, 0, none⟩) i cap ∧ g < wr.heap.size ∧ i ≤ cap ∧ cap ≤ maxLen := by
            rcases ho'.2 with ⟨rfl, hn⟩ | ⟨g, cap, cur, rfl, hb, hg, h1, h2, -⟩
            · omega
            · exact ⟨g, cap, rfl, World.block_lt_of_cell? _ _ ((ho'.cells (g := g) rfl 0 _ (wordsGet (by omega)))), h1, h2⟩
          unfold maxLen at hcm2
          have HCELL := Lib.hid (fun j (hj : j < ws.length) => (show wr.cell? ⟨g, j, none⟩ = some (.int .u32 (ws.getD j 0)) from by have q := ho'.cells (g := g) rfl j _ (wordsGet hj); rw [add_zero_off] at q; exact q))
          obtain ⟨j16, hj16⟩ : ∃ j, i - 16 = j := ⟨_, rfl⟩
          obtain ⟨j15, hj15⟩ : ∃ j, i - 15 = j := ⟨_, rfl⟩
          obtain ⟨j7, hj7⟩ : ∃ j, i - 7 = j := ⟨_, rfl⟩
          obtain ⟨j2, hj2⟩ : ∃ j, i - 2 = j := ⟨_, rfl⟩
          rw [hj16, hj15, hj7, hj2] at HW
          have c16 := HCELL.out j16 (by omega)
          have c15 := HCELL.out j15 (by omega)
          have c7 := HCELL.out j7 (by omega)
          have c2 := HCELL.out j2 (by omega)
          have x16e := wordsGet (ws := ws) (j := j16) (by omega)
          have x7e := wordsGet (ws := ws) (j := j7) (by omega)
          generalize ws.getD j16 0 = x16 at c16 HW x16e
          generalize ws.getD j15 0 = x15 at c15 HW
          generalize ws.getD j7 0 = x7 at c7 HW x7e
          generalize ws.getD j2 0 = x2 at c2 HW
          have w1 : IntKind.i64.wrap ((i : Int) - 16) = (j16 : Int) := by rw [wrapS _ (by omega) (by omega)]; omega
          have w2 : IntKind.i64.wrap ((i : Int) - 15) = (j15 : Int) := by rw [wrapS _ (by omega) (by omega)]; omega
          have w3 : IntKind.i64.wrap ((i : Int) - 7) = (j7 : Int) := by rw [wrapS _ (by omega) (by omega)]; omega
          have w4 : IntKind.i64.wrap ((i : Int) - 2) = (j2 : Int) := by rw [wrapS _ (by omega) (by omega)]; omega
          have i16 : (0 : Int) ≤ (j16 : Int) ∧ (j16 : Int) < (i : Int) := by omega
          have i15 : (0 : Int) ≤ (j15 : Int) ∧ (j15 : Int) < (i : Int) := by omega
          have i7 : (0 : Int) ≤ (j7 : Int) ∧ (j7 : Int) < (i : Int) := by omega
          have i2 : (0 : Int) ≤ (j2 : Int) ∧ (j2 : Int) < (i : Int) := by omega
          have HX16 := Lib.hid x16e
          have HX7 := Lib.hid x7e
          have HC15 := Lib.hid (fun W (hW : Below wr.heap.size wr W) => (hW.cell (p := ⟨g, j15, none⟩) hg).trans c15)
          have HC0 := Lib.hid (fun W (hW : Below wr.heap.size wr W) => And.intro ((hW.cell (p := ⟨g, j16, none⟩) hg).trans c16) (And.intro ((hW.cell (p := ⟨g, j7, none⟩) hg).trans c7) ((hW.cell (p := ⟨g, j2, none⟩) hg).trans c2)))
          have HO := Lib.hid ho'
          have HLEN := Lib.hid hlen
          clear ho ho' hlen x16e x7e hj16 hj15 hj7 hj2 HCELL c16 c7 c2 c15
          go_upto_region 9 with (fail)
          refine wp_region_noPanic ?_
          refine wp_region_held_drew (S := (fun w' => Below wr.heap.size wr w' ∧ w'.cell? ⟨g, j15, none⟩ = some (.int .u32 x15))) (by kernel_rfl) ⟨(Below.refl _ _).drew, HC15.out _ (Below.refl _ _).drew⟩ (fun hHeld => ?_)
          refine wpAnyH_take (i := 0) (oi := { dst := some 63, op := Op.move (Operand.tmp 5), type := 110, pos := "ref.go:46", after := #[], guard := none }) (v := ?_) rfl (by kernel_rfl) (by kernel_rfl) (by kernel_rfl) (fun _ _ _ h => h) (Or.inl ⟨by kernel_rfl, ?_⟩) (by assumption) ?_
          rotate_left
          · intro w hSw
            (try dsimp only at hSw)
            go_simp
            all_goals (with_reducible rfl)
          (try simp only [Act.put, List.setIfInBounds_toArray, List.set_cons_zero, List.set_cons_succ])
          refine wpAnyH_take (i := 1) (oi := { dst := some 64, op := Op.move (Operand.tmp 7), type := 3, pos := "ref.go:46", after := #[], guard := none }) (v := ?_) rfl (by kernel_rfl) (by kernel_rfl) (by kernel_rfl) (fun _ _ _ h => h) (Or.inl ⟨by kernel_rfl, ?_⟩) (by assumption) ?_
          rotate_left
          · intro w hSw
            (try dsimp only at hSw)
            go_simp
            all_goals (with_reducible rfl)
          (try simp only [Act.put, List.setIfInBounds_toArray, List.set_cons_zero, List.set_cons_succ])
          refine wpAnyH_take (i := 2) (oi := { dst := some 65, op := Op.binOp BinOp.sub 3 (Operand.tmp 64) (Operand.const (Value.int IntKind.i64 15)) 3, type := 3, pos := "ref.go:46", after := #[{ on := 1, ground := Ground.data }], guard := none }) (v := ?_) rfl (by kernel_rfl) (by kernel_rfl) (by kernel_rfl) (fun _ _ _ h => h) (Or.inl ⟨by kernel_rfl, ?_⟩) (by assumption) ?_
          rotate_left
          · intro w hSw
            (try dsimp only at hSw)
            go_simp
            all_goals (with_reducible rfl)
          (try simp only [Act.put, List.setIfInBounds_toArray, List.set_cons_zero, List.set_cons_succ])
          refine wpAnyH_take (i := 3) (oi := { dst := some 66, op := Op.indexAddr 110 (Operand.tmp 63) (Operand.tmp 65), type := 0, pos := "ref.go:46", after := #[{ on := 0, ground := Ground.data }, { on := 2, ground := Ground.data }], guard := none }) (v := ?_) rfl (by kernel_rfl) (by kernel_rfl) (by kernel_rfl) (fun _ _ _ h => h) (Or.inl ⟨by kernel_rfl, ?_⟩) (by assumption) ?_
          rotate_left
          · intro w hSw
            (try dsimp only at hSw)
            go_simp
            all_goals (with_reducible rfl)
          (try simp only [Act.put, List.setIfInBounds_toArray, List.set_cons_zero, List.set_cons_succ])
          refine wpAnyH_take (i := 4) (oi := { dst := some 67, op := Op.load 109 (Operand.tmp 66), type := 109, pos := "ref.go:46", after := #[{ on := 3, ground := Ground.data }], guard := none }) (v := ?_) rfl (by kernel_rfl) (by kernel_rfl) (by kernel_rfl) (fun _ _ _ h => h) (Or.inl ⟨by kernel_rfl, ?_⟩) (by assumption) ?_
          rotate_left
          · intro w hSw
            (try dsimp only at hSw)
            go_simp
            all_goals (with_reducible rfl)
          (try simp only [Act.put, List.setIfInBounds_toArray, List.set_cons_zero, List.set_cons_succ])
          refine wpAnyH_take (i := 6) (oi := { dst := some 69, op := Op.move (Operand.tmp 5), type := 110, pos := "ref.go:46", after := #[], guard := none }) (v := ?_) rfl (by kernel_rfl) (by kernel_rfl) (by kernel_rfl) (fun _ _ _ h => h) (Or.inl ⟨by kernel_rfl, ?_⟩) (by assumption) ?_
          rotate_left
          · intro w hSw
            (try dsimp only at hSw)
            go_simp
            all_goals (with_reducible rfl)
          (try simp only [Act.put, List.setIfInBounds_toArray, List.set_cons_zero, List.set_cons_succ])
          refine wpAnyH_take (i := 7) (oi := { dst := some 70, op := Op.move (Operand.tmp 7), type := 3, pos := "ref.go:46", after := #[], guard := none }) (v := ?_) rfl (by kernel_rfl) (by kernel_rfl) (by kernel_rfl) (fun _ _ _ h => h) (Or.inl ⟨by kernel_rfl, ?_⟩) (by assumption) ?_
          rotate_left
          · intro w hSw
            (try dsimp only at hSw)
            go_simp
            all_goals (with_reducible rfl)
          (try simp only [Act.put, List.setIfInBounds_toArray, List.set_cons_zero, List.set_cons_succ])
          refine wpAnyH_take (i := 8) (oi := { dst := some 71, op := Op.binOp BinOp.sub 3 (Operand.tmp 70) (Operand.const (Value.int IntKind.i64 15)) 3, type := 3, pos := "ref.go:46", after := #[{ on := 7, ground := Ground.data }], guard := none }) (v := ?_) rfl (by kernel_rfl) (by kernel_rfl) (by kernel_rfl) (fun _ _ _ h => h) (Or.inl ⟨by kernel_rfl, ?_⟩) (by assumption) ?_
          rotate_left
          · intro w hSw
            (try dsimp only at hSw)
            go_simp
            all_goals (with_reducible rfl)
          (try simp only [Act.put, List.setIfInBounds_toArray, List.set_cons_zero, List.set_cons_succ])
          refine wpAnyH_take (i := 9) (oi := { dst := some 72, op := Op.indexAddr 110 (Operand.tmp 69) (Operand.tmp 71), type := 0, pos := "ref.go:46", after := #[{ on := 6, ground := Ground.data }, { on := 8, ground := Ground.data }], guard := none }) (v := ?_) rfl (by kernel_rfl) (by kernel_rfl) (by kernel_rfl) (fun _ _ _ h => h) (Or.inl ⟨by kernel_rfl, ?_⟩) (by assumption) ?_
          rotate_left
          · intro w hSw
            (try dsimp only at hSw)
            go_simp
            all_goals (with_reducible rfl)
          (try simp only [Act.put, List.setIfInBounds_toArray, List.set_cons_zero, List.set_cons_succ])
          refine wpAnyH_take (i := 10) (oi := { dst := some 73, op := Op.load 109 (Operand.tmp 72), type := 109, pos := "ref.go:46", after := #[{ on := 9, ground := Ground.data }], guard := none }) (v := ?_) rfl (by kernel_rfl) (by kernel_rfl) (by kernel_rfl) (fun _ _ _ h => h) (Or.inl ⟨by kernel_rfl, ?_⟩) (by assumption) ?_
          rotate_left
          · intro w hSw
            (try dsimp only at hSw)
            go_simp
            all_goals (with_reducible rfl)
          (try simp only [Act.put, List.setIfInBounds_toArray, List.set_cons_zero, List.set_cons_succ])
          refine wpAnyH_take (i := 13) (oi := { dst := some 76, op := Op.move (Operand.tmp 5), type := 110, pos := "ref.go:46", after := #[], guard := none }) (v := ?_) rfl (by kernel_rfl) (by kernel_rfl) (by kernel_rfl) (fun _ _ _ h => h) (Or.inl ⟨by kernel_rfl, ?_⟩) (by assumption) ?_
          rotate_left
          · intro w hSw
            (try dsimp only at hSw)
            go_simp
            all_goals (with_reducible rfl)
          (try simp only [Act.put, List.setIfInBounds_toArray, List.set_cons_zero, List.set_cons_succ])
          refine wpAnyH_take (i := 14) (oi := { dst := some 77, op := Op.move (Operand.tmp 7), type := 3, pos := "ref.go:46", after := #[], guard := none }) (v := ?_) rfl (by kernel_rfl) (by kernel_rfl) (by kernel_rfl) (fun _ _ _ h => h) (Or.inl ⟨by kernel_rfl, ?_⟩) (by assumption) ?_
          rotate_left
          · intro w hSw
            (try dsimp only at hSw)
            go_simp
            all_goals (with_reducible rfl)
          (try simp only [Act.put, List.setIfInBounds_toArray, List.set_cons_zero, List.set_cons_succ])
          refine wpAnyH_take (i := 15) (oi := { dst := some 78, op := Op.binOp BinOp.sub 3 (Operand.tmp 77) (Operand.const (Value.int IntKind.i64 15)) 3, type := 3, pos := "ref.go:46", after := #[{ on := 14, ground := Ground.data }], guard := none }) (v := ?_) rfl (by kernel_rfl) (by kernel_rfl) (by kernel_rfl) (fun _ _ _ h => h) (Or.inl ⟨by kernel_rfl, ?_⟩) (by assumption) ?_
          rotate_left
          · intro w hSw
            (try dsimp only at hSw)
            go_simp
            all_goals (with_reducible rfl)
          (try simp only [Act.put, List.setIfInBounds_toArray, List.set_cons_zero, List.set_cons_succ])
          refine wpAnyH_take (i := 16) (oi := { dst := some 79, op := Op.indexAddr 110 (Operand.tmp 76) (Operand.tmp 78), type := 0, pos := "ref.go:46", after := #[{ on := 13, ground := Ground.data }, { on := 15, ground := Ground.data }], guard := none }) (v := ?_) rfl (by kernel_rfl) (by kernel_rfl) (by kernel_rfl) (fun _ _ _ h => h) (Or.inl ⟨by kernel_rfl, ?_⟩) (by assumption) ?_
          rotate_left
          · intro w hSw
            (try dsimp only at hSw)
            go_simp
            all_goals (with_reducible rfl)
          (try simp only [Act.put, List.setIfInBounds_toArray, List.set_cons_zero, List.set_cons_succ])
          refine wpAnyH_take (i := 17) (oi := { dst := some 80, op := Op.load 109 (Operand.tmp 79), type := 109, pos := "ref.go:46", after := #[{ on := 16, ground := Ground.data }], guard := none }) (v := ?_) rfl (by kernel_rfl) (by kernel_rfl) (by kernel_rfl) (fun _ _ _ h => h) (Or.inl ⟨by kernel_rfl, ?_⟩) (by assumption) ?_
          rotate_left
          · intro w hSw
            (try dsimp only at hSw)
            go_simp
            all_goals (with_reducible rfl)
          (try simp only [Act.put, List.setIfInBounds_toArray, List.set_cons_zero, List.set_cons_succ])
          refine wpAnyH_take (i := 18) (oi := { dst := some 81, op := Op.binOp BinOp.shr 109 (Operand.tmp 80) (Operand.const (Value.int IntKind.u64 3)) 113, type := 109, pos := "ref.go:46", after := #[{ on := 17, ground := Ground.data }], guard := none }) (v := ?_) rfl (by kernel_rfl) (by kernel_rfl) (by kernel_rfl) (fun _ _ _ h => h) (Or.inl ⟨by kernel_rfl, ?_⟩) (by assumption) ?_
          rotate_left
          · intro w hSw
            (try dsimp only at hSw)
            go_simp
            all_goals (with_reducible rfl)
          (try simp only [Act.put, List.setIfInBounds_toArray, List.set_cons_zero, List.set_cons_succ])
          refine wpAnyH_one1 (i := 5) (o := { dst := some 68, op := Op.call { callee := Callee.value (Operand.func 87), args := #[Operand.tmp 67, Operand.const (Value.int IntKind.i64 7)], argTypes := #[109, 3] }, type := 109, pos := "ref.go:46", after := #[{ on := 4, ground := Ground.data }], guard := none }) (by kernel_rfl) rfl (fun K hK => ?_)
          go_simp
          go_at_call 87
          refine (rot87 x15 7 _ (by decide)).mono ?_
          rintro e q7 ⟨rfl, b7⟩
          refine hK.out _ _ ?_ (fun hHeld2 => ?_)
          · exact ⟨hHeld.1.trans (b7.mono hHeld.1.size), HC15.out _ (hHeld.1.trans (b7.mono hHeld.1.size))⟩
          clear hHeld
          have hHeld := hHeld2
          clear hHeld2
          clear hK K
          (try simp only [Act.put, List.setIfInBounds_toArray, List.set_cons_zero, List.set_cons_succ])
          refine wpAnyH_one1 (i := 11) (o := { dst := some 74, op := Op.call { callee := Callee.value (Operand.func 87), args := #[Operand.tmp 73, Operand.const (Value.int IntKind.i64 18)], argTypes := #[109, 3] }, type := 109, pos := "ref.go:46", after := #[{ on := 10, ground := Ground.data }, { on := 5, ground := Ground.chain }], guard := none }) (by kernel_rfl) rfl (fun K hK => ?_)
          go_simp
          go_at_call 87
          refine (rot87 x15 18 _ (by decide)).mono ?_
          rintro e q18 ⟨rfl, b18⟩
          refine hK.out _ _ ?_ (fun hHeld2 => ?_)
          · exact ⟨hHeld.1.trans (b18.mono hHeld.1.size), HC15.out _ (hHeld.1.trans (b18.mono hHeld.1.size))⟩
          clear hHeld
          have hHeld := hHeld2
          clear hHeld2
          clear hK K
          (try simp only [Act.put, List.setIfInBounds_toArray, List.set_cons_zero, List.set_cons_succ])
          refine wpAnyH_take (i := 12) (oi := { dst := some 75, op := Op.binOp BinOp.xor 109 (Operand.tmp 68) (Operand.tmp 74) 109, type := 109, pos := "ref.go:46", after := #[{ on := 5, ground := Ground.data }, { on := 11, ground := Ground.data }], guard := none }) (v := ?_) rfl (by kernel_rfl) (by kernel_rfl) (by kernel_rfl) (fun _ _ _ h => h) (Or.inl ⟨by kernel_rfl, ?_⟩) (by assumption) ?_
          rotate_left
          · intro w hSw
            (try dsimp only at hSw)
            go_simp
            all_goals (with_reducible rfl)
          (try simp only [Act.put, List.setIfInBounds_toArray, List.set_cons_zero, List.set_cons_succ])
          refine wpAnyH_take (i := 19) (oi := { dst := some 82, op := Op.binOp BinOp.xor 109 (Operand.tmp 75) (Operand.tmp 81) 109, type := 109, pos := "ref.go:46", after := #[{ on := 12, ground := Ground.data }, { on := 18, ground := Ground.data }], guard := none }) (v := ?_) rfl (by kernel_rfl) (by kernel_rfl) (by kernel_rfl) (fun _ _ _ h => h) (Or.inl ⟨by kernel_rfl, ?_⟩) (by assumption) ?_
          rotate_left
          · intro w hSw
            (try dsimp only at hSw)
            go_simp
            all_goals (with_reducible rfl)
          (try simp only [Act.put, List.setIfInBounds_toArray, List.set_cons_zero, List.set_cons_succ])
          refine wpAnyH_take (i := 20) (oi := { dst := some 8, op := Op.assign (Operand.tmp 82), type := 109, pos := "ref.go:46", after := #[{ on := 19, ground := Ground.data }, { on := 11, ground := Ground.chain }, { on := 0, ground := Ground.phase }, { on := 1, ground := Ground.phase }, { on := 2, ground := Ground.phase }, { on := 3, ground := Ground.phase }, { on := 4, ground := Ground.phase }, { on := 5, ground := Ground.phase }, { on := 6, ground := Ground.phase }, { on := 7, ground := Ground.phase }, { on := 8, ground := Ground.phase }, { on := 9, ground := Ground.phase }, { on := 10, ground := Ground.phase }, { on := 11, ground := Ground.phase }, { on := 12, ground := Ground.phase }, { on := 13, ground := Ground.phase }, { on := 14, ground := Ground.phase }, { on := 15, ground := Ground.phase }, { on := 16, ground := Ground.phase }, { on := 17, ground := Ground.phase }, { on := 18, ground := Ground.phase }, { on := 19, ground := Ground.phase }], guard := none }) (v := ?_) rfl (by kernel_rfl) (by kernel_rfl) (by kernel_rfl) (fun _ _ _ h => h) (Or.inl ⟨by kernel_rfl, ?_⟩) (by assumption) ?_
          rotate_left
          · intro w hSw
            (try dsimp only at hSw)
            go_simp
            all_goals (with_reducible rfl)
          (try simp only [Act.put, List.setIfInBounds_toArray, List.set_cons_zero, List.set_cons_succ])
          refine wpAnyH_done (by kernel_rfl) ?_ _
          refine NoPanic.normal ?_
          have n9 := hHeld.1
          clear hHeld b7 b18
          try rw [mixV2]
          generalize q18 = W9 at n9 ⊢
          generalize hS0 : bits .xor .u32 (mixV x15 [7, 18]) _ = s0
          have HS0 := Lib.hid hS0
          clear hS0 HC15
          have HC2 := Lib.hid (fun W (hW : Below W9.heap.size W9 W) => (HC0.out _ (n9.trans (hW.mono n9.size))).2.2)
          have N9 := Lib.hid n9
          clear n9
          go_upto_region 10 with (fail)
          refine wp_region_noPanic ?_
          refine wp_region_held_drew (S := (fun w' => Below W9.heap.size W9 w' ∧ w'.cell? ⟨g, j2, none⟩ = some (.int .u32 x2))) (by kernel_rfl) ⟨(Below.refl _ _).drew, HC2.out _ (Below.refl _ _).drew⟩ (fun hHeld => ?_)
          refine wpAnyH_take (i := 0) (oi := { dst := some 83, op := Op.move (Operand.tmp 5), type := 110, pos := "ref.go:47", after := #[], guard := none }) (v := ?_) rfl (by kernel_rfl) (by kernel_rfl) (by kernel_rfl) (fun _ _ _ h => h) (Or.inl ⟨by kernel_rfl, ?_⟩) (by assumption) ?_
          rotate_left
          · intro w hSw
            (try dsimp only at hSw)
            go_simp
            all_goals (with_reducible rfl)
          (try simp only [Act.put, List.setIfInBounds_toArray, List.set_cons_zero, List.set_cons_succ])
          refine wpAnyH_take (i := 1) (oi := { dst := some 84, op := Op.move (Operand.tmp 7), type := 3, pos := "ref.go:47", after := #[], guard := none }) (v := ?_) rfl (by kernel_rfl) (by kernel_rfl) (by kernel_rfl) (fun _ _ _ h => h) (Or.inl ⟨by kernel_rfl, ?_⟩) (by assumption) ?_
          rotate_left
          · intro w hSw
            (try dsimp only at hSw)
            go_simp
            all_goals (with_reducible rfl)
          (try simp only [Act.put, List.setIfInBounds_toArray, List.set_cons_zero, List.set_cons_succ])
          refine wpAnyH_take (i := 2) (oi := { dst := some 85, op := Op.binOp BinOp.sub 3 (Operand.tmp 84) (Operand.const (Value.int IntKind.i64 2)) 3, type := 3, pos := "ref.go:47", after := #[{ on := 1, ground := Ground.data }], guard := none }) (v := ?_) rfl (by kernel_rfl) (by kernel_rfl) (by kernel_rfl) (fun _ _ _ h => h) (Or.inl ⟨by kernel_rfl, ?_⟩) (by assumption) ?_
          rotate_left
          · intro w hSw
            (try dsimp only at hSw)
            go_simp
            all_goals (with_reducible rfl)
          (try simp only [Act.put, List.setIfInBounds_toArray, List.set_cons_zero, List.set_cons_succ])
          refine wpAnyH_take (i := 3) (oi := { dst := some 86, op := Op.indexAddr 110 (Operand.tmp 83) (Operand.tmp 85), type := 0, pos := "ref.go:47", after := #[{ on := 0, ground := Ground.data }, { on := 2, ground := Ground.data }], guard := none }) (v := ?_) rfl (by kernel_rfl) (by kernel_rfl) (by kernel_rfl) (fun _ _ _ h => h) (Or.inl ⟨by kernel_rfl, ?_⟩) (by assumption) ?_
          rotate_left
          · intro w hSw
            (try dsimp only at hSw)
            go_simp
            all_goals (with_reducible rfl)
          (try simp only [Act.put, List.setIfInBounds_toArray, List.set_cons_zero, List.set_cons_succ])
          refine wpAnyH_take (i := 4) (oi := { dst := some 87, op := Op.load 109 (Operand.tmp 86), type := 109, pos := "ref.go:47", after := #[{ on := 3, ground := Ground.data }], guard := none }) (v := ?_) rfl (by kernel_rfl) (by kernel_rfl) (by kernel_rfl) (fun _ _ _ h => h) (Or.inl ⟨by kernel_rfl, ?_⟩) (by assumption) ?_
          rotate_left
          · intro w hSw
            (try dsimp only at hSw)
            go_simp
            all_goals (with_reducible rfl)
          (try simp only [Act.put, List.setIfInBounds_toArray, List.set_cons_zero, List.set_cons_succ])
          refine wpAnyH_take (i := 6) (oi := { dst := some 89, op := Op.move (Operand.tmp 5), type := 110, pos := "ref.go:47", after := #[], guard := none }) (v := ?_) rfl (by kernel_rfl) (by kernel_rfl) (by kernel_rfl) (fun _ _ _ h => h) (Or.inl ⟨by kernel_rfl, ?_⟩) (by assumption) ?_
          rotate_left
          · intro w hSw
            (try dsimp only at hSw)
            go_simp
            all_goals (with_reducible rfl)
          (try simp only [Act.put, List.setIfInBounds_toArray, List.set_cons_zero, List.set_cons_succ])
          refine wpAnyH_take (i := 7) (oi := { dst := some 90, op := Op.move (Operand.tmp 7), type := 3, pos := "ref.go:47", after := #[], guard := none }) (v := ?_) rfl (by kernel_rfl) (by kernel_rfl) (by kernel_rfl) (fun _ _ _ h => h) (Or.inl ⟨by kernel_rfl, ?_⟩) (by assumption) ?_
          rotate_left
          · intro w hSw
            (try dsimp only at hSw)
            go_simp
            all_goals (with_reducible rfl)
          (try simp only [Act.put, List.setIfInBounds_toArray, List.set_cons_zero, List.set_cons_succ])
          refine wpAnyH_take (i := 8) (oi := { dst := some 91, op := Op.binOp BinOp.sub 3 (Operand.tmp 90) (Operand.const (Value.int IntKind.i64 2)) 3, type := 3, pos := "ref.go:47", after := #[{ on := 7, ground := Ground.data }], guard := none }) (v := ?_) rfl (by kernel_rfl) (by kernel_rfl) (by kernel_rfl) (fun _ _ _ h => h) (Or.inl ⟨by kernel_rfl, ?_⟩) (by assumption) ?_
          rotate_left
          · intro w hSw
            (try dsimp only at hSw)
            go_simp
            all_goals (with_reducible rfl)
          (try simp only [Act.put, List.setIfInBounds_toArray, List.set_cons_zero, List.set_cons_succ])
          refine wpAnyH_take (i := 9) (oi := { dst := some 92, op := Op.indexAddr 110 (Operand.tmp 89) (Operand.tmp 91), type := 0, pos := "ref.go:47", after := #[{ on := 6, ground := Ground.data }, { on := 8, ground := Ground.data }], guard := none }) (v := ?_) rfl (by kernel_rfl) (by kernel_rfl) (by kernel_rfl) (fun _ _ _ h => h) (Or.inl ⟨by kernel_rfl, ?_⟩) (by assumption) ?_
          rotate_left
          · intro w hSw
            (try dsimp only at hSw)
            go_simp
            all_goals (with_reducible rfl)
          (try simp only [Act.put, List.setIfInBounds_toArray, List.set_cons_zero, List.set_cons_succ])
          refine wpAnyH_take (i := 10) (oi := { dst := some 93, op := Op.load 109 (Operand.tmp 92), type := 109, pos := "ref.go:47", after := #[{ on := 9, ground := Ground.data }], guard := none }) (v := ?_) rfl (by kernel_rfl) (by kernel_rfl) (by kernel_rfl) (fun _ _ _ h => h) (Or.inl ⟨by kernel_rfl, ?_⟩) (by assumption) ?_
          rotate_left
          · intro w hSw
            (try dsimp only at hSw)
            go_simp
            all_goals (with_reducible rfl)
          (try simp only [Act.put, List.setIfInBounds_toArray, List.set_cons_zero, List.set_cons_succ])
          refine wpAnyH_take (i := 13) (oi := { dst := some 96, op := Op.move (Operand.tmp 5), type := 110, pos := "ref.go:47", after := #[], guard := none }) (v := ?_) rfl (by kernel_rfl) (by kernel_rfl) (by kernel_rfl) (fun _ _ _ h => h) (Or.inl ⟨by kernel_rfl, ?_⟩) (by assumption) ?_
          rotate_left
          · intro w hSw
            (try dsimp only at hSw)
            go_simp
            all_goals (with_reducible rfl)
          (try simp only [Act.put, List.setIfInBounds_toArray, List.set_cons_zero, List.set_cons_succ])
          refine wpAnyH_take (i := 14) (oi := { dst := some 97, op := Op.move (Operand.tmp 7), type := 3, pos := "ref.go:47", after := #[], guard := none }) (v := ?_) rfl (by kernel_rfl) (by kernel_rfl) (by kernel_rfl) (fun _ _ _ h => h) (Or.inl ⟨by kernel_rfl, ?_⟩) (by assumption) ?_
          rotate_left
          · intro w hSw
            (try dsimp only at hSw)
            go_simp
            all_goals (with_reducible rfl)
          (try simp only [Act.put, List.setIfInBounds_toArray, List.set_cons_zero, List.set_cons_succ])
          refine wpAnyH_take (i := 15) (oi := { dst := some 98, op := Op.binOp BinOp.sub 3 (Operand.tmp 97) (Operand.const (Value.int IntKind.i64 2)) 3, type := 3, pos := "ref.go:47", after := #[{ on := 14, ground := Ground.data }], guard := none }) (v := ?_) rfl (by kernel_rfl) (by kernel_rfl) (by kernel_rfl) (fun _ _ _ h => h) (Or.inl ⟨by kernel_rfl, ?_⟩) (by assumption) ?_
          rotate_left
          · intro w hSw
            (try dsimp only at hSw)
            go_simp
            all_goals (with_reducible rfl)
          (try simp only [Act.put, List.setIfInBounds_toArray, List.set_cons_zero, List.set_cons_succ])
          refine wpAnyH_take (i := 16) (oi := { dst := some 99, op := Op.indexAddr 110 (Operand.tmp 96) (Operand.tmp 98), type := 0, pos := "ref.go:47", after := #[{ on := 13, ground := Ground.data }, { on := 15, ground := Ground.data }], guard := none }) (v := ?_) rfl (by kernel_rfl) (by kernel_rfl) (by kernel_rfl) (fun _ _ _ h => h) (Or.inl ⟨by kernel_rfl, ?_⟩) (by assumption) ?_
          rotate_left
          · intro w hSw
            (try dsimp only at hSw)
            go_simp
            all_goals (with_reducible rfl)
          (try simp only [Act.put, List.setIfInBounds_toArray, List.set_cons_zero, List.set_cons_succ])
          refine wpAnyH_take (i := 17) (oi := { dst := some 100, op := Op.load 109 (Operand.tmp 99), type := 109, pos := "ref.go:47", after := #[{ on := 16, ground := Ground.data }], guard := none }) (v := ?_) rfl (by kernel_rfl) (by kernel_rfl) (by kernel_rfl) (fun _ _ _ h => h) (Or.inl ⟨by kernel_rfl, ?_⟩) (by assumption) ?_
          rotate_left
          · intro w hSw
            (try dsimp only at hSw)
            go_simp
            all_goals (with_reducible rfl)
          (try simp only [Act.put, List.setIfInBounds_toArray, List.set_cons_zero, List.set_cons_succ])
          refine wpAnyH_take (i := 18) (oi := { dst := some 101, op := Op.binOp BinOp.shr 109 (Operand.tmp 100) (Operand.const (Value.int IntKind.u64 10)) 113, type := 109, pos := "ref.go:47", after := #[{ on := 17, ground := Ground.data }], guard := none }) (v := ?_) rfl (by kernel_rfl) (by kernel_rfl) (by kernel_rfl) (fun _ _ _ h => h) (Or.inl ⟨by kernel_rfl, ?_⟩) (by assumption) ?_
          rotate_left
          · intro w hSw
            (try dsimp only at hSw)
            go_simp
            all_goals (with_reducible rfl)
          (try simp only [Act.put, List.setIfInBounds_toArray, List.set_cons_zero, List.set_cons_succ])
          refine wpAnyH_one1 (i := 5) (o := { dst := some 88, op := Op.call { callee := Callee.value (Operand.func 87), args := #[Operand.tmp 87, Operand.const (Value.int IntKind.i64 17)], argTypes := #[109, 3] }, type := 109, pos := "ref.go:47", after := #[{ on := 4, ground := Ground.data }], guard := none }) (by kernel_rfl) rfl (fun K hK => ?_)
          go_simp
          go_at_call 87
          refine (rot87 x2 17 _ (by decide)).mono ?_
          rintro e q17 ⟨rfl, b17⟩
          refine hK.out _ _ ?_ (fun hHeld2 => ?_)
          · exact ⟨hHeld.1.trans (b17.mono hHeld.1.size), HC2.out _ (hHeld.1.trans (b17.mono hHeld.1.size))⟩
          clear hHeld
          have hHeld := hHeld2
          clear hHeld2
          clear hK K
          (try simp only [Act.put, List.setIfInBounds_toArray, List.set_cons_zero, List.set_cons_succ])
          refine wpAnyH_one1 (i := 11) (o := { dst := some 94, op := Op.call { callee := Callee.value (Operand.func 87), args := #[Operand.tmp 93, Operand.const (Value.int IntKind.i64 19)], argTypes := #[109, 3] }, type := 109, pos := "ref.go:47", after := #[{ on := 10, ground := Ground.data }, { on := 5, ground := Ground.chain }], guard := none }) (by kernel_rfl) rfl (fun K hK => ?_)
          go_simp
          go_at_call 87
          refine (rot87 x2 19 _ (by decide)).mono ?_
          rintro e q19 ⟨rfl, b19⟩
          refine hK.out _ _ ?_ (fun hHeld2 => ?_)
          · exact ⟨hHeld.1.trans (b19.mono hHeld.1.size), HC2.out _ (hHeld.1.trans (b19.mono hHeld.1.size))⟩
          clear hHeld
          have hHeld := hHeld2
          clear hHeld2
          clear hK K
          (try simp only [Act.put, List.setIfInBounds_toArray, List.set_cons_zero, List.set_cons_succ])
          refine wpAnyH_take (i := 12) (oi := { dst := some 95, op := Op.binOp BinOp.xor 109 (Operand.tmp 88) (Operand.tmp 94) 109, type := 109, pos := "ref.go:47", after := #[{ on := 5, ground := Ground.data }, { on := 11, ground := Ground.data }], guard := none }) (v := ?_) rfl (by kernel_rfl) (by kernel_rfl) (by kernel_rfl) (fun _ _ _ h => h) (Or.inl ⟨by kernel_rfl, ?_⟩) (by assumption) ?_
          rotate_left
          · intro w hSw
            (try dsimp only at hSw)
            go_simp
            all_goals (with_reducible rfl)
          (try simp only [Act.put, List.setIfInBounds_toArray, List.set_cons_zero, List.set_cons_succ])
          refine wpAnyH_take (i := 19) (oi := { dst := some 102, op := Op.binOp BinOp.xor 109 (Operand.tmp 95) (Operand.tmp 101) 109, type := 109, pos := "ref.go:47", after := #[{ on := 12, ground := Ground.data }, { on := 18, ground := Ground.data }], guard := none }) (v := ?_) rfl (by kernel_rfl) (by kernel_rfl) (by kernel_rfl) (fun _ _ _ h => h) (Or.inl ⟨by kernel_rfl, ?_⟩) (by assumption) ?_
          rotate_left
          · intro w hSw
            (try dsimp only at hSw)
            go_simp
            all_goals (with_reducible rfl)
          (try simp only [Act.put, List.setIfInBounds_toArray, List.set_cons_zero, List.set_cons_succ])
          refine wpAnyH_take (i := 20) (oi := { dst := some 9, op := Op.assign (Operand.tmp 102), type := 109, pos := "ref.go:47", after := #[{ on := 19, ground := Ground.data }, { on := 11, ground := Ground.chain }, { on := 0, ground := Ground.phase }, { on := 1, ground := Ground.phase }, { on := 2, ground := Ground.phase }, { on := 3, ground := Ground.phase }, { on := 4, ground := Ground.phase }, { on := 5, ground := Ground.phase }, { on := 6, ground := Ground.phase }, { on := 7, ground := Ground.phase }, { on := 8, ground := Ground.phase }, { on := 9, ground := Ground.phase }, { on := 10, ground := Ground.phase }, { on := 11, ground := Ground.phase }, { on := 12, ground := Ground.phase }, { on := 13, ground := Ground.phase }, { on := 14, ground := Ground.phase }, { on := 15, ground := Ground.phase }, { on := 16, ground := Ground.phase }, { on := 17, ground := Ground.phase }, { on := 18, ground := Ground.phase }, { on := 19, ground := Ground.phase }], guard := none }) (v := ?_) rfl (by kernel_rfl) (by kernel_rfl) (by kernel_rfl) (fun _ _ _ h => h) (Or.inl ⟨by kernel_rfl, ?_⟩) (by assumption) ?_
          rotate_left
          · intro w hSw
            (try dsimp only at hSw)
            go_simp
            all_goals (with_reducible rfl)
          (try simp only [Act.put, List.setIfInBounds_toArray, List.set_cons_zero, List.set_cons_succ])
          refine wpAnyH_done (by kernel_rfl) ?_ _
          refine NoPanic.normal ?_
          have n10 := hHeld.1
          clear hHeld b17 b19
          try rw [mixV2]
          generalize q19 = W10 at n10 ⊢
          generalize hS1 : bits .xor .u32 (mixV x2 [17, 19]) _ = s1
          have HS1 := Lib.hid hS1
          have n10' := N9.out.trans (n10.mono N9.out.size)
          have HCC := Lib.hid (fun W (hW : Below W10.heap.size W10 W) => And.intro (HC0.out _ (n10'.trans (hW.mono n10'.size))).1 (HC0.out _ (n10'.trans (hW.mono n10'.size))).2.1)
          have HO2 := Lib.hid (World.ownsRow.drew (ownsRow_belowZ HO.out n10'))
          have hB10 := hB.trans (n10'.mono hB.size)
          have hBW := hB10.size
          have HB10 := Lib.hid hB10
          clear hS1 HC2 n10 n10' N9 HC0 HO hB hB10
          go_upto_region 11 with (fail)
          refine wp_region_noPanic ?_
          refine wp_region_held_drew (S := (fun w' => Below w.heap.size W10 w' ∧ w'.cell? ⟨g, j16, none⟩ = some (.int .u32 x16) ∧ w'.cell? ⟨g, j7, none⟩ = some (.int .u32 x7))) (by kernel_rfl) ⟨(Below.refl _ _).drew, HCC.out _ (Below.refl _ _).drew⟩ (fun hHeld => ?_)
          refine wpAnyH_take (i := 0) (oi := { dst := some 103, op := Op.move (Operand.tmp 5), type := 110, pos := "ref.go:48", after := #[], guard := none }) (v := ?_) rfl (by kernel_rfl) (by kernel_rfl) (by kernel_rfl) (fun _ _ _ h => h) (Or.inl ⟨by kernel_rfl, ?_⟩) (by assumption) ?_
          rotate_left
          · intro w hSw
            (try dsimp only at hSw)
            go_simp
            all_goals (with_reducible rfl)
          (try simp only [Act.put, List.setIfInBounds_toArray, List.set_cons_zero, List.set_cons_succ])
          refine wpAnyH_take (i := 1) (oi := { dst := some 104, op := Op.move (Operand.tmp 5), type := 110, pos := "ref.go:48", after := #[], guard := none }) (v := ?_) rfl (by kernel_rfl) (by kernel_rfl) (by kernel_rfl) (fun _ _ _ h => h) (Or.inl ⟨by kernel_rfl, ?_⟩) (by assumption) ?_
          rotate_left
          · intro w hSw
            (try dsimp only at hSw)
            go_simp
            all_goals (with_reducible rfl)
          (try simp only [Act.put, List.setIfInBounds_toArray, List.set_cons_zero, List.set_cons_succ])
          refine wpAnyH_take (i := 2) (oi := { dst := some 105, op := Op.move (Operand.tmp 7), type := 3, pos := "ref.go:48", after := #[], guard := none }) (v := ?_) rfl (by kernel_rfl) (by kernel_rfl) (by kernel_rfl) (fun _ _ _ h => h) (Or.inl ⟨by kernel_rfl, ?_⟩) (by assumption) ?_
          rotate_left
          · intro w hSw
            (try dsimp only at hSw)
            go_simp
            all_goals (with_reducible rfl)
          (try simp only [Act.put, List.setIfInBounds_toArray, List.set_cons_zero, List.set_cons_succ])
          refine wpAnyH_take (i := 3) (oi := { dst := some 106, op := Op.binOp BinOp.sub 3 (Operand.tmp 105) (Operand.const (Value.int IntKind.i64 16)) 3, type := 3, pos := "ref.go:48", after := #[{ on := 2, ground := Ground.data }], guard := none }) (v := ?_) rfl (by kernel_rfl) (by kernel_rfl) (by kernel_rfl) (fun _ _ _ h => h) (Or.inl ⟨by kernel_rfl, ?_⟩) (by assumption) ?_
          rotate_left
          · intro w hSw
            (try dsimp only at hSw)
            go_simp
            all_goals (with_reducible rfl)
          (try simp only [Act.put, List.setIfInBounds_toArray, List.set_cons_zero, List.set_cons_succ])
          refine wpAnyH_take (i := 4) (oi := { dst := some 107, op := Op.indexAddr 110 (Operand.tmp 104) (Operand.tmp 106), type := 0, pos := "ref.go:48", after := #[{ on := 1, ground := Ground.data }, { on := 3, ground := Ground.data }], guard := none }) (v := ?_) rfl (by kernel_rfl) (by kernel_rfl) (by kernel_rfl) (fun _ _ _ h => h) (Or.inl ⟨by kernel_rfl, ?_⟩) (by assumption) ?_
          rotate_left
          · intro w hSw
            (try dsimp only at hSw)
            go_simp
            all_goals (with_reducible rfl)
          (try simp only [Act.put, List.setIfInBounds_toArray, List.set_cons_zero, List.set_cons_succ])
          refine wpAnyH_take (i := 5) (oi := { dst := some 108, op := Op.load 109 (Operand.tmp 107), type := 109, pos := "ref.go:48", after := #[{ on := 4, ground := Ground.data }], guard := none }) (v := ?_) rfl (by kernel_rfl) (by kernel_rfl) (by kernel_rfl) (fun _ _ _ h => h) (Or.inl ⟨by kernel_rfl, ?_⟩) (by assumption) ?_
          rotate_left
          · intro w hSw
            (try dsimp only at hSw)
            go_simp
            all_goals (with_reducible rfl)
          (try simp only [Act.put, List.setIfInBounds_toArray, List.set_cons_zero, List.set_cons_succ])
          refine wpAnyH_take (i := 6) (oi := { dst := some 109, op := Op.move (Operand.tmp 8), type := 109, pos := "ref.go:48", after := #[], guard := none }) (v := ?_) rfl (by kernel_rfl) (by kernel_rfl) (by kernel_rfl) (fun _ _ _ h => h) (Or.inl ⟨by kernel_rfl, ?_⟩) (by assumption) ?_
          rotate_left
          · intro w hSw
            (try dsimp only at hSw)
            go_simp
            all_goals (with_reducible rfl)
          (try simp only [Act.put, List.setIfInBounds_toArray, List.set_cons_zero, List.set_cons_succ])
          refine wpAnyH_take (i := 7) (oi := { dst := some 110, op := Op.binOp BinOp.add 109 (Operand.tmp 108) (Operand.tmp 109) 109, type := 109, pos := "ref.go:48", after := #[{ on := 5, ground := Ground.data }, { on := 6, ground := Ground.data }], guard := none }) (v := ?_) rfl (by kernel_rfl) (by kernel_rfl) (by kernel_rfl) (fun _ _ _ h => h) (Or.inl ⟨by kernel_rfl, ?_⟩) (by assumption) ?_
          rotate_left
          · intro w hSw
            (try dsimp only at hSw)
            go_simp
            all_goals (with_reducible rfl)
          (try simp only [Act.put, List.setIfInBounds_toArray, List.set_cons_zero, List.set_cons_succ])
          refine wpAnyH_take (i := 8) (oi := { dst := some 111, op := Op.move (Operand.tmp 5), type := 110, pos := "ref.go:48", after := #[], guard := none }) (v := ?_) rfl (by kernel_rfl) (by kernel_rfl) (by kernel_rfl) (fun _ _ _ h => h) (Or.inl ⟨by kernel_rfl, ?_⟩) (by assumption) ?_
          rotate_left
          · intro w hSw
            (try dsimp only at hSw)
            go_simp
            all_goals (with_reducible rfl)
          (try simp only [Act.put, List.setIfInBounds_toArray, List.set_cons_zero, List.set_cons_succ])
          refine wpAnyH_take (i := 9) (oi := { dst := some 112, op := Op.move (Operand.tmp 7), type := 3, pos := "ref.go:48", after := #[], guard := none }) (v := ?_) rfl (by kernel_rfl) (by kernel_rfl) (by kernel_rfl) (fun _ _ _ h => h) (Or.inl ⟨by kernel_rfl, ?_⟩) (by assumption) ?_
          rotate_left
          · intro w hSw
            (try dsimp only at hSw)
            go_simp
            all_goals (with_reducible rfl)
          (try simp only [Act.put, List.setIfInBounds_toArray, List.set_cons_zero, List.set_cons_succ])
          refine wpAnyH_take (i := 10) (oi := { dst := some 113, op := Op.binOp BinOp.sub 3 (Operand.tmp 112) (Operand.const (Value.int IntKind.i64 7)) 3, type := 3, pos := "ref.go:48", after := #[{ on := 9, ground := Ground.data }], guard := none }) (v := ?_) rfl (by kernel_rfl) (by kernel_rfl) (by kernel_rfl) (fun _ _ _ h => h) (Or.inl ⟨by kernel_rfl, ?_⟩) (by assumption) ?_
          rotate_left
          · intro w hSw
            (try dsimp only at hSw)
            go_simp
            all_goals (with_reducible rfl)
          (try simp only [Act.put, List.setIfInBounds_toArray, List.set_cons_zero, List.set_cons_succ])
          refine wpAnyH_take (i := 11) (oi := { dst := some 114, op := Op.indexAddr 110 (Operand.tmp 111) (Operand.tmp 113), type := 0, pos := "ref.go:48", after := #[{ on := 8, ground := Ground.data }, { on := 10, ground := Ground.data }], guard := none }) (v := ?_) rfl (by kernel_rfl) (by kernel_rfl) (by kernel_rfl) (fun _ _ _ h => h) (Or.inl ⟨by kernel_rfl, ?_⟩) (by assumption) ?_
          rotate_left
          · intro w hSw
            (try dsimp only at hSw)
            go_simp
            all_goals (with_reducible rfl)
          (try simp only [Act.put, List.setIfInBounds_toArray, List.set_cons_zero, List.set_cons_succ])
          refine wpAnyH_take (i := 12) (oi := { dst := some 115, op := Op.load 109 (Operand.tmp 114), type := 109, pos := "ref.go:48", after := #[{ on := 11, ground := Ground.data }], guard := none }) (v := ?_) rfl (by kernel_rfl) (by kernel_rfl) (by kernel_rfl) (fun _ _ _ h => h) (Or.inl ⟨by kernel_rfl, ?_⟩) (by assumption) ?_
          rotate_left
          · intro w hSw
            (try dsimp only at hSw)
            go_simp
            all_goals (with_reducible rfl)
          (try simp only [Act.put, List.setIfInBounds_toArray, List.set_cons_zero, List.set_cons_succ])
          refine wpAnyH_take (i := 13) (oi := { dst := some 116, op := Op.binOp BinOp.add 109 (Operand.tmp 110) (Operand.tmp 115) 109, type := 109, pos := "ref.go:48", after := #[{ on := 7, ground := Ground.data }, { on := 12, ground := Ground.data }], guard := none }) (v := ?_) rfl (by kernel_rfl) (by kernel_rfl) (by kernel_rfl) (fun _ _ _ h => h) (Or.inl ⟨by kernel_rfl, ?_⟩) (by assumption) ?_
          rotate_left
          · intro w hSw
            (try dsimp only at hSw)
            go_simp
            all_goals (with_reducible rfl)
          (try simp only [Act.put, List.setIfInBounds_toArray, List.set_cons_zero, List.set_cons_succ])
          refine wpAnyH_take (i := 14) (oi := { dst := some 117, op := Op.move (Operand.tmp 9), type := 109, pos := "ref.go:48", after := #[], guard := none }) (v := ?_) rfl (by kernel_rfl) (by kernel_rfl) (by kernel_rfl) (fun _ _ _ h => h) (Or.inl ⟨by kernel_rfl, ?_⟩) (by assumption) ?_
          rotate_left
          · intro w hSw
            (try dsimp only at hSw)
            go_simp
            all_goals (with_reducible rfl)
          (try simp only [Act.put, List.setIfInBounds_toArray, List.set_cons_zero, List.set_cons_succ])
          refine wpAnyH_take (i := 15) (oi := { dst := some 118, op := Op.binOp BinOp.add 109 (Operand.tmp 116) (Operand.tmp 117) 109, type := 109, pos := "ref.go:48", after := #[{ on := 13, ground := Ground.data }, { on := 14, ground := Ground.data }], guard := none }) (v := ?_) rfl (by kernel_rfl) (by kernel_rfl) (by kernel_rfl) (fun _ _ _ h => h) (Or.inl ⟨by kernel_rfl, ?_⟩) (by assumption) ?_
          rotate_left
          · intro w hSw
            (try dsimp only at hSw)
            go_simp
            all_goals (with_reducible rfl)
          (try simp only [Act.put, List.setIfInBounds_toArray, List.set_cons_zero, List.set_cons_succ])
          refine wpAnyH_one1 (i := 16) (o := { dst := some 119, op := Op.buildSlice 110 1 #[(0, Operand.tmp 118)], type := 110, pos := "ref.go:48", after := #[{ on := 15, ground := Ground.data }], guard := none }) (by kernel_rfl) rfl (fun K hK => ?_)
          go_simp
          refine hK.out _ _ ?_ (fun hHeld2 => ?_)
          · exact ⟨hHeld.1.alloc hBW _, HCC.out _ ((Below.refl _ _).drew.alloc (by simp) _)⟩
          clear hHeld
          have hHeld := hHeld2
          clear hHeld2
          clear hK K
          (try simp only [Act.put, List.setIfInBounds_toArray, List.set_cons_zero, List.set_cons_succ])
          refine wpAnyH_one1 (i := 17) (o := { dst := some 120, op := Op.call { callee := Callee.builtin Builtin.append, args := #[Operand.tmp 103, Operand.tmp 119], argTypes := #[110, 110] }, type := 110, pos := "ref.go:48", after := #[{ on := 0, ground := Ground.data }, { on := 16, ground := Ground.data }], guard := none }) (by kernel_rfl) rfl (fun K hK => ?_)
          refine step_pushK E110 rfl (.tmp 103) (.tmp 119) rfl w.heap.size HO2.out rfl rfl rfl (by intro u hu; simp at hu; rw [hu]; rfl) (by unfold maxLen; omega) (by omega) (by simpa using hBW) (fun v' wq n1 n2 n3 => ?_)
          refine hK.out _ _ ?_ (fun hHeld2 => ?_)
          · exact ⟨(Below.refl _ _).drew.trans n2, n3 g rfl _ _ HX16.out, n3 g rfl _ _ HX7.out⟩
          clear hHeld
          have hHeld := hHeld2
          clear hHeld2
          clear hK K
          (try simp only [Act.put, List.setIfInBounds_toArray, List.set_cons_zero, List.set_cons_succ])
          refine wpAnyH_take (i := 18) (oi := { dst := some 5, op := Op.assign (Operand.tmp 120), type := 110, pos := "ref.go:48", after := #[{ on := 17, ground := Ground.data }, { on := 17, ground := Ground.chain }, { on := 0, ground := Ground.phase }, { on := 1, ground := Ground.phase }, { on := 2, ground := Ground.phase }, { on := 3, ground := Ground.phase }, { on := 4, ground := Ground.phase }, { on := 5, ground := Ground.phase }, { on := 6, ground := Ground.phase }, { on := 7, ground := Ground.phase }, { on := 8, ground := Ground.phase }, { on := 9, ground := Ground.phase }, { on := 10, ground := Ground.phase }, { on := 11, ground := Ground.phase }, { on := 12, ground := Ground.phase }, { on := 13, ground := Ground.phase }, { on := 14, ground := Ground.phase }, { on := 15, ground := Ground.phase }, { on := 16, ground := Ground.phase }, { on := 17, ground := Ground.phase }], guard := none }) (v := ?_) rfl (by kernel_rfl) (by kernel_rfl) (by kernel_rfl) (fun _ _ _ h => h) (Or.inl ⟨by kernel_rfl, ?_⟩) (by assumption) ?_
          rotate_left
          · intro w hSw
            (try dsimp only at hSw)
            go_simp
            all_goals (with_reducible rfl)
          (try simp only [Act.put, List.setIfInBounds_toArray, List.set_cons_zero, List.set_cons_succ])
          refine wpAnyH_done (by kernel_rfl) ?_ _
          refine NoPanic.normal ?_
          have n4 := (Below.refl w.heap.size W10).drew.trans n2
          have HN := Lib.hid (show OwnW wq w.heap.size v' (extW W16 (i + 1 - 16)) from by
            rw [HW.out]
            have n5 : wq.ownsRow w.heap.size 109 1 v' (ws.length + 1) (ws.map (Value.int .u32) ++ [.int .u32 (nextV x16 x15 x7 x2)]) := by
              rw [HLEN.out]; unfold nextV xU; rw [show x15 / 8 = x15 / 8 from rfl]; rw [HS0.out, HS1.out]; exact n1
            exact OwnW.snoc n5)
          have HB := Lib.hid (HB10.out.trans n4)
          clear n1 n2 n3 n4 hHeld HO2 HCC HB10 HX16 HX7 w1 w2 w3 w4
          generalize hX : IntKind.u32.wrap _ = X
          clear hX
          go_wp2
          go_roundw
          case rel => exact ⟨i + 1, by omega, by omega, by go_num, HN.out, HB.out⟩
          case measure => simp [intOf]; omega
        · have he : i = 64 := by omega
          have d1 : decide ((i : Int) < 64) = false := decide_eq_false (by omega)
          have d1b : decide (i < 64) = false := decide_eq_false (by omega)
          have hsl : (schedW l).length = 64 := by rw [HSC.out, ← he]; exact hlen
          have ho2 : OwnW wr w.heap.size u5 (schedW l) := by rw [HSC.out]; rw [he] at ho; exact ho
          have HWS := Lib.hid (ho2.slice (by rw [hsl]; unfold maxLen; decide))
          have HB := Lib.hid hB
          clear ho ho2 hB he hlen HSC HWL HO h16l
          obtain ⟨w6, hren⟩ : ∃ z, z = wr := ⟨_, rfl⟩
          subst hren
          go_wp2_with fail
          refine (const88 _).mono ?_
          rintro e w7 ⟨vk, rfl, hk, b7⟩
          have hB7 := HB.out.trans (b7.mono HB.out.size)
          have hws7 := HWS.out.below b7
          have hch7 : ∀ j y, ((listV h).map (Value.int .u32))[j]? = some y → w7.cell? ((⟨bh, oh, none⟩ : Addr).add j) = some y := by
            intro j y hj
            rw [List.getElem?_map] at hj
            obtain ⟨x, hx, rfl⟩ := Option.map_eq_some_iff.1 hj
            have q := HHC.out j x hx
            rw [add_off]
            exact (hB7.cell (p := ⟨bh, oh + j, none⟩) (World.block_lt_of_cell? _ _ q)).trans q
          have HCH := Lib.hid hch7
          have HK := Lib.hid hk
          have HW7 := Lib.hid hws7
          have HB7 := Lib.hid hB7
          clear hB7 hws7 hch7 hk b7 HB HWS
          obtain ⟨ti, hti, hz0, hz1, hz2⟩ := info_parts E110.info
          go_wp2_with (at_builtin; refine wpList_append_own w7 rfl (.tmp 122) (.tmp 123) 110 rfl w7.heap.size 109 ti (.int .u32 0) 1 4 E110.und hti hz0 hz1 hz2 E110.zs E110.pos (.slice none 0 0) 0 [] rfl (World.ownsRow_nil _ _ _ _) ⟨bh, oh, none⟩ 8 caph ((listV h).map (Value.int .u32)) rfl rfl HCH.out (by intro u hu; simp at hu; obtain ⟨x, -, rfl⟩ := hu; rfl) (by unfold maxLen; decide) (by decide) (Nat.le_refl _) ?_; intro v8 w8 n1 n2 n3)
          have hv8 := W8At.of_own (v := h) n1
          have b8 : Below w7.heap.size w7 w8 := ⟨n2.os, n2.tape, n2.output, n2.size, fun k hk => n2.block k hk (by simp [Value.ownBlock])⟩
          have hws8 := HW7.out.below b8
          have hk8 := HK.out.below b8
          obtain ⟨a5, cap5, rfl, hle5, hcm5, hc5⟩ := hws8
          rw [hsl] at hle5 hc5 ⊢
          obtain ⟨b5, o5, rfl, hc5n⟩ := hc5 (by decide)
          obtain ⟨ak, capk, rfl, hlek, hcmk, hck⟩ := hk8
          rw [KR_len] at hlek hck ⊢
          obtain ⟨bk, ok, rfl, hckn⟩ := hck (by decide)
          have HB8 := Lib.hid (HB7.out.trans (b8.mono HB7.out.size))
          have HC5 := Lib.hid hc5n
          have HCK := Lib.hid hckn
          have HV8 := Lib.hid hv8
          have HADD := Lib.hid (show addB h l = sumV h (runV (schedW l) h 64) from rfl)
          obtain ⟨ws, hws⟩ : ∃ ws, schedW l = ws := ⟨_, rfl⟩
          rw [hws] at hsl HC5 HADD
          unfold maxLen at hcm5 hcmk
          clear n1 n2 n3 b8 hc5 hck hc5n hckn hv8 HW7 HK HB7 HCH hti hz0 hz1 hz2 hws d1 d1b hi hi1 hi2 hlt
          go_loopw [11, 12] (fun u11 u12 wr => ∃ i : Nat, i ≤ 64 ∧ u12 = .int .i64 (i : Int) ∧ W8At wr u11 (runV ws h i) ∧ Below w8.heap.size w8 wr) (fun _ u12 _ => (64 - intOf u12).toNat)
          case atStart => exact ⟨0, by omega, rfl, HV8.out, Below.refl _ _⟩
          case round =>
            obtain ⟨i, hi, rfl, hv, hB⟩ := hrel
            by_cases hlt : i < 64
            · have d1 : decide ((i : Int) < 64) = true := decide_eq_true (by omega)
              have ii : (0 : Int) ≤ (i : Int) ∧ (i : Int) < 64 := by omega
              have HRV := Lib.hid (show runV ws h (i + 1) = rndV (KR.getD i 0) (ws.getD i 0) (runV ws h i) from rfl)
              have qk := HCK.out i _ (getD_some (0 : Int) (show i < KR.length by rw [KR_len]; exact hlt))
              have q5 := HC5.out i _ (getD_some (0 : Int) (show i < ws.length by rw [hsl]; exact hlt))
              generalize KR.getD i 0 = k at qk HRV
              generalize ws.getD i 0 = x at q5 HRV
              generalize runV ws h i = v at hv HRV
              have ck := (hB.cell (p := ⟨bk, ok + i, none⟩) (World.block_lt_of_cell? _ _ qk)).trans qk
              have c5 := (hB.cell (p := ⟨b5, o5 + i, none⟩) (World.block_lt_of_cell? _ _ q5)).trans q5
              obtain ⟨b, cap, rfl, hcap, hcm2, hcv⟩ := hv
              unfold maxLen at hcm2
              have c0 := hcv 0 _ rfl
              have c1 := hcv 1 _ rfl
              have c2 := hcv 2 _ rfl
              have c3 := hcv 3 _ rfl
              have c4 := hcv 4 _ rfl
              have c55 := hcv 5 _ rfl
              have c6 := hcv 6 _ rfl
              have c7 := hcv 7 _ rfl
              have hlb := World.block_lt_of_cell? _ _ c0
              have hlk := World.block_lt_of_cell? _ _ ck
              have hl5 := World.block_lt_of_cell? _ _ c5
              have HCA := Lib.hid (fun W (hW : Below wr.heap.size wr W) j y hj => (hW.cell (p := ⟨b, j, none⟩) hlb).trans (hcv j y hj))
              have HC := Lib.hid (fun W (hW : Below wr.heap.size wr W) => And.intro ((hW.cell (p := ⟨b, 7, none⟩) hlb).trans c7) (And.intro ((hW.cell (p := ⟨b, 5, none⟩) hlb).trans c55) (And.intro ((hW.cell (p := ⟨b, 6, none⟩) hlb).trans c6) (And.intro ((hW.cell (p := ⟨bk, ok + i, none⟩) hlk).trans ck) ((hW.cell (p := ⟨b5, o5 + i, none⟩) hl5).trans c5)))))
              have HHB := Lib.hid hB
              clear hcv qk q5 c1 c2 c3 c55 c6 c7 ck c5 hB
              go_upto_region 20 with (fail)
              refine wp_region_noPanic ?_
              refine wp_region_held_drew (S := (fun w' => Below wr.heap.size wr w' ∧ w'.cell? ⟨b, 7, none⟩ = some (.int .u32 v.h) ∧ w'.cell? ⟨b, 5, none⟩ = some (.int .u32 v.f) ∧ w'.cell? ⟨b, 6, none⟩ = some (.int .u32 v.g) ∧ w'.cell? ⟨bk, ok + i, none⟩ = some (.int .u32 k) ∧ w'.cell? ⟨b5, o5 + i, none⟩ = some (.int .u32 x))) (by kernel_rfl) ⟨(Below.refl _ _).drew, HC.out _ (Below.refl _ _).drew⟩ (fun hHeld => ?_)
              refine wpAnyH_take (i := 0) (oi := { dst := some 135, op := Op.move (Operand.tmp 11), type := 110, pos := "ref.go:56", after := #[], guard := none }) (v := ?_) rfl (by kernel_rfl) (by kernel_rfl) (by kernel_rfl) (fun _ _ _ h => h) (Or.inl ⟨by kernel_rfl, ?_⟩) (by assumption) ?_
              rotate_left
              · intro w hSw
                (try dsimp only at hSw)
                go_simp
                all_goals (with_reducible rfl)
              (try simp only [Act.put, List.setIfInBounds_toArray, List.set_cons_zero, List.set_cons_succ])
              refine wpAnyH_take (i := 1) (oi := { dst := some 136, op := Op.indexAddr 110 (Operand.tmp 135) (Operand.const (Value.int IntKind.i64 7)), type := 0, pos := "ref.go:56", after := #[{ on := 0, ground := Ground.data }], guard := none }) (v := ?_) rfl (by kernel_rfl) (by kernel_rfl) (by kernel_rfl) (fun _ _ _ h => h) (Or.inl ⟨by kernel_rfl, ?_⟩) (by assumption) ?_
              rotate_left
              · intro w hSw
                (try dsimp only at hSw)
                go_simp
                all_goals (with_reducible rfl)
              (try simp only [Act.put, List.setIfInBounds_toArray, List.set_cons_zero, List.set_cons_succ])
              refine wpAnyH_take (i := 2) (oi := { dst := some 137, op := Op.load 109 (Operand.tmp 136), type := 109, pos := "ref.go:56", after := #[{ on := 1, ground := Ground.data }], guard := none }) (v := ?_) rfl (by kernel_rfl) (by kernel_rfl) (by kernel_rfl) (fun _ _ _ h => h) (Or.inl ⟨by kernel_rfl, ?_⟩) (by assumption) ?_
              rotate_left
              · intro w hSw
                (try dsimp only at hSw)
                go_simp
                all_goals (with_reducible rfl)
              (try simp only [Act.put, List.setIfInBounds_toArray, List.set_cons_zero, List.set_cons_succ])
              refine wpAnyH_take (i := 3) (oi := { dst := some 138, op := Op.move (Operand.tmp 14), type := 109, pos := "ref.go:56", after := #[], guard := none }) (v := ?_) rfl (by kernel_rfl) (by kernel_rfl) (by kernel_rfl) (fun _ _ _ h => h) (Or.inl ⟨by kernel_rfl, ?_⟩) (by assumption) ?_
              rotate_left
              · intro w hSw
                (try dsimp only at hSw)
                go_simp
                all_goals (with_reducible rfl)
              (try simp only [Act.put, List.setIfInBounds_toArray, List.set_cons_zero, List.set_cons_succ])
              refine wpAnyH_take (i := 5) (oi := { dst := some 140, op := Op.move (Operand.tmp 14), type := 109, pos := "ref.go:56", after := #[], guard := none }) (v := ?_) rfl (by kernel_rfl) (by kernel_rfl) (by kernel_rfl) (fun _ _ _ h => h) (Or.inl ⟨by kernel_rfl, ?_⟩) (by assumption) ?_
              rotate_left
              · intro w hSw
                (try dsimp only at hSw)
                go_simp
                all_goals (with_reducible rfl)
              (try simp only [Act.put, List.setIfInBounds_toArray, List.set_cons_zero, List.set_cons_succ])
              refine wpAnyH_take (i := 8) (oi := { dst := some 143, op := Op.move (Operand.tmp 14), type := 109, pos := "ref.go:56", after := #[], guard := none }) (v := ?_) rfl (by kernel_rfl) (by kernel_rfl) (by kernel_rfl) (fun _ _ _ h => h) (Or.inl ⟨by kernel_rfl, ?_⟩) (by assumption) ?_
              rotate_left
              · intro w hSw
                (try dsimp only at hSw)
                go_simp
                all_goals (with_reducible rfl)
              (try simp only [Act.put, List.setIfInBounds_toArray, List.set_cons_zero, List.set_cons_succ])
              refine wpAnyH_take (i := 12) (oi := { dst := some 147, op := Op.move (Operand.tmp 14), type := 109, pos := "ref.go:56", after := #[], guard := none }) (v := ?_) rfl (by kernel_rfl) (by kernel_rfl) (by kernel_rfl) (fun _ _ _ h => h) (Or.inl ⟨by kernel_rfl, ?_⟩) (by assumption) ?_
              rotate_left
              · intro w hSw
                (try dsimp only at hSw)
                go_simp
                all_goals (with_reducible rfl)
              (try simp only [Act.put, List.setIfInBounds_toArray, List.set_cons_zero, List.set_cons_succ])
              refine wpAnyH_take (i := 13) (oi := { dst := some 148, op := Op.move (Operand.tmp 11), type := 110, pos := "ref.go:56", after := #[], guard := none }) (v := ?_) rfl (by kernel_rfl) (by kernel_rfl) (by kernel_rfl) (fun _ _ _ h => h) (Or.inl ⟨by kernel_rfl, ?_⟩) (by assumption) ?_
              rotate_left
              · intro w hSw
                (try dsimp only at hSw)
                go_simp
                all_goals (with_reducible rfl)
              (try simp only [Act.put, List.setIfInBounds_toArray, List.set_cons_zero, List.set_cons_succ])
              refine wpAnyH_take (i := 14) (oi := { dst := some 149, op := Op.indexAddr 110 (Operand.tmp 148) (Operand.const (Value.int IntKind.i64 5)), type := 0, pos := "ref.go:56", after := #[{ on := 13, ground := Ground.data }], guard := none }) (v := ?_) rfl (by kernel_rfl) (by kernel_rfl) (by kernel_rfl) (fun _ _ _ h => h) (Or.inl ⟨by kernel_rfl, ?_⟩) (by assumption) ?_
              rotate_left
              · intro w hSw
                (try dsimp only at hSw)
                go_simp
                all_goals (with_reducible rfl)
              (try simp only [Act.put, List.setIfInBounds_toArray, List.set_cons_zero, List.set_cons_succ])
              refine wpAnyH_take (i := 15) (oi := { dst := some 150, op := Op.load 109 (Operand.tmp 149), type := 109, pos := "ref.go:56", after := #[{ on := 14, ground := Ground.data }], guard := none }) (v := ?_) rfl (by kernel_rfl) (by kernel_rfl) (by kernel_rfl) (fun _ _ _ h => h) (Or.inl ⟨by kernel_rfl, ?_⟩) (by assumption) ?_
              rotate_left
              · intro w hSw
                (try dsimp only at hSw)
                go_simp
                all_goals (with_reducible rfl)
              (try simp only [Act.put, List.setIfInBounds_toArray, List.set_cons_zero, List.set_cons_succ])
              refine wpAnyH_take (i := 16) (oi := { dst := some 151, op := Op.binOp BinOp.and 109 (Operand.tmp 147) (Operand.tmp 150) 109, type := 109, pos := "ref.go:56", after := #[{ on := 12, ground := Ground.data }, { on := 15, ground := Ground.data }], guard := none }) (v := ?_) rfl (by kernel_rfl) (by kernel_rfl) (by kernel_rfl) (fun _ _ _ h => h) (Or.inl ⟨by kernel_rfl, ?_⟩) (by assumption) ?_
              rotate_left
              · intro w hSw
                (try dsimp only at hSw)
                go_simp
                all_goals (with_reducible rfl)
              (try simp only [Act.put, List.setIfInBounds_toArray, List.set_cons_zero, List.set_cons_succ])
              refine wpAnyH_take (i := 17) (oi := { dst := some 152, op := Op.move (Operand.tmp 14), type := 109, pos := "ref.go:56", after := #[], guard := none }) (v := ?_) rfl (by kernel_rfl) (by kernel_rfl) (by kernel_rfl) (fun _ _ _ h => h) (Or.inl ⟨by kernel_rfl, ?_⟩) (by assumption) ?_
              rotate_left
              · intro w hSw
                (try dsimp only at hSw)
                go_simp
                all_goals (with_reducible rfl)
              (try simp only [Act.put, List.setIfInBounds_toArray, List.set_cons_zero, List.set_cons_succ])
              refine wpAnyH_take (i := 18) (oi := { dst := some 153, op := Op.unOp UnOp.xor 109 (Operand.tmp 152), type := 109, pos := "ref.go:56", after := #[{ on := 17, ground := Ground.data }], guard := none }) (v := ?_) rfl (by kernel_rfl) (by kernel_rfl) (by kernel_rfl) (fun _ _ _ h => h) (Or.inl ⟨by kernel_rfl, ?_⟩) (by assumption) ?_
              rotate_left
              · intro w hSw
                (try dsimp only at hSw)
                go_simp
                all_goals (with_reducible rfl)
              (try simp only [Act.put, List.setIfInBounds_toArray, List.set_cons_zero, List.set_cons_succ])
              refine wpAnyH_take (i := 19) (oi := { dst := some 154, op := Op.move (Operand.tmp 11), type := 110, pos := "ref.go:56", after := #[], guard := none }) (v := ?_) rfl (by kernel_rfl) (by kernel_rfl) (by kernel_rfl) (fun _ _ _ h => h) (Or.inl ⟨by kernel_rfl, ?_⟩) (by assumption) ?_
              rotate_left
              · intro w hSw
                (try dsimp only at hSw)
                go_simp
                all_goals (with_reducible rfl)
              (try simp only [Act.put, List.setIfInBounds_toArray, List.set_cons_zero, List.set_cons_succ])
              refine wpAnyH_take (i := 20) (oi := { dst := some 155, op := Op.indexAddr 110 (Operand.tmp 154) (Operand.const (Value.int IntKind.i64 6)), type := 0, pos := "ref.go:56", after := #[{ on := 19, ground := Ground.data }], guard := none }) (v := ?_) rfl (by kernel_rfl) (by kernel_rfl) (by kernel_rfl) (fun _ _ _ h => h) (Or.inl ⟨by kernel_rfl, ?_⟩) (by assumption) ?_
              rotate_left
              · intro w hSw
                (try dsimp only at hSw)
                go_simp
                all_goals (with_reducible rfl)
              (try simp only [Act.put, List.setIfInBounds_toArray, List.set_cons_zero, List.set_cons_succ])
              refine wpAnyH_take (i := 21) (oi := { dst := some 156, op := Op.load 109 (Operand.tmp 155), type := 109, pos := "ref.go:56", after := #[{ on := 20, ground := Ground.data }], guard := none }) (v := ?_) rfl (by kernel_rfl) (by kernel_rfl) (by kernel_rfl) (fun _ _ _ h => h) (Or.inl ⟨by kernel_rfl, ?_⟩) (by assumption) ?_
              rotate_left
              · intro w hSw
                (try dsimp only at hSw)
                go_simp
                all_goals (with_reducible rfl)
              (try simp only [Act.put, List.setIfInBounds_toArray, List.set_cons_zero, List.set_cons_succ])
              refine wpAnyH_take (i := 22) (oi := { dst := some 157, op := Op.binOp BinOp.and 109 (Operand.tmp 153) (Operand.tmp 156) 109, type := 109, pos := "ref.go:56", after := #[{ on := 18, ground := Ground.data }, { on := 21, ground := Ground.data }], guard := none }) (v := ?_) rfl (by kernel_rfl) (by kernel_rfl) (by kernel_rfl) (fun _ _ _ h => h) (Or.inl ⟨by kernel_rfl, ?_⟩) (by assumption) ?_
              rotate_left
              · intro w hSw
                (try dsimp only at hSw)
                go_simp
                all_goals (with_reducible rfl)
              (try simp only [Act.put, List.setIfInBounds_toArray, List.set_cons_zero, List.set_cons_succ])
              refine wpAnyH_take (i := 23) (oi := { dst := some 158, op := Op.binOp BinOp.xor 109 (Operand.tmp 151) (Operand.tmp 157) 109, type := 109, pos := "ref.go:56", after := #[{ on := 16, ground := Ground.data }, { on := 22, ground := Ground.data }], guard := none }) (v := ?_) rfl (by kernel_rfl) (by kernel_rfl) (by kernel_rfl) (fun _ _ _ h => h) (Or.inl ⟨by kernel_rfl, ?_⟩) (by assumption) ?_
              rotate_left
              · intro w hSw
                (try dsimp only at hSw)
                go_simp
                all_goals (with_reducible rfl)
              (try simp only [Act.put, List.setIfInBounds_toArray, List.set_cons_zero, List.set_cons_succ])
              refine wpAnyH_take (i := 25) (oi := { dst := some 160, op := Op.move (Operand.tmp 10), type := 110, pos := "ref.go:56", after := #[], guard := none }) (v := ?_) rfl (by kernel_rfl) (by kernel_rfl) (by kernel_rfl) (fun _ _ _ h => h) (Or.inl ⟨by kernel_rfl, ?_⟩) (by assumption) ?_
              rotate_left
              · intro w hSw
                (try dsimp only at hSw)
                go_simp
                all_goals (with_reducible rfl)
              (try simp only [Act.put, List.setIfInBounds_toArray, List.set_cons_zero, List.set_cons_succ])
              refine wpAnyH_take (i := 26) (oi := { dst := some 161, op := Op.move (Operand.tmp 12), type := 3, pos := "ref.go:56", after := #[], guard := none }) (v := ?_) rfl (by kernel_rfl) (by kernel_rfl) (by kernel_rfl) (fun _ _ _ h => h) (Or.inl ⟨by kernel_rfl, ?_⟩) (by assumption) ?_
              rotate_left
              · intro w hSw
                (try dsimp only at hSw)
                go_simp
                all_goals (with_reducible rfl)
              (try simp only [Act.put, List.setIfInBounds_toArray, List.set_cons_zero, List.set_cons_succ])
              refine wpAnyH_take (i := 27) (oi := { dst := some 162, op := Op.indexAddr 110 (Operand.tmp 160) (Operand.tmp 161), type := 0, pos := "ref.go:56", after := #[{ on := 25, ground := Ground.data }, { on := 26, ground := Ground.data }], guard := none }) (v := ?_) rfl (by kernel_rfl) (by kernel_rfl) (by kernel_rfl) (fun _ _ _ h => h) (Or.inl ⟨by kernel_rfl, ?_⟩) (by assumption) ?_
              rotate_left
              · intro w hSw
                (try dsimp only at hSw)
                go_simp
                all_goals (with_reducible rfl)
              (try simp only [Act.put, List.setIfInBounds_toArray, List.set_cons_zero, List.set_cons_succ])
              refine wpAnyH_take (i := 28) (oi := { dst := some 163, op := Op.load 109 (Operand.tmp 162), type := 109, pos := "ref.go:56", after := #[{ on := 27, ground := Ground.data }], guard := none }) (v := ?_) rfl (by kernel_rfl) (by kernel_rfl) (by kernel_rfl) (fun _ _ _ h => h) (Or.inl ⟨by kernel_rfl, ?_⟩) (by assumption) ?_
              rotate_left
              · intro w hSw
                (try dsimp only at hSw)
                go_simp
                all_goals (with_reducible rfl)
              (try simp only [Act.put, List.setIfInBounds_toArray, List.set_cons_zero, List.set_cons_succ])
              refine wpAnyH_take (i := 30) (oi := { dst := some 165, op := Op.move (Operand.tmp 5), type := 110, pos := "ref.go:56", after := #[], guard := none }) (v := ?_) rfl (by kernel_rfl) (by kernel_rfl) (by kernel_rfl) (fun _ _ _ h => h) (Or.inl ⟨by kernel_rfl, ?_⟩) (by assumption) ?_
              rotate_left
              · intro w hSw
                (try dsimp only at hSw)
                go_simp
                all_goals (with_reducible rfl)
              (try simp only [Act.put, List.setIfInBounds_toArray, List.set_cons_zero, List.set_cons_succ])
              refine wpAnyH_take (i := 31) (oi := { dst := some 166, op := Op.move (Operand.tmp 12), type := 3, pos := "ref.go:56", after := #[], guard := none }) (v := ?_) rfl (by kernel_rfl) (by kernel_rfl) (by kernel_rfl) (fun _ _ _ h => h) (Or.inl ⟨by kernel_rfl, ?_⟩) (by assumption) ?_
              rotate_left
              · intro w hSw
                (try dsimp only at hSw)
                go_simp
                all_goals (with_reducible rfl)
              (try simp only [Act.put, List.setIfInBounds_toArray, List.set_cons_zero, List.set_cons_succ])
              refine wpAnyH_take (i := 32) (oi := { dst := some 167, op := Op.indexAddr 110 (Operand.tmp 165) (Operand.tmp 166), type := 0, pos := "ref.go:56", after := #[{ on := 30, ground := Ground.data }, { on := 31, ground := Ground.data }], guard := none }) (v := ?_) rfl (by kernel_rfl) (by kernel_rfl) (by kernel_rfl) (fun _ _ _ h => h) (Or.inl ⟨by kernel_rfl, ?_⟩) (by assumption) ?_
              rotate_left
              · intro w hSw
                (try dsimp only at hSw)
                go_simp
                all_goals (with_reducible rfl)
              (try simp only [Act.put, List.setIfInBounds_toArray, List.set_cons_zero, List.set_cons_succ])
              refine wpAnyH_take (i := 33) (oi := { dst := some 168, op := Op.load 109 (Operand.tmp 167), type := 109, pos := "ref.go:56", after := #[{ on := 32, ground := Ground.data }], guard := none }) (v := ?_) rfl (by kernel_rfl) (by kernel_rfl) (by kernel_rfl) (fun _ _ _ h => h) (Or.inl ⟨by kernel_rfl, ?_⟩) (by assumption) ?_
              rotate_left
              · intro w hSw
                (try dsimp only at hSw)
                go_simp
                all_goals (with_reducible rfl)
              (try simp only [Act.put, List.setIfInBounds_toArray, List.set_cons_zero, List.set_cons_succ])
              refine wpAnyH_one1 (i := 4) (o := { dst := some 139, op := Op.call { callee := Callee.value (Operand.func 87), args := #[Operand.tmp 138, Operand.const (Value.int IntKind.i64 6)], argTypes := #[109, 3] }, type := 109, pos := "ref.go:56", after := #[{ on := 3, ground := Ground.data }], guard := none }) (by kernel_rfl) rfl (fun K hK => ?_)
              go_simp
              go_at_call 87
              refine (rot87 v.e 6 _ (by decide)).mono ?_
              rintro e q6 ⟨rfl, b6⟩
              refine hK.out _ _ ?_ (fun hHeld2 => ?_)
              · exact ⟨hHeld.1.trans (b6.mono hHeld.1.size), HC.out _ (hHeld.1.trans (b6.mono hHeld.1.size))⟩
              clear hHeld
              have hHeld := hHeld2
              clear hHeld2
              clear hK K
              (try simp only [Act.put, List.setIfInBounds_toArray, List.set_cons_zero, List.set_cons_succ])
              refine wpAnyH_one1 (i := 6) (o := { dst := some 141, op := Op.call { callee := Callee.value (Operand.func 87), args := #[Operand.tmp 140, Operand.const (Value.int IntKind.i64 11)], argTypes := #[109, 3] }, type := 109, pos := "ref.go:56", after := #[{ on := 5, ground := Ground.data }, { on := 4, ground := Ground.chain }], guard := none }) (by kernel_rfl) rfl (fun K hK => ?_)
              go_simp
              go_at_call 87
              refine (rot87 v.e 11 _ (by decide)).mono ?_
              rintro e q11 ⟨rfl, b11⟩
              refine hK.out _ _ ?_ (fun hHeld2 => ?_)
              · exact ⟨hHeld.1.trans (b11.mono hHeld.1.size), HC.out _ (hHeld.1.trans (b11.mono hHeld.1.size))⟩
              clear hHeld
              have hHeld := hHeld2
              clear hHeld2
              clear hK K
              (try simp only [Act.put, List.setIfInBounds_toArray, List.set_cons_zero, List.set_cons_succ])
              refine wpAnyH_take (i := 7) (oi := { dst := some 142, op := Op.binOp BinOp.xor 109 (Operand.tmp 139) (Operand.tmp 141) 109, type := 109, pos := "ref.go:56", after := #[{ on := 4, ground := Ground.data }, { on := 6, ground := Ground.data }], guard := none }) (v := ?_) rfl (by kernel_rfl) (by kernel_rfl) (by kernel_rfl) (fun _ _ _ h => h) (Or.inl ⟨by kernel_rfl, ?_⟩) (by assumption) ?_
              rotate_left
              · intro w hSw
                (try dsimp only at hSw)
                go_simp
                all_goals (with_reducible rfl)
              (try simp only [Act.put, List.setIfInBounds_toArray, List.set_cons_zero, List.set_cons_succ])
              refine wpAnyH_one1 (i := 9) (o := { dst := some 144, op := Op.call { callee := Callee.value (Operand.func 87), args := #[Operand.tmp 143, Operand.const (Value.int IntKind.i64 25)], argTypes := #[109, 3] }, type := 109, pos := "ref.go:56", after := #[{ on := 8, ground := Ground.data }, { on := 6, ground := Ground.chain }], guard := none }) (by kernel_rfl) rfl (fun K hK => ?_)
              go_simp
              go_at_call 87
              refine (rot87 v.e 25 _ (by decide)).mono ?_
              rintro e q25 ⟨rfl, b25⟩
              refine hK.out _ _ ?_ (fun hHeld2 => ?_)
              · exact ⟨hHeld.1.trans (b25.mono hHeld.1.size), HC.out _ (hHeld.1.trans (b25.mono hHeld.1.size))⟩
              clear hHeld
              have hHeld := hHeld2
              clear hHeld2
              clear hK K
              (try simp only [Act.put, List.setIfInBounds_toArray, List.set_cons_zero, List.set_cons_succ])
              refine wpAnyH_take (i := 10) (oi := { dst := some 145, op := Op.binOp BinOp.xor 109 (Operand.tmp 142) (Operand.tmp 144) 109, type := 109, pos := "ref.go:56", after := #[{ on := 7, ground := Ground.data }, { on := 9, ground := Ground.data }], guard := none }) (v := ?_) rfl (by kernel_rfl) (by kernel_rfl) (by kernel_rfl) (fun _ _ _ h => h) (Or.inl ⟨by kernel_rfl, ?_⟩) (by assumption) ?_
              rotate_left
              · intro w hSw
                (try dsimp only at hSw)
                go_simp
                all_goals (with_reducible rfl)
              (try simp only [Act.put, List.setIfInBounds_toArray, List.set_cons_zero, List.set_cons_succ])
              refine wpAnyH_take (i := 11) (oi := { dst := some 146, op := Op.binOp BinOp.add 109 (Operand.tmp 137) (Operand.tmp 145) 109, type := 109, pos := "ref.go:56", after := #[{ on := 2, ground := Ground.data }, { on := 10, ground := Ground.data }], guard := none }) (v := ?_) rfl (by kernel_rfl) (by kernel_rfl) (by kernel_rfl) (fun _ _ _ h => h) (Or.inl ⟨by kernel_rfl, ?_⟩) (by assumption) ?_
              rotate_left
              · intro w hSw
                (try dsimp only at hSw)
                go_simp
                all_goals (with_reducible rfl)
              (try simp only [Act.put, List.setIfInBounds_toArray, List.set_cons_zero, List.set_cons_succ])
              refine wpAnyH_take (i := 24) (oi := { dst := some 159, op := Op.binOp BinOp.add 109 (Operand.tmp 146) (Operand.tmp 158) 109, type := 109, pos := "ref.go:56", after := #[{ on := 11, ground := Ground.data }, { on := 23, ground := Ground.data }], guard := none }) (v := ?_) rfl (by kernel_rfl) (by kernel_rfl) (by kernel_rfl) (fun _ _ _ h => h) (Or.inl ⟨by kernel_rfl, ?_⟩) (by assumption) ?_
              rotate_left
              · intro w hSw
                (try dsimp only at hSw)
                go_simp
                all_goals (with_reducible rfl)
              (try simp only [Act.put, List.setIfInBounds_toArray, List.set_cons_zero, List.set_cons_succ])
              refine wpAnyH_take (i := 29) (oi := { dst := some 164, op := Op.binOp BinOp.add 109 (Operand.tmp 159) (Operand.tmp 163) 109, type := 109, pos := "ref.go:56", after := #[{ on := 24, ground := Ground.data }, { on := 28, ground := Ground.data }], guard := none }) (v := ?_) rfl (by kernel_rfl) (by kernel_rfl) (by kernel_rfl) (fun _ _ _ h => h) (Or.inl ⟨by kernel_rfl, ?_⟩) (by assumption) ?_
              rotate_left
              · intro w hSw
                (try dsimp only at hSw)
                go_simp
                all_goals (with_reducible rfl)
              (try simp only [Act.put, List.setIfInBounds_toArray, List.set_cons_zero, List.set_cons_succ])
              refine wpAnyH_take (i := 34) (oi := { dst := some 169, op := Op.binOp BinOp.add 109 (Operand.tmp 164) (Operand.tmp 168) 109, type := 109, pos := "ref.go:56", after := #[{ on := 29, ground := Ground.data }, { on := 33, ground := Ground.data }], guard := none }) (v := ?_) rfl (by kernel_rfl) (by kernel_rfl) (by kernel_rfl) (fun _ _ _ h => h) (Or.inl ⟨by kernel_rfl, ?_⟩) (by assumption) ?_
              rotate_left
              · intro w hSw
                (try dsimp only at hSw)
                go_simp
                all_goals (with_reducible rfl)
              (try simp only [Act.put, List.setIfInBounds_toArray, List.set_cons_zero, List.set_cons_succ])
              refine wpAnyH_take (i := 35) (oi := { dst := some 15, op := Op.assign (Operand.tmp 169), type := 109, pos := "ref.go:56", after := #[{ on := 34, ground := Ground.data }, { on := 9, ground := Ground.chain }, { on := 0, ground := Ground.phase }, { on := 1, ground := Ground.phase }, { on := 2, ground := Ground.phase }, { on := 3, ground := Ground.phase }, { on := 4, ground := Ground.phase }, { on := 5, ground := Ground.phase }, { on := 6, ground := Ground.phase }, { on := 7, ground := Ground.phase }, { on := 8, ground := Ground.phase }, { on := 9, ground := Ground.phase }, { on := 10, ground := Ground.phase }, { on := 11, ground := Ground.phase }, { on := 12, ground := Ground.phase }, { on := 13, ground := Ground.phase }, { on := 14, ground := Ground.phase }, { on := 15, ground := Ground.phase }, { on := 16, ground := Ground.phase }, { on := 17, ground := Ground.phase }, { on := 18, ground := Ground.phase }, { on := 19, ground := Ground.phase }, { on := 20, ground := Ground.phase }, { on := 21, ground := Ground.phase }, { on := 22, ground := Ground.phase }, { on := 23, ground := Ground.phase }, { on := 24, ground := Ground.phase }, { on := 25, ground := Ground.phase }, { on := 26, ground := Ground.phase }, { on := 27, ground := Ground.phase }, { on := 28, ground := Ground.phase }, { on := 29, ground := Ground.phase }, { on := 30, ground := Ground.phase }, { on := 31, ground := Ground.phase }, { on := 32, ground := Ground.phase }, { on := 33, ground := Ground.phase }, { on := 34, ground := Ground.phase }], guard := none }) (v := ?_) rfl (by kernel_rfl) (by kernel_rfl) (by kernel_rfl) (fun _ _ _ h => h) (Or.inl ⟨by kernel_rfl, ?_⟩) (by assumption) ?_
              rotate_left
              · intro w hSw
                (try dsimp only at hSw)
                go_simp
                all_goals (with_reducible rfl)
              (try simp only [Act.put, List.setIfInBounds_toArray, List.set_cons_zero, List.set_cons_succ])
              refine wpAnyH_done (by kernel_rfl) ?_ _
              refine NoPanic.normal ?_
              have n20 := hHeld.1
              clear hHeld b6 b11 b25 HC
              try rw [mixV3]
              generalize q25 = W20 at n20 ⊢
              generalize hT : IntKind.u32.wrap _ = tv
              have HTV := Lib.hid (show tV v k x = tv from hT)
              have N20 := Lib.hid n20
              clear hT n20 c0 c4
              have HC := Lib.hid (fun W (hW : Below W20.heap.size W20 W) => And.intro (HCA.out W (N20.out.trans (hW.mono N20.out.size)) 1 v.b rfl) (HCA.out W (N20.out.trans (hW.mono N20.out.size)) 2 v.c rfl))
              go_upto_region 21 with (fail)
              refine wp_region_noPanic ?_
              refine wp_region_held_drew (S := (fun w' => Below W20.heap.size W20 w' ∧ w'.cell? ⟨b, 1, none⟩ = some (.int .u32 v.b) ∧ w'.cell? ⟨b, 2, none⟩ = some (.int .u32 v.c))) (by kernel_rfl) ⟨(Below.refl _ _).drew, HC.out _ (Below.refl _ _).drew⟩ (fun hHeld => ?_)
              refine wpAnyH_take (i := 0) (oi := { dst := some 170, op := Op.move (Operand.tmp 13), type := 109, pos := "ref.go:57", after := #[], guard := none }) (v := ?_) rfl (by kernel_rfl) (by kernel_rfl) (by kernel_rfl) (fun _ _ _ h => h) (Or.inl ⟨by kernel_rfl, ?_⟩) (by assumption) ?_
              rotate_left
              · intro w hSw
                (try dsimp only at hSw)
                go_simp
                all_goals (with_reducible rfl)
              (try simp only [Act.put, List.setIfInBounds_toArray, List.set_cons_zero, List.set_cons_succ])
              refine wpAnyH_take (i := 2) (oi := { dst := some 172, op := Op.move (Operand.tmp 13), type := 109, pos := "ref.go:57", after := #[], guard := none }) (v := ?_) rfl (by kernel_rfl) (by kernel_rfl) (by kernel_rfl) (fun _ _ _ h => h) (Or.inl ⟨by kernel_rfl, ?_⟩) (by assumption) ?_
              rotate_left
              · intro w hSw
                (try dsimp only at hSw)
                go_simp
                all_goals (with_reducible rfl)
              (try simp only [Act.put, List.setIfInBounds_toArray, List.set_cons_zero, List.set_cons_succ])
              refine wpAnyH_take (i := 5) (oi := { dst := some 175, op := Op.move (Operand.tmp 13), type := 109, pos := "ref.go:57", after := #[], guard := none }) (v := ?_) rfl (by kernel_rfl) (by kernel_rfl) (by kernel_rfl) (fun _ _ _ h => h) (Or.inl ⟨by kernel_rfl, ?_⟩) (by assumption) ?_
              rotate_left
              · intro w hSw
                (try dsimp only at hSw)
                go_simp
                all_goals (with_reducible rfl)
              (try simp only [Act.put, List.setIfInBounds_toArray, List.set_cons_zero, List.set_cons_succ])
              refine wpAnyH_take (i := 8) (oi := { dst := some 178, op := Op.move (Operand.tmp 13), type := 109, pos := "ref.go:57", after := #[], guard := none }) (v := ?_) rfl (by kernel_rfl) (by kernel_rfl) (by kernel_rfl) (fun _ _ _ h => h) (Or.inl ⟨by kernel_rfl, ?_⟩) (by assumption) ?_
              rotate_left
              · intro w hSw
                (try dsimp only at hSw)
                go_simp
                all_goals (with_reducible rfl)
              (try simp only [Act.put, List.setIfInBounds_toArray, List.set_cons_zero, List.set_cons_succ])
              refine wpAnyH_take (i := 9) (oi := { dst := some 179, op := Op.move (Operand.tmp 11), type := 110, pos := "ref.go:57", after := #[], guard := none }) (v := ?_) rfl (by kernel_rfl) (by kernel_rfl) (by kernel_rfl) (fun _ _ _ h => h) (Or.inl ⟨by kernel_rfl, ?_⟩) (by assumption) ?_
              rotate_left
              · intro w hSw
                (try dsimp only at hSw)
                go_simp
                all_goals (with_reducible rfl)
              (try simp only [Act.put, List.setIfInBounds_toArray, List.set_cons_zero, List.set_cons_succ])
              refine wpAnyH_take (i := 10) (oi := { dst := some 180, op := Op.indexAddr 110 (Operand.tmp 179) (Operand.const (Value.int IntKind.i64 1)), type := 0, pos := "ref.go:57", after := #[{ on := 9, ground := Ground.data }], guard := none }) (v := ?_) rfl (by kernel_rfl) (by kernel_rfl) (by kernel_rfl) (fun _ _ _ h => h) (Or.inl ⟨by kernel_rfl, ?_⟩) (by assumption) ?_
              rotate_left
              · intro w hSw
                (try dsimp only at hSw)
                go_simp
                all_goals (with_reducible rfl)
              (try simp only [Act.put, List.setIfInBounds_toArray, List.set_cons_zero, List.set_cons_succ])
              refine wpAnyH_take (i := 11) (oi := { dst := some 181, op := Op.load 109 (Operand.tmp 180), type := 109, pos := "ref.go:57", after := #[{ on := 10, ground := Ground.data }], guard := none }) (v := ?_) rfl (by kernel_rfl) (by kernel_rfl) (by kernel_rfl) (fun _ _ _ h => h) (Or.inl ⟨by kernel_rfl, ?_⟩) (by assumption) ?_
              rotate_left
              · intro w hSw
                (try dsimp only at hSw)
                go_simp
                all_goals (with_reducible rfl)
              (try simp only [Act.put, List.setIfInBounds_toArray, List.set_cons_zero, List.set_cons_succ])
              refine wpAnyH_take (i := 12) (oi := { dst := some 182, op := Op.binOp BinOp.and 109 (Operand.tmp 178) (Operand.tmp 181) 109, type := 109, pos := "ref.go:57", after := #[{ on := 8, ground := Ground.data }, { on := 11, ground := Ground.data }], guard := none }) (v := ?_) rfl (by kernel_rfl) (by kernel_rfl) (by kernel_rfl) (fun _ _ _ h => h) (Or.inl ⟨by kernel_rfl, ?_⟩) (by assumption) ?_
              rotate_left
              · intro w hSw
                (try dsimp only at hSw)
                go_simp
                all_goals (with_reducible rfl)
              (try simp only [Act.put, List.setIfInBounds_toArray, List.set_cons_zero, List.set_cons_succ])
              refine wpAnyH_take (i := 13) (oi := { dst := some 183, op := Op.move (Operand.tmp 13), type := 109, pos := "ref.go:57", after := #[], guard := none }) (v := ?_) rfl (by kernel_rfl) (by kernel_rfl) (by kernel_rfl) (fun _ _ _ h => h) (Or.inl ⟨by kernel_rfl, ?_⟩) (by assumption) ?_
              rotate_left
              · intro w hSw
                (try dsimp only at hSw)
                go_simp
                all_goals (with_reducible rfl)
              (try simp only [Act.put, List.setIfInBounds_toArray, List.set_cons_zero, List.set_cons_succ])
              refine wpAnyH_take (i := 14) (oi := { dst := some 184, op := Op.move (Operand.tmp 11), type := 110, pos := "ref.go:57", after := #[], guard := none }) (v := ?_) rfl (by kernel_rfl) (by kernel_rfl) (by kernel_rfl) (fun _ _ _ h => h) (Or.inl ⟨by kernel_rfl, ?_⟩) (by assumption) ?_
              rotate_left
              · intro w hSw
                (try dsimp only at hSw)
                go_simp
                all_goals (with_reducible rfl)
              (try simp only [Act.put, List.setIfInBounds_toArray, List.set_cons_zero, List.set_cons_succ])
              refine wpAnyH_take (i := 15) (oi := { dst := some 185, op := Op.indexAddr 110 (Operand.tmp 184) (Operand.const (Value.int IntKind.i64 2)), type := 0, pos := "ref.go:57", after := #[{ on := 14, ground := Ground.data }], guard := none }) (v := ?_) rfl (by kernel_rfl) (by kernel_rfl) (by kernel_rfl) (fun _ _ _ h => h) (Or.inl ⟨by kernel_rfl, ?_⟩) (by assumption) ?_
              rotate_left
              · intro w hSw
                (try dsimp only at hSw)
                go_simp
                all_goals (with_reducible rfl)
              (try simp only [Act.put, List.setIfInBounds_toArray, List.set_cons_zero, List.set_cons_succ])
              refine wpAnyH_take (i := 16) (oi := { dst := some 186, op := Op.load 109 (Operand.tmp 185), type := 109, pos := "ref.go:57", after := #[{ on := 15, ground := Ground.data }], guard := none }) (v := ?_) rfl (by kernel_rfl) (by kernel_rfl) (by kernel_rfl) (fun _ _ _ h => h) (Or.inl ⟨by kernel_rfl, ?_⟩) (by assumption) ?_
              rotate_left
              · intro w hSw
                (try dsimp only at hSw)
                go_simp
                all_goals (with_reducible rfl)
              (try simp only [Act.put, List.setIfInBounds_toArray, List.set_cons_zero, List.set_cons_succ])
              refine wpAnyH_take (i := 17) (oi := { dst := some 187, op := Op.binOp BinOp.and 109 (Operand.tmp 183) (Operand.tmp 186) 109, type := 109, pos := "ref.go:57", after := #[{ on := 13, ground := Ground.data }, { on := 16, ground := Ground.data }], guard := none }) (v := ?_) rfl (by kernel_rfl) (by kernel_rfl) (by kernel_rfl) (fun _ _ _ h => h) (Or.inl ⟨by kernel_rfl, ?_⟩) (by assumption) ?_
              rotate_left
              · intro w hSw
                (try dsimp only at hSw)
                go_simp
                all_goals (with_reducible rfl)
              (try simp only [Act.put, List.setIfInBounds_toArray, List.set_cons_zero, List.set_cons_succ])
              refine wpAnyH_take (i := 18) (oi := { dst := some 188, op := Op.binOp BinOp.xor 109 (Operand.tmp 182) (Operand.tmp 187) 109, type := 109, pos := "ref.go:57", after := #[{ on := 12, ground := Ground.data }, { on := 17, ground := Ground.data }], guard := none }) (v := ?_) rfl (by kernel_rfl) (by kernel_rfl) (by kernel_rfl) (fun _ _ _ h => h) (Or.inl ⟨by kernel_rfl, ?_⟩) (by assumption) ?_
              rotate_left
              · intro w hSw
                (try dsimp only at hSw)
                go_simp
                all_goals (with_reducible rfl)
              (try simp only [Act.put, List.setIfInBounds_toArray, List.set_cons_zero, List.set_cons_succ])
              refine wpAnyH_take (i := 19) (oi := { dst := some 189, op := Op.move (Operand.tmp 11), type := 110, pos := "ref.go:57", after := #[], guard := none }) (v := ?_) rfl (by kernel_rfl) (by kernel_rfl) (by kernel_rfl) (fun _ _ _ h => h) (Or.inl ⟨by kernel_rfl, ?_⟩) (by assumption) ?_
              rotate_left
              · intro w hSw
                (try dsimp only at hSw)
                go_simp
                all_goals (with_reducible rfl)
              (try simp only [Act.put, List.setIfInBounds_toArray, List.set_cons_zero, List.set_cons_succ])
              refine wpAnyH_take (i := 20) (oi := { dst := some 190, op := Op.indexAddr 110 (Operand.tmp 189) (Operand.const (Value.int IntKind.i64 1)), type := 0, pos := "ref.go:57", after := #[{ on := 19, ground := Ground.data }], guard := none }) (v := ?_) rfl (by kernel_rfl) (by kernel_rfl) (by kernel_rfl) (fun _ _ _ h => h) (Or.inl ⟨by kernel_rfl, ?_⟩) (by assumption) ?_
              rotate_left
              · intro w hSw
                (try dsimp only at hSw)
                go_simp
                all_goals (with_reducible rfl)
              (try simp only [Act.put, List.setIfInBounds_toArray, List.set_cons_zero, List.set_cons_succ])
              refine wpAnyH_take (i := 21) (oi := { dst := some 191, op := Op.load 109 (Operand.tmp 190), type := 109, pos := "ref.go:57", after := #[{ on := 20, ground := Ground.data }], guard := none }) (v := ?_) rfl (by kernel_rfl) (by kernel_rfl) (by kernel_rfl) (fun _ _ _ h => h) (Or.inl ⟨by kernel_rfl, ?_⟩) (by assumption) ?_
              rotate_left
              · intro w hSw
                (try dsimp only at hSw)
                go_simp
                all_goals (with_reducible rfl)
              (try simp only [Act.put, List.setIfInBounds_toArray, List.set_cons_zero, List.set_cons_succ])
              refine wpAnyH_take (i := 22) (oi := { dst := some 192, op := Op.move (Operand.tmp 11), type := 110, pos := "ref.go:57", after := #[], guard := none }) (v := ?_) rfl (by kernel_rfl) (by kernel_rfl) (by kernel_rfl) (fun _ _ _ h => h) (Or.inl ⟨by kernel_rfl, ?_⟩) (by assumption) ?_
              rotate_left
              · intro w hSw
                (try dsimp only at hSw)
                go_simp
                all_goals (with_reducible rfl)
              (try simp only [Act.put, List.setIfInBounds_toArray, List.set_cons_zero, List.set_cons_succ])
              refine wpAnyH_take (i := 23) (oi := { dst := some 193, op := Op.indexAddr 110 (Operand.tmp 192) (Operand.const (Value.int IntKind.i64 2)), type := 0, pos := "ref.go:57", after := #[{ on := 22, ground := Ground.data }], guard := none }) (v := ?_) rfl (by kernel_rfl) (by kernel_rfl) (by kernel_rfl) (fun _ _ _ h => h) (Or.inl ⟨by kernel_rfl, ?_⟩) (by assumption) ?_
              rotate_left
              · intro w hSw
                (try dsimp only at hSw)
                go_simp
                all_goals (with_reducible rfl)
              (try simp only [Act.put, List.setIfInBounds_toArray, List.set_cons_zero, List.set_cons_succ])
              refine wpAnyH_take (i := 24) (oi := { dst := some 194, op := Op.load 109 (Operand.tmp 193), type := 109, pos := "ref.go:57", after := #[{ on := 23, ground := Ground.data }], guard := none }) (v := ?_) rfl (by kernel_rfl) (by kernel_rfl) (by kernel_rfl) (fun _ _ _ h => h) (Or.inl ⟨by kernel_rfl, ?_⟩) (by assumption) ?_
              rotate_left
              · intro w hSw
                (try dsimp only at hSw)
                go_simp
                all_goals (with_reducible rfl)
              (try simp only [Act.put, List.setIfInBounds_toArray, List.set_cons_zero, List.set_cons_succ])
              refine wpAnyH_take (i := 25) (oi := { dst := some 195, op := Op.binOp BinOp.and 109 (Operand.tmp 191) (Operand.tmp 194) 109, type := 109, pos := "ref.go:57", after := #[{ on := 21, ground := Ground.data }, { on := 24, ground := Ground.data }], guard := none }) (v := ?_) rfl (by kernel_rfl) (by kernel_rfl) (by kernel_rfl) (fun _ _ _ h => h) (Or.inl ⟨by kernel_rfl, ?_⟩) (by assumption) ?_
              rotate_left
              · intro w hSw
                (try dsimp only at hSw)
                go_simp
                all_goals (with_reducible rfl)
              (try simp only [Act.put, List.setIfInBounds_toArray, List.set_cons_zero, List.set_cons_succ])
              refine wpAnyH_take (i := 26) (oi := { dst := some 196, op := Op.binOp BinOp.xor 109 (Operand.tmp 188) (Operand.tmp 195) 109, type := 109, pos := "ref.go:57", after := #[{ on := 18, ground := Ground.data }, { on := 25, ground := Ground.data }], guard := none }) (v := ?_) rfl (by kernel_rfl) (by kernel_rfl) (by kernel_rfl) (fun _ _ _ h => h) (Or.inl ⟨by kernel_rfl, ?_⟩) (by assumption) ?_
              rotate_left
              · intro w hSw
                (try dsimp only at hSw)
                go_simp
                all_goals (with_reducible rfl)
              (try simp only [Act.put, List.setIfInBounds_toArray, List.set_cons_zero, List.set_cons_succ])
              refine wpAnyH_one1 (i := 1) (o := { dst := some 171, op := Op.call { callee := Callee.value (Operand.func 87), args := #[Operand.tmp 170, Operand.const (Value.int IntKind.i64 2)], argTypes := #[109, 3] }, type := 109, pos := "ref.go:57", after := #[{ on := 0, ground := Ground.data }], guard := none }) (by kernel_rfl) rfl (fun K hK => ?_)
              go_simp
              go_at_call 87
              refine (rot87 v.a 2 _ (by decide)).mono ?_
              rintro e q2 ⟨rfl, b2⟩
              refine hK.out _ _ ?_ (fun hHeld2 => ?_)
              · exact ⟨hHeld.1.trans (b2.mono hHeld.1.size), HC.out _ (hHeld.1.trans (b2.mono hHeld.1.size))⟩
              clear hHeld
              have hHeld := hHeld2
              clear hHeld2
              clear hK K
              (try simp only [Act.put, List.setIfInBounds_toArray, List.set_cons_zero, List.set_cons_succ])
              refine wpAnyH_one1 (i := 3) (o := { dst := some 173, op := Op.call { callee := Callee.value (Operand.func 87), args := #[Operand.tmp 172, Operand.const (Value.int IntKind.i64 13)], argTypes := #[109, 3] }, type := 109, pos := "ref.go:57", after := #[{ on := 2, ground := Ground.data }, { on := 1, ground := Ground.chain }], guard := none }) (by kernel_rfl) rfl (fun K hK => ?_)
              go_simp
              go_at_call 87
              refine (rot87 v.a 13 _ (by decide)).mono ?_
              rintro e q13 ⟨rfl, b13⟩
              refine hK.out _ _ ?_ (fun hHeld2 => ?_)
              · exact ⟨hHeld.1.trans (b13.mono hHeld.1.size), HC.out _ (hHeld.1.trans (b13.mono hHeld.1.size))⟩
              clear hHeld
              have hHeld := hHeld2
              clear hHeld2
              clear hK K
              (try simp only [Act.put, List.setIfInBounds_toArray, List.set_cons_zero, List.set_cons_succ])
              refine wpAnyH_take (i := 4) (oi := { dst := some 174, op := Op.binOp BinOp.xor 109 (Operand.tmp 171) (Operand.tmp 173) 109, type := 109, pos := "ref.go:57", after := #[{ on := 1, ground := Ground.data }, { on := 3, ground := Ground.data }], guard := none }) (v := ?_) rfl (by kernel_rfl) (by kernel_rfl) (by kernel_rfl) (fun _ _ _ h => h) (Or.inl ⟨by kernel_rfl, ?_⟩) (by assumption) ?_
              rotate_left
              · intro w hSw
                (try dsimp only at hSw)
                go_simp
                all_goals (with_reducible rfl)
              (try simp only [Act.put, List.setIfInBounds_toArray, List.set_cons_zero, List.set_cons_succ])
              refine wpAnyH_one1 (i := 6) (o := { dst := some 176, op := Op.call { callee := Callee.value (Operand.func 87), args := #[Operand.tmp 175, Operand.const (Value.int IntKind.i64 22)], argTypes := #[109, 3] }, type := 109, pos := "ref.go:57", after := #[{ on := 5, ground := Ground.data }, { on := 3, ground := Ground.chain }], guard := none }) (by kernel_rfl) rfl (fun K hK => ?_)
              go_simp
              go_at_call 87
              refine (rot87 v.a 22 _ (by decide)).mono ?_
              rintro e q22 ⟨rfl, b22⟩
              refine hK.out _ _ ?_ (fun hHeld2 => ?_)
              · exact ⟨hHeld.1.trans (b22.mono hHeld.1.size), HC.out _ (hHeld.1.trans (b22.mono hHeld.1.size))⟩
              clear hHeld
              have hHeld := hHeld2
              clear hHeld2
              clear hK K
              (try simp only [Act.put, List.setIfInBounds_toArray, List.set_cons_zero, List.set_cons_succ])
              refine wpAnyH_take (i := 7) (oi := { dst := some 177, op := Op.binOp BinOp.xor 109 (Operand.tmp 174) (Operand.tmp 176) 109, type := 109, pos := "ref.go:57", after := #[{ on := 4, ground := Ground.data }, { on := 6, ground := Ground.data }], guard := none }) (v := ?_) rfl (by kernel_rfl) (by kernel_rfl) (by kernel_rfl) (fun _ _ _ h => h) (Or.inl ⟨by kernel_rfl, ?_⟩) (by assumption) ?_
              rotate_left
              · intro w hSw
                (try dsimp only at hSw)
                go_simp
                all_goals (with_reducible rfl)
              (try simp only [Act.put, List.setIfInBounds_toArray, List.set_cons_zero, List.set_cons_succ])
              refine wpAnyH_take (i := 27) (oi := { dst := some 197, op := Op.binOp BinOp.add 109 (Operand.tmp 177) (Operand.tmp 196) 109, type := 109, pos := "ref.go:57", after := #[{ on := 7, ground := Ground.data }, { on := 26, ground := Ground.data }], guard := none }) (v := ?_) rfl (by kernel_rfl) (by kernel_rfl) (by kernel_rfl) (fun _ _ _ h => h) (Or.inl ⟨by kernel_rfl, ?_⟩) (by assumption) ?_
              rotate_left
              · intro w hSw
                (try dsimp only at hSw)
                go_simp
                all_goals (with_reducible rfl)
              (try simp only [Act.put, List.setIfInBounds_toArray, List.set_cons_zero, List.set_cons_succ])
              refine wpAnyH_take (i := 28) (oi := { dst := some 16, op := Op.assign (Operand.tmp 197), type := 109, pos := "ref.go:57", after := #[{ on := 27, ground := Ground.data }, { on := 6, ground := Ground.chain }, { on := 0, ground := Ground.phase }, { on := 1, ground := Ground.phase }, { on := 2, ground := Ground.phase }, { on := 3, ground := Ground.phase }, { on := 4, ground := Ground.phase }, { on := 5, ground := Ground.phase }, { on := 6, ground := Ground.phase }, { on := 7, ground := Ground.phase }, { on := 8, ground := Ground.phase }, { on := 9, ground := Ground.phase }, { on := 10, ground := Ground.phase }, { on := 11, ground := Ground.phase }, { on := 12, ground := Ground.phase }, { on := 13, ground := Ground.phase }, { on := 14, ground := Ground.phase }, { on := 15, ground := Ground.phase }, { on := 16, ground := Ground.phase }, { on := 17, ground := Ground.phase }, { on := 18, ground := Ground.phase }, { on := 19, ground := Ground.phase }, { on := 20, ground := Ground.phase }, { on := 21, ground := Ground.phase }, { on := 22, ground := Ground.phase }, { on := 23, ground := Ground.phase }, { on := 24, ground := Ground.phase }, { on := 25, ground := Ground.phase }, { on := 26, ground := Ground.phase }, { on := 27, ground := Ground.phase }], guard := none }) (v := ?_) rfl (by kernel_rfl) (by kernel_rfl) (by kernel_rfl) (fun _ _ _ h => h) (Or.inl ⟨by kernel_rfl, ?_⟩) (by assumption) ?_
              rotate_left
              · intro w hSw
                (try dsimp only at hSw)
                go_simp
                all_goals (with_reducible rfl)
              (try simp only [Act.put, List.setIfInBounds_toArray, List.set_cons_zero, List.set_cons_succ])
              refine wpAnyH_done (by kernel_rfl) ?_ _
              refine NoPanic.normal ?_
              have n21 := hHeld.1
              clear hHeld b2 b13 b22 HC
              try rw [mixV3]
              generalize q22 = W21 at n21 ⊢
              generalize hU : IntKind.u32.wrap (mixV v.a [2, 13, 22] + _) = uv
              have HUV := Lib.hid (show uV v = uv from hU)
              have N21 := Lib.hid (N20.out.trans (n21.mono N20.out.size))
              clear hU n21 N20
              have HC := Lib.hid (fun W (hW : Below W21.heap.size W21 W) => have hX := N21.out.trans (hW.mono N21.out.size); And.intro (HCA.out W hX 1 v.b rfl) (And.intro (HCA.out W hX 2 v.c rfl) (And.intro (HCA.out W hX 3 v.d rfl) (And.intro (HCA.out W hX 5 v.f rfl) (HCA.out W hX 6 v.g rfl)))))
              go_upto_region 22 with (fail)
              refine wp_region_noPanic ?_
              refine wp_region_held_drew (S := (fun w' => Below W21.heap.size W21 w' ∧ w'.cell? ⟨b, 1, none⟩ = some (.int .u32 v.b) ∧ w'.cell? ⟨b, 2, none⟩ = some (.int .u32 v.c) ∧ w'.cell? ⟨b, 3, none⟩ = some (.int .u32 v.d) ∧ w'.cell? ⟨b, 5, none⟩ = some (.int .u32 v.f) ∧ w'.cell? ⟨b, 6, none⟩ = some (.int .u32 v.g))) (by kernel_rfl) ⟨(Below.refl _ _).drew, HC.out _ (Below.refl _ _).drew⟩ (fun hHeld => ?_)
              refine wpAnyH_take (i := 0) (oi := { dst := some 198, op := Op.move (Operand.tmp 15), type := 109, pos := "ref.go:58", after := #[], guard := none }) (v := ?_) rfl (by kernel_rfl) (by kernel_rfl) (by kernel_rfl) (fun _ _ _ h => h) (Or.inl ⟨by kernel_rfl, ?_⟩) (by assumption) ?_
              rotate_left
              · intro w hSw
                (try dsimp only at hSw)
                go_simp
                all_goals (with_reducible rfl)
              (try simp only [Act.put, List.setIfInBounds_toArray, List.set_cons_zero, List.set_cons_succ])
              refine wpAnyH_take (i := 1) (oi := { dst := some 199, op := Op.move (Operand.tmp 16), type := 109, pos := "ref.go:58", after := #[], guard := none }) (v := ?_) rfl (by kernel_rfl) (by kernel_rfl) (by kernel_rfl) (fun _ _ _ h => h) (Or.inl ⟨by kernel_rfl, ?_⟩) (by assumption) ?_
              rotate_left
              · intro w hSw
                (try dsimp only at hSw)
                go_simp
                all_goals (with_reducible rfl)
              (try simp only [Act.put, List.setIfInBounds_toArray, List.set_cons_zero, List.set_cons_succ])
              refine wpAnyH_take (i := 2) (oi := { dst := some 200, op := Op.binOp BinOp.add 109 (Operand.tmp 198) (Operand.tmp 199) 109, type := 109, pos := "ref.go:58", after := #[{ on := 0, ground := Ground.data }, { on := 1, ground := Ground.data }], guard := none }) (v := ?_) rfl (by kernel_rfl) (by kernel_rfl) (by kernel_rfl) (fun _ _ _ h => h) (Or.inl ⟨by kernel_rfl, ?_⟩) (by assumption) ?_
              rotate_left
              · intro w hSw
                (try dsimp only at hSw)
                go_simp
                all_goals (with_reducible rfl)
              (try simp only [Act.put, List.setIfInBounds_toArray, List.set_cons_zero, List.set_cons_succ])
              refine wpAnyH_take (i := 3) (oi := { dst := some 201, op := Op.move (Operand.tmp 13), type := 109, pos := "ref.go:58", after := #[], guard := none }) (v := ?_) rfl (by kernel_rfl) (by kernel_rfl) (by kernel_rfl) (fun _ _ _ h => h) (Or.inl ⟨by kernel_rfl, ?_⟩) (by assumption) ?_
              rotate_left
              · intro w hSw
                (try dsimp only at hSw)
                go_simp
                all_goals (with_reducible rfl)
              (try simp only [Act.put, List.setIfInBounds_toArray, List.set_cons_zero, List.set_cons_succ])
              refine wpAnyH_take (i := 4) (oi := { dst := some 202, op := Op.move (Operand.tmp 11), type := 110, pos := "ref.go:58", after := #[], guard := none }) (v := ?_) rfl (by kernel_rfl) (by kernel_rfl) (by kernel_rfl) (fun _ _ _ h => h) (Or.inl ⟨by kernel_rfl, ?_⟩) (by assumption) ?_
              rotate_left
              · intro w hSw
                (try dsimp only at hSw)
                go_simp
                all_goals (with_reducible rfl)
              (try simp only [Act.put, List.setIfInBounds_toArray, List.set_cons_zero, List.set_cons_succ])
              refine wpAnyH_take (i := 5) (oi := { dst := some 203, op := Op.indexAddr 110 (Operand.tmp 202) (Operand.const (Value.int IntKind.i64 1)), type := 0, pos := "ref.go:58", after := #[{ on := 4, ground := Ground.data }], guard := none }) (v := ?_) rfl (by kernel_rfl) (by kernel_rfl) (by kernel_rfl) (fun _ _ _ h => h) (Or.inl ⟨by kernel_rfl, ?_⟩) (by assumption) ?_
              rotate_left
              · intro w hSw
                (try dsimp only at hSw)
                go_simp
                all_goals (with_reducible rfl)
              (try simp only [Act.put, List.setIfInBounds_toArray, List.set_cons_zero, List.set_cons_succ])
              refine wpAnyH_take (i := 6) (oi := { dst := some 204, op := Op.load 109 (Operand.tmp 203), type := 109, pos := "ref.go:58", after := #[{ on := 5, ground := Ground.data }], guard := none }) (v := ?_) rfl (by kernel_rfl) (by kernel_rfl) (by kernel_rfl) (fun _ _ _ h => h) (Or.inl ⟨by kernel_rfl, ?_⟩) (by assumption) ?_
              rotate_left
              · intro w hSw
                (try dsimp only at hSw)
                go_simp
                all_goals (with_reducible rfl)
              (try simp only [Act.put, List.setIfInBounds_toArray, List.set_cons_zero, List.set_cons_succ])
              refine wpAnyH_take (i := 7) (oi := { dst := some 205, op := Op.move (Operand.tmp 11), type := 110, pos := "ref.go:58", after := #[], guard := none }) (v := ?_) rfl (by kernel_rfl) (by kernel_rfl) (by kernel_rfl) (fun _ _ _ h => h) (Or.inl ⟨by kernel_rfl, ?_⟩) (by assumption) ?_
              rotate_left
              · intro w hSw
                (try dsimp only at hSw)
                go_simp
                all_goals (with_reducible rfl)
              (try simp only [Act.put, List.setIfInBounds_toArray, List.set_cons_zero, List.set_cons_succ])
              refine wpAnyH_take (i := 8) (oi := { dst := some 206, op := Op.indexAddr 110 (Operand.tmp 205) (Operand.const (Value.int IntKind.i64 2)), type := 0, pos := "ref.go:58", after := #[{ on := 7, ground := Ground.data }], guard := none }) (v := ?_) rfl (by kernel_rfl) (by kernel_rfl) (by kernel_rfl) (fun _ _ _ h => h) (Or.inl ⟨by kernel_rfl, ?_⟩) (by assumption) ?_
              rotate_left
              · intro w hSw
                (try dsimp only at hSw)
                go_simp
                all_goals (with_reducible rfl)
              (try simp only [Act.put, List.setIfInBounds_toArray, List.set_cons_zero, List.set_cons_succ])
              refine wpAnyH_take (i := 9) (oi := { dst := some 207, op := Op.load 109 (Operand.tmp 206), type := 109, pos := "ref.go:58", after := #[{ on := 8, ground := Ground.data }], guard := none }) (v := ?_) rfl (by kernel_rfl) (by kernel_rfl) (by kernel_rfl) (fun _ _ _ h => h) (Or.inl ⟨by kernel_rfl, ?_⟩) (by assumption) ?_
              rotate_left
              · intro w hSw
                (try dsimp only at hSw)
                go_simp
                all_goals (with_reducible rfl)
              (try simp only [Act.put, List.setIfInBounds_toArray, List.set_cons_zero, List.set_cons_succ])
              refine wpAnyH_take (i := 10) (oi := { dst := some 208, op := Op.move (Operand.tmp 11), type := 110, pos := "ref.go:58", after := #[], guard := none }) (v := ?_) rfl (by kernel_rfl) (by kernel_rfl) (by kernel_rfl) (fun _ _ _ h => h) (Or.inl ⟨by kernel_rfl, ?_⟩) (by assumption) ?_
              rotate_left
              · intro w hSw
                (try dsimp only at hSw)
                go_simp
                all_goals (with_reducible rfl)
              (try simp only [Act.put, List.setIfInBounds_toArray, List.set_cons_zero, List.set_cons_succ])
              refine wpAnyH_take (i := 11) (oi := { dst := some 209, op := Op.indexAddr 110 (Operand.tmp 208) (Operand.const (Value.int IntKind.i64 3)), type := 0, pos := "ref.go:58", after := #[{ on := 10, ground := Ground.data }], guard := none }) (v := ?_) rfl (by kernel_rfl) (by kernel_rfl) (by kernel_rfl) (fun _ _ _ h => h) (Or.inl ⟨by kernel_rfl, ?_⟩) (by assumption) ?_
              rotate_left
              · intro w hSw
                (try dsimp only at hSw)
                go_simp
                all_goals (with_reducible rfl)
              (try simp only [Act.put, List.setIfInBounds_toArray, List.set_cons_zero, List.set_cons_succ])
              refine wpAnyH_take (i := 12) (oi := { dst := some 210, op := Op.load 109 (Operand.tmp 209), type := 109, pos := "ref.go:58", after := #[{ on := 11, ground := Ground.data }], guard := none }) (v := ?_) rfl (by kernel_rfl) (by kernel_rfl) (by kernel_rfl) (fun _ _ _ h => h) (Or.inl ⟨by kernel_rfl, ?_⟩) (by assumption) ?_
              rotate_left
              · intro w hSw
                (try dsimp only at hSw)
                go_simp
                all_goals (with_reducible rfl)
              (try simp only [Act.put, List.setIfInBounds_toArray, List.set_cons_zero, List.set_cons_succ])
              refine wpAnyH_take (i := 13) (oi := { dst := some 211, op := Op.move (Operand.tmp 15), type := 109, pos := "ref.go:58", after := #[], guard := none }) (v := ?_) rfl (by kernel_rfl) (by kernel_rfl) (by kernel_rfl) (fun _ _ _ h => h) (Or.inl ⟨by kernel_rfl, ?_⟩) (by assumption) ?_
              rotate_left
              · intro w hSw
                (try dsimp only at hSw)
                go_simp
                all_goals (with_reducible rfl)
              (try simp only [Act.put, List.setIfInBounds_toArray, List.set_cons_zero, List.set_cons_succ])
              refine wpAnyH_take (i := 14) (oi := { dst := some 212, op := Op.binOp BinOp.add 109 (Operand.tmp 210) (Operand.tmp 211) 109, type := 109, pos := "ref.go:58", after := #[{ on := 12, ground := Ground.data }, { on := 13, ground := Ground.data }], guard := none }) (v := ?_) rfl (by kernel_rfl) (by kernel_rfl) (by kernel_rfl) (fun _ _ _ h => h) (Or.inl ⟨by kernel_rfl, ?_⟩) (by assumption) ?_
              rotate_left
              · intro w hSw
                (try dsimp only at hSw)
                go_simp
                all_goals (with_reducible rfl)
              (try simp only [Act.put, List.setIfInBounds_toArray, List.set_cons_zero, List.set_cons_succ])
              refine wpAnyH_take (i := 15) (oi := { dst := some 213, op := Op.move (Operand.tmp 14), type := 109, pos := "ref.go:58", after := #[], guard := none }) (v := ?_) rfl (by kernel_rfl) (by kernel_rfl) (by kernel_rfl) (fun _ _ _ h => h) (Or.inl ⟨by kernel_rfl, ?_⟩) (by assumption) ?_
              rotate_left
              · intro w hSw
                (try dsimp only at hSw)
                go_simp
                all_goals (with_reducible rfl)
              (try simp only [Act.put, List.setIfInBounds_toArray, List.set_cons_zero, List.set_cons_succ])
              refine wpAnyH_take (i := 16) (oi := { dst := some 214, op := Op.move (Operand.tmp 11), type := 110, pos := "ref.go:58", after := #[], guard := none }) (v := ?_) rfl (by kernel_rfl) (by kernel_rfl) (by kernel_rfl) (fun _ _ _ h => h) (Or.inl ⟨by kernel_rfl, ?_⟩) (by assumption) ?_
              rotate_left
              · intro w hSw
                (try dsimp only at hSw)
                go_simp
                all_goals (with_reducible rfl)
              (try simp only [Act.put, List.setIfInBounds_toArray, List.set_cons_zero, List.set_cons_succ])
              refine wpAnyH_take (i := 17) (oi := { dst := some 215, op := Op.indexAddr 110 (Operand.tmp 214) (Operand.const (Value.int IntKind.i64 5)), type := 0, pos := "ref.go:58", after := #[{ on := 16, ground := Ground.data }], guard := none }) (v := ?_) rfl (by kernel_rfl) (by kernel_rfl) (by kernel_rfl) (fun _ _ _ h => h) (Or.inl ⟨by kernel_rfl, ?_⟩) (by assumption) ?_
              rotate_left
              · intro w hSw
                (try dsimp only at hSw)
                go_simp
                all_goals (with_reducible rfl)
              (try simp only [Act.put, List.setIfInBounds_toArray, List.set_cons_zero, List.set_cons_succ])
              refine wpAnyH_take (i := 18) (oi := { dst := some 216, op := Op.load 109 (Operand.tmp 215), type := 109, pos := "ref.go:58", after := #[{ on := 17, ground := Ground.data }], guard := none }) (v := ?_) rfl (by kernel_rfl) (by kernel_rfl) (by kernel_rfl) (fun _ _ _ h => h) (Or.inl ⟨by kernel_rfl, ?_⟩) (by assumption) ?_
              rotate_left
              · intro w hSw
                (try dsimp only at hSw)
                go_simp
                all_goals (with_reducible rfl)
              (try simp only [Act.put, List.setIfInBounds_toArray, List.set_cons_zero, List.set_cons_succ])
              refine wpAnyH_take (i := 19) (oi := { dst := some 217, op := Op.move (Operand.tmp 11), type := 110, pos := "ref.go:58", after := #[], guard := none }) (v := ?_) rfl (by kernel_rfl) (by kernel_rfl) (by kernel_rfl) (fun _ _ _ h => h) (Or.inl ⟨by kernel_rfl, ?_⟩) (by assumption) ?_
              rotate_left
              · intro w hSw
                (try dsimp only at hSw)
                go_simp
                all_goals (with_reducible rfl)
              (try simp only [Act.put, List.setIfInBounds_toArray, List.set_cons_zero, List.set_cons_succ])
              refine wpAnyH_take (i := 20) (oi := { dst := some 218, op := Op.indexAddr 110 (Operand.tmp 217) (Operand.const (Value.int IntKind.i64 6)), type := 0, pos := "ref.go:58", after := #[{ on := 19, ground := Ground.data }], guard := none }) (v := ?_) rfl (by kernel_rfl) (by kernel_rfl) (by kernel_rfl) (fun _ _ _ h => h) (Or.inl ⟨by kernel_rfl, ?_⟩) (by assumption) ?_
              rotate_left
              · intro w hSw
                (try dsimp only at hSw)
                go_simp
                all_goals (with_reducible rfl)
              (try simp only [Act.put, List.setIfInBounds_toArray, List.set_cons_zero, List.set_cons_succ])
              refine wpAnyH_take (i := 21) (oi := { dst := some 219, op := Op.load 109 (Operand.tmp 218), type := 109, pos := "ref.go:58", after := #[{ on := 20, ground := Ground.data }], guard := none }) (v := ?_) rfl (by kernel_rfl) (by kernel_rfl) (by kernel_rfl) (fun _ _ _ h => h) (Or.inl ⟨by kernel_rfl, ?_⟩) (by assumption) ?_
              rotate_left
              · intro w hSw
                (try dsimp only at hSw)
                go_simp
                all_goals (with_reducible rfl)
              (try simp only [Act.put, List.setIfInBounds_toArray, List.set_cons_zero, List.set_cons_succ])
              refine wpAnyH_one1 (i := 22) (o := { dst := some 220, op := Op.buildSlice 110 8 #[(0, Operand.tmp 200), (1, Operand.tmp 201), (2, Operand.tmp 204), (3, Operand.tmp 207), (4, Operand.tmp 212), (5, Operand.tmp 213), (6, Operand.tmp 216), (7, Operand.tmp 219)], type := 110, pos := "ref.go:58", after := #[{ on := 2, ground := Ground.data }, { on := 3, ground := Ground.data }, { on := 6, ground := Ground.data }, { on := 9, ground := Ground.data }, { on := 14, ground := Ground.data }, { on := 15, ground := Ground.data }, { on := 18, ground := Ground.data }, { on := 21, ground := Ground.data }], guard := none }) (by kernel_rfl) rfl (fun K hK => ?_)
              go_simp
              refine hK.out _ _ ?_ (fun hHeld2 => ?_)
              · exact ⟨hHeld.1.alloc (by simp) _, HC.out _ (hHeld.1.alloc (by simp) _)⟩
              clear hHeld
              have hHeld := hHeld2
              clear hHeld2
              clear hK K
              (try simp only [Act.put, List.setIfInBounds_toArray, List.set_cons_zero, List.set_cons_succ])
              refine wpAnyH_take (i := 23) (oi := { dst := some 11, op := Op.assign (Operand.tmp 220), type := 110, pos := "ref.go:58", after := #[{ on := 22, ground := Ground.data }, { on := 0, ground := Ground.phase }, { on := 1, ground := Ground.phase }, { on := 2, ground := Ground.phase }, { on := 3, ground := Ground.phase }, { on := 4, ground := Ground.phase }, { on := 5, ground := Ground.phase }, { on := 6, ground := Ground.phase }, { on := 7, ground := Ground.phase }, { on := 8, ground := Ground.phase }, { on := 9, ground := Ground.phase }, { on := 10, ground := Ground.phase }, { on := 11, ground := Ground.phase }, { on := 12, ground := Ground.phase }, { on := 13, ground := Ground.phase }, { on := 14, ground := Ground.phase }, { on := 15, ground := Ground.phase }, { on := 16, ground := Ground.phase }, { on := 17, ground := Ground.phase }, { on := 18, ground := Ground.phase }, { on := 19, ground := Ground.phase }, { on := 20, ground := Ground.phase }, { on := 21, ground := Ground.phase }, { on := 22, ground := Ground.phase }], guard := none }) (v := ?_) rfl (by kernel_rfl) (by kernel_rfl) (by kernel_rfl) (fun _ _ _ h => h) (Or.inl ⟨by kernel_rfl, ?_⟩) (by assumption) ?_
              rotate_left
              · intro w hSw
                (try dsimp only at hSw)
                go_simp
                all_goals (with_reducible rfl)
              (try simp only [Act.put, List.setIfInBounds_toArray, List.set_cons_zero, List.set_cons_succ])
              refine wpAnyH_done (by kernel_rfl) ?_ _
              refine NoPanic.normal ?_
              have n22 := hHeld.1
              clear hHeld HC
              have hst : rndV k x v = ⟨addU tv uv, v.a, v.b, v.c, addU v.d tv, v.e, v.f, v.g⟩ := by rw [← HTV.out, ← HUV.out]; rfl
              have HNV := Lib.hid (show W8At (W21.alloc (.cells #[.int .u32 (IntKind.u32.wrap (tv + uv)), .int .u32 v.a, .int .u32 v.b, .int .u32 v.c, .int .u32 (IntKind.u32.wrap (v.d + tv)), .int .u32 v.e, .int .u32 v.f, .int .u32 v.g] 109)).drew (.slice (some ⟨W21.heap.size, 0, none⟩) 8 8) (runV ws h (i + 1)) from by rw [HRV.out, hst]; exact (W8At.new W21 ⟨addU tv uv, v.a, v.b, v.c, addU v.d tv, v.e, v.f, v.g⟩).below (Below.refl _ _).drew)
              have HBN := Lib.hid (HHB.out.trans ((N21.out.trans (n22.mono N21.out.size)).mono HHB.out.size))
              clear n22 N21 HCA hst
              generalize (W21.alloc (.cells #[.int .u32 (IntKind.u32.wrap (tv + uv)), .int .u32 v.a, .int .u32 v.b, .int .u32 v.c, .int .u32 (IntKind.u32.wrap (v.d + tv)), .int .u32 v.e, .int .u32 v.f, .int .u32 v.g] 109)).drew = WN at HNV HBN ⊢
              go_wp2
              go_roundw
              case rel => exact ⟨i + 1, by omega, by go_num, HNV.out, HBN.out⟩
              case measure => simp [intOf]; omega
            · have he : i = 64 := by omega
              have d1 : decide ((i : Int) < 64) = false := decide_eq_false (by omega)
              have d1b : decide (i < 64) = false := decide_eq_false (by omega)
              rw [he] at hv
              have HBR := Lib.hid (HB8.out.trans (hB.mono HB8.out.size))
              obtain ⟨v, hve⟩ : ∃ v, runV ws h 64 = v := ⟨_, rfl⟩
              rw [hve] at hv HADD
              obtain ⟨b, cap, rfl, hcap, hcm2, hcv⟩ := hv
              unfold maxLen at hcm2
              have HCV := Lib.hid hcv
              clear hcv hve hB he
              obtain ⟨w9, hren⟩ : ∃ z, z = wr := ⟨_, rfl⟩
              subst hren
              go_wp2
              go_loopw [17, 18] (fun u17 u18 wr => ∃ j : Nat, j ≤ 8 ∧ u18 = .int .i64 (j : Int) ∧ OwnW wr w9.heap.size u17 ((listV (sumV h v)).take j) ∧ Below w9.heap.size w9 wr) (fun _ u18 _ => (8 - intOf u18).toNat)
              case atStart => exact ⟨0, by omega, rfl, World.ownsRow_nil _ _ _ _, Below.refl _ _⟩
              case round =>
                obtain ⟨j, hj, rfl, ho, hB⟩ := hrel
                by_cases hj8 : j < 8
                · have e1 : decide ((j : Int) < 8) = true := decide_eq_true (by omega)
                  have jj : (0 : Int) ≤ (j : Int) ∧ (j : Int) < 8 := by omega
                  have ph := HHC.out j _ (getD_some (0 : Int) (show j < (listV h).length from hj8))
                  have pv := HCV.out j _ (getD_some (0 : Int) (show j < (listV v).length from hj8))
                  have HT := Lib.hid (show (listV (sumV h v)).take (j + 1) = (listV (sumV h v)).take j ++ [addU ((listV h).getD j 0) ((listV v).getD j 0)] from by
                    match j, hj8 with
                    | 0, _ => rfl
                    | 1, _ => rfl
                    | 2, _ => rfl
                    | 3, _ => rfl
                    | 4, _ => rfl
                    | 5, _ => rfl
                    | 6, _ => rfl
                    | 7, _ => rfl)
                  have hlt : ((listV (sumV h v)).take j).length = j := by rw [List.length_take]; show min j 8 = j; omega
                  generalize (listV h).getD j 0 = y0 at ph HT
                  generalize (listV v).getD j 0 = y1 at pv HT
                  have hlb := World.block_lt_of_cell? _ _ pv
                  have HC := Lib.hid (fun W (hW : Below w9.heap.size w9 W) => And.intro (((HBR.out.trans (hW.mono HBR.out.size)).cell (p := ⟨bh, oh + j, none⟩) (World.block_lt_of_cell? _ _ ph)).trans ph) ((hW.cell (p := ⟨b, j, none⟩) hlb).trans pv))
                  have ho' := ho
                  unfold OwnW at ho'
                  rw [hlt] at ho'
                  have HO2 := Lib.hid (World.ownsRow.drew ho')
                  have HLT := Lib.hid hlt
                  clear ho ho' ph pv hlt
                  go_upto_region 27 with (fail)
                  refine wp_region_noPanic ?_
                  refine wp_region_held_drew (S := (fun w' => Below w9.heap.size w9 w' ∧ w'.cell? ⟨bh, oh + j, none⟩ = some (.int .u32 y0) ∧ w'.cell? ⟨b, j, none⟩ = some (.int .u32 y1))) (by kernel_rfl) ⟨hB.drew, HC.out _ hB.drew⟩ (fun hHeld => ?_)
                  refine wpAnyH_take (i := 0) (oi := { dst := some 225, op := Op.move (Operand.tmp 17), type := 110, pos := "ref.go:62", after := #[], guard := none }) (v := ?_) rfl (by kernel_rfl) (by kernel_rfl) (by kernel_rfl) (fun _ _ _ h => h) (Or.inl ⟨by kernel_rfl, ?_⟩) (by assumption) ?_
                  rotate_left
                  · intro w hSw
                    (try dsimp only at hSw)
                    go_simp
                    all_goals (with_reducible rfl)
                  (try simp only [Act.put, List.setIfInBounds_toArray, List.set_cons_zero, List.set_cons_succ])
                  refine wpAnyH_take (i := 1) (oi := { dst := some 226, op := Op.move (Operand.tmp 0), type := 110, pos := "ref.go:62", after := #[], guard := none }) (v := ?_) rfl (by kernel_rfl) (by kernel_rfl) (by kernel_rfl) (fun _ _ _ h => h) (Or.inl ⟨by kernel_rfl, ?_⟩) (by assumption) ?_
                  rotate_left
                  · intro w hSw
                    (try dsimp only at hSw)
                    go_simp
                    all_goals (with_reducible rfl)
                  (try simp only [Act.put, List.setIfInBounds_toArray, List.set_cons_zero, List.set_cons_succ])
                  refine wpAnyH_take (i := 2) (oi := { dst := some 227, op := Op.move (Operand.tmp 18), type := 3, pos := "ref.go:62", after := #[], guard := none }) (v := ?_) rfl (by kernel_rfl) (by kernel_rfl) (by kernel_rfl) (fun _ _ _ h => h) (Or.inl ⟨by kernel_rfl, ?_⟩) (by assumption) ?_
                  rotate_left
                  · intro w hSw
                    (try dsimp only at hSw)
                    go_simp
                    all_goals (with_reducible rfl)
                  (try simp only [Act.put, List.setIfInBounds_toArray, List.set_cons_zero, List.set_cons_succ])
                  refine wpAnyH_take (i := 3) (oi := { dst := some 228, op := Op.indexAddr 110 (Operand.tmp 226) (Operand.tmp 227), type := 0, pos := "ref.go:62", after := #[{ on := 1, ground := Ground.data }, { on := 2, ground := Ground.data }], guard := none }) (v := ?_) rfl (by kernel_rfl) (by kernel_rfl) (by kernel_rfl) (fun _ _ _ h => h) (Or.inl ⟨by kernel_rfl, ?_⟩) (by assumption) ?_
                  rotate_left
                  · intro w hSw
                    (try dsimp only at hSw)
                    go_simp
                    all_goals (with_reducible rfl)
                  (try simp only [Act.put, List.setIfInBounds_toArray, List.set_cons_zero, List.set_cons_succ])
                  refine wpAnyH_take (i := 4) (oi := { dst := some 229, op := Op.load 109 (Operand.tmp 228), type := 109, pos := "ref.go:62", after := #[{ on := 3, ground := Ground.data }], guard := none }) (v := ?_) rfl (by kernel_rfl) (by kernel_rfl) (by kernel_rfl) (fun _ _ _ h => h) (Or.inl ⟨by kernel_rfl, ?_⟩) (by assumption) ?_
                  rotate_left
                  · intro w hSw
                    (try dsimp only at hSw)
                    go_simp
                    all_goals (with_reducible rfl)
                  (try simp only [Act.put, List.setIfInBounds_toArray, List.set_cons_zero, List.set_cons_succ])
                  refine wpAnyH_take (i := 5) (oi := { dst := some 230, op := Op.move (Operand.tmp 11), type := 110, pos := "ref.go:62", after := #[], guard := none }) (v := ?_) rfl (by kernel_rfl) (by kernel_rfl) (by kernel_rfl) (fun _ _ _ h => h) (Or.inl ⟨by kernel_rfl, ?_⟩) (by assumption) ?_
                  rotate_left
                  · intro w hSw
                    (try dsimp only at hSw)
                    go_simp
                    all_goals (with_reducible rfl)
                  (try simp only [Act.put, List.setIfInBounds_toArray, List.set_cons_zero, List.set_cons_succ])
                  refine wpAnyH_take (i := 6) (oi := { dst := some 231, op := Op.move (Operand.tmp 18), type := 3, pos := "ref.go:62", after := #[], guard := none }) (v := ?_) rfl (by kernel_rfl) (by kernel_rfl) (by kernel_rfl) (fun _ _ _ h => h) (Or.inl ⟨by kernel_rfl, ?_⟩) (by assumption) ?_
                  rotate_left
                  · intro w hSw
                    (try dsimp only at hSw)
                    go_simp
                    all_goals (with_reducible rfl)
                  (try simp only [Act.put, List.setIfInBounds_toArray, List.set_cons_zero, List.set_cons_succ])
                  refine wpAnyH_take (i := 7) (oi := { dst := some 232, op := Op.indexAddr 110 (Operand.tmp 230) (Operand.tmp 231), type := 0, pos := "ref.go:62", after := #[{ on := 5, ground := Ground.data }, { on := 6, ground := Ground.data }], guard := none }) (v := ?_) rfl (by kernel_rfl) (by kernel_rfl) (by kernel_rfl) (fun _ _ _ h => h) (Or.inl ⟨by kernel_rfl, ?_⟩) (by assumption) ?_
                  rotate_left
                  · intro w hSw
                    (try dsimp only at hSw)
                    go_simp
                    all_goals (with_reducible rfl)
                  (try simp only [Act.put, List.setIfInBounds_toArray, List.set_cons_zero, List.set_cons_succ])
                  refine wpAnyH_take (i := 8) (oi := { dst := some 233, op := Op.load 109 (Operand.tmp 232), type := 109, pos := "ref.go:62", after := #[{ on := 7, ground := Ground.data }], guard := none }) (v := ?_) rfl (by kernel_rfl) (by kernel_rfl) (by kernel_rfl) (fun _ _ _ h => h) (Or.inl ⟨by kernel_rfl, ?_⟩) (by assumption) ?_
                  rotate_left
                  · intro w hSw
                    (try dsimp only at hSw)
                    go_simp
                    all_goals (with_reducible rfl)
                  (try simp only [Act.put, List.setIfInBounds_toArray, List.set_cons_zero, List.set_cons_succ])
                  refine wpAnyH_take (i := 9) (oi := { dst := some 234, op := Op.binOp BinOp.add 109 (Operand.tmp 229) (Operand.tmp 233) 109, type := 109, pos := "ref.go:62", after := #[{ on := 4, ground := Ground.data }, { on := 8, ground := Ground.data }], guard := none }) (v := ?_) rfl (by kernel_rfl) (by kernel_rfl) (by kernel_rfl) (fun _ _ _ h => h) (Or.inl ⟨by kernel_rfl, ?_⟩) (by assumption) ?_
                  rotate_left
                  · intro w hSw
                    (try dsimp only at hSw)
                    go_simp
                    all_goals (with_reducible rfl)
                  (try simp only [Act.put, List.setIfInBounds_toArray, List.set_cons_zero, List.set_cons_succ])
                  refine wpAnyH_one1 (i := 10) (o := { dst := some 235, op := Op.buildSlice 110 1 #[(0, Operand.tmp 234)], type := 110, pos := "ref.go:62", after := #[{ on := 9, ground := Ground.data }], guard := none }) (by kernel_rfl) rfl (fun K hK => ?_)
                  go_simp
                  refine hK.out _ _ ?_ (fun hHeld2 => ?_)
                  · exact ⟨hHeld.1.alloc hB.size _, HC.out _ (hHeld.1.alloc hB.size _)⟩
                  clear hHeld
                  have hHeld := hHeld2
                  clear hHeld2
                  clear hK K
                  (try simp only [Act.put, List.setIfInBounds_toArray, List.set_cons_zero, List.set_cons_succ])
                  refine wpAnyH_one1 (i := 11) (o := { dst := some 236, op := Op.call { callee := Callee.builtin Builtin.append, args := #[Operand.tmp 225, Operand.tmp 235], argTypes := #[110, 110] }, type := 110, pos := "ref.go:62", after := #[{ on := 0, ground := Ground.data }, { on := 10, ground := Ground.data }], guard := none }) (by kernel_rfl) rfl (fun K hK => ?_)
                  refine step_pushL E110 rfl (.tmp 225) (.tmp 235) rfl w9.heap.size HO2.out rfl rfl rfl (by intro u hu; simp at hu; rw [hu]; rfl) (by unfold maxLen; omega) (by omega) (Nat.le_trans hB.size (by simp)) (fun v' wq n1 n2 => ?_)
                  refine hK.out _ _ ?_ (fun hHeld2 => ?_)
                  · exact ⟨hB.trans ((Below.refl w9.heap.size wr).drew.trans n2), HC.out _ (hB.trans ((Below.refl w9.heap.size wr).drew.trans n2))⟩
                  clear hHeld
                  have hHeld := hHeld2
                  clear hHeld2
                  clear hK K
                  (try simp only [Act.put, List.setIfInBounds_toArray, List.set_cons_zero, List.set_cons_succ])
                  refine wpAnyH_take (i := 12) (oi := { dst := some 17, op := Op.assign (Operand.tmp 236), type := 110, pos := "ref.go:62", after := #[{ on := 11, ground := Ground.data }, { on := 11, ground := Ground.chain }, { on := 0, ground := Ground.phase }, { on := 1, ground := Ground.phase }, { on := 2, ground := Ground.phase }, { on := 3, ground := Ground.phase }, { on := 4, ground := Ground.phase }, { on := 5, ground := Ground.phase }, { on := 6, ground := Ground.phase }, { on := 7, ground := Ground.phase }, { on := 8, ground := Ground.phase }, { on := 9, ground := Ground.phase }, { on := 10, ground := Ground.phase }, { on := 11, ground := Ground.phase }], guard := none }) (v := ?_) rfl (by kernel_rfl) (by kernel_rfl) (by kernel_rfl) (fun _ _ _ h => h) (Or.inl ⟨by kernel_rfl, ?_⟩) (by assumption) ?_
                  rotate_left
                  · intro w hSw
                    (try dsimp only at hSw)
                    go_simp
                    all_goals (with_reducible rfl)
                  (try simp only [Act.put, List.setIfInBounds_toArray, List.set_cons_zero, List.set_cons_succ])
                  refine wpAnyH_done (by kernel_rfl) ?_ _
                  refine NoPanic.normal ?_
                  have n4 := hB.trans ((Below.refl w9.heap.size wr).drew.trans n2)
                  have HN := Lib.hid (show OwnW wq w9.heap.size v' ((listV (sumV h v)).take (j + 1)) from by
                    rw [HT.out]
                    have n5 : wq.ownsRow w9.heap.size 109 1 v' (((listV (sumV h v)).take j).length + 1) (((listV (sumV h v)).take j).map (Value.int .u32) ++ [.int .u32 (addU y0 y1)]) := by rw [HLT.out]; exact n1
                    exact OwnW.snoc n5)
                  have HB := Lib.hid n4
                  clear n1 n2 n4 hHeld HO2 HC
                  generalize hX : IntKind.u32.wrap _ = X
                  clear hX
                  go_wp2
                  go_roundw
                  case rel => exact ⟨j + 1, by omega, by go_num, HN.out, HB.out⟩
                  case measure => simp [intOf]; omega
                · have he : j = 8 := by omega
                  have e1 : decide ((j : Int) < 8) = false := decide_eq_false (by omega)
                  have e1b : decide (j < 8) = false := decide_eq_false (by omega)
                  rw [he] at ho
                  have HO := Lib.hid (show OwnW wr w9.heap.size u17 (listV (addB h l)) from by rw [HADD.out]; exact ho)
                  have HB := Lib.hid hB
                  clear ho hB he
                  go_wp2
                  go_ret
                  exact ⟨_, rfl, ownsRow_base HO.out HBR.out.size, HBR.out.trans (HB.out.mono HBR.out.size)⟩
end Go.Proofs.YtnckpnbecmmcpaaGreatDoor

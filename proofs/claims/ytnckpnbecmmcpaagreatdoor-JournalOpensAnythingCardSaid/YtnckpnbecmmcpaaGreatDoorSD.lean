/- package digest: Chain. -/
import Derived.Test.YtnckpnbecmmcpaaGreatDoorSC
import Derived.Test.YtnckpnbecmmcpaaGreatDoorSh
namespace Go.Proofs.YtnckpnbecmmcpaaGreatDoor
open Go.RowKit
open W01 (str_ext)
theorem join_two (h r : ByteArray) : (⟨(Lib.join ([h, r].map (·.data.toList)) (⟨#[]⟩ : ByteArray).data.toList).toArray⟩ : ByteArray) = h ++ r := by
  apply str_ext
  simp [Lib.join]
theorem join111 (v : Value) (h r : ByteArray) (w : World) (hv : StrsAt w v [h, r]) (hh : h.size ≤ 100000) (hr : r.size ≤ 100000) : Calls Tryz.prog 111 #[v, .string ⟨#[]⟩] w fun e w' => e = .returned (.string (h ++ r)) ∧ Below w.heap.size w w' := by
  obtain ⟨a, c, rfl, h1, h2, h3⟩ := hv
  obtain ⟨bk, o, rfl, h4⟩ := h3 (by simp)
  have hlt := World.block_lt_of_cell? _ _ (h4 0 h rfl)
  have := Tryz.strings_Join bk o c [h, r] ⟨#[]⟩ w (fun j x hj => h4 j x hj) hlt (by simp) h1 (by
    have hj := join_two h r
    have hl := congrArg ByteArray.size hj
    rw [ByteArray.size_append] at hl
    have : (Lib.join ([h, r].map (·.data.toList)) (⟨#[]⟩ : ByteArray).data.toList).length = h.size + r.size := by
      rw [← hl]; simp [ByteArray.size]
    rw [this]; omega)
  rw [join_two] at this
  exact this
attribute [local irreducible] wpStill
set_option maxRecDepth 100000 in
set_option maxHeartbeats 4000000 in
theorem marked109 (q : Nat) (mk h r : ByteArray) (v : Value) (w : World) (hq : w.cell? ⟨q, 0, none⟩ = some (.string mk)) (hv : StrsAt w v [h, r]) (hm : mk.size ≤ 10) (hh : h.size = 32) (hr : r.size ≤ 65536) (hT : RoundT w) :
    Calls Tryz.prog 109 #[v, .pointer (some ⟨q, 0, none⟩)] w fun e w' => e = .returned (.string (sumS (mk ++ (h ++ r)))) ∧ Below w.heap.size w w' := by
  have hsz : (h ++ r).size = h.size + r.size := ByteArray.size_append
  have hsz2 : (mk ++ (h ++ r)).size ≤ 100000 := by rw [ByteArray.size_append, hsz]; omega
  have c1 : ¬ 9223372036854775807 < mk.size + (h ++ r).size := by omega
  have HJ := Lib.hid (fun W (hW : Below w.heap.size w W) => join111 v h r W (SliceOf.below hv hW) (by omega) (by omega))
  have HS := Lib.hid (fun W (hW : Below w.heap.size w W) => sum110 (mk ++ (h ++ r)) W hsz2 (hT.below hT.1 hW))
  have HC := Lib.hid (fun W (hW : Below w.heap.size w W) => (hW.cell (p := ⟨q, 0, none⟩) (World.block_lt_of_cell? _ _ hq)).trans hq)
  obtain ⟨a, c, rfl, -⟩ := hv
  clear hsz hsz2 hm hh hr hT
  generalize h ++ r = hr at HJ HS c1 ⊢
  go_enter Tryz.func109, Tryz.ntmps109
  go_upto_region 1 with (fail)
  refine wp_region_noPanic ?_
  refine wp_region_held_drew (S := (fun w' => Below w.heap.size w w' ∧ w'.cell? ⟨q, 0, none⟩ = some (.string mk))) (by kernel_rfl) ⟨(Below.refl _ _).drew, hq⟩ (fun hHeld => ?_)
  refine wpAnyH_take (i := 0) (oi := { dst := some 4, op := Op.load 9 (Operand.tmp 1), type := 9, pos := "digest.go:103", after := #[], guard := none }) (v := ?_) rfl (by kernel_rfl) (by kernel_rfl) (by kernel_rfl) (fun _ _ _ h => h) (Or.inl ⟨by kernel_rfl, ?_⟩) (by assumption) ?_
  rotate_left
  · intro w hSw
    (try dsimp only at hSw)
    go_simp
    all_goals (with_reducible rfl)
  (try simp only [Act.put, List.setIfInBounds_toArray, List.set_cons_zero, List.set_cons_succ])
  refine wpAnyH_take (i := 1) (oi := { dst := some 5, op := Op.move (Operand.tmp 0), type := 22, pos := "digest.go:103", after := #[], guard := none }) (v := ?_) rfl (by kernel_rfl) (by kernel_rfl) (by kernel_rfl) (fun _ _ _ h => h) (Or.inl ⟨by kernel_rfl, ?_⟩) (by assumption) ?_
  rotate_left
  · intro w hSw
    (try dsimp only at hSw)
    go_simp
    all_goals (with_reducible rfl)
  (try simp only [Act.put, List.setIfInBounds_toArray, List.set_cons_zero, List.set_cons_succ])
  refine wpAnyH_one1 (i := 2) (o := { dst := some 6, op := Op.call { callee := Callee.value (Operand.func 111), args := #[Operand.tmp 5, Operand.const (Value.string { data := #[] })], argTypes := #[22, 9] }, type := 9, pos := "digest.go:103", after := #[{ on := 1, ground := Ground.data }], guard := none }) (by kernel_rfl) rfl (fun K hK => ?_)
  go_simp
  go_at_call 111
  refine (HJ.out w.drew (Below.refl _ _).drew).mono ?_
  rintro e q1 ⟨rfl, b1⟩
  refine hK.out _ _ ?_ (fun hHeld2 => ?_)
  · exact ⟨(Below.refl _ _).drew.trans b1, HC.out _ ((Below.refl _ _).drew.trans b1)⟩
  clear hHeld
  have hHeld := hHeld2
  clear hHeld2
  clear hK K
  (try simp only [Act.put, List.setIfInBounds_toArray, List.set_cons_zero, List.set_cons_succ])
  refine wpAnyH_take (i := 3) (oi := { dst := some 7, op := Op.binOp BinOp.add 9 (Operand.tmp 4) (Operand.tmp 6) 9, type := 9, pos := "digest.go:103", after := #[{ on := 0, ground := Ground.data }, { on := 2, ground := Ground.data }], guard := none }) (v := ?_) rfl (by kernel_rfl) (by kernel_rfl) (by kernel_rfl) (fun _ _ _ h => h) (Or.inl ⟨by kernel_rfl, ?_⟩) (by assumption) ?_
  rotate_left
  · intro w hSw
    (try dsimp only at hSw)
    go_simp
    all_goals (with_reducible rfl)
  (try simp only [Act.put, List.setIfInBounds_toArray, List.set_cons_zero, List.set_cons_succ])
  refine wpAnyH_one1 (i := 4) (o := { dst := some 8, op := Op.call { callee := Callee.value (Operand.func 110), args := #[Operand.tmp 7], argTypes := #[9] }, type := 9, pos := "digest.go:103", after := #[{ on := 3, ground := Ground.data }, { on := 2, ground := Ground.chain }], guard := none }) (by kernel_rfl) rfl (fun K hK => ?_)
  go_simp
  go_at_call 110
  refine (HS.out q1 hHeld.1).mono ?_
  rintro e q2 ⟨rfl, b2⟩
  refine hK.out _ _ ?_ (fun hHeld2 => ?_)
  · exact ⟨((Below.refl w.heap.size w).drew.trans b1).trans (b2.mono b1.size), HC.out _ (((Below.refl w.heap.size w).drew.trans b1).trans (b2.mono b1.size))⟩
  clear hHeld
  have hHeld := hHeld2
  clear hHeld2
  clear hK K
  (try simp only [Act.put, List.setIfInBounds_toArray, List.set_cons_zero, List.set_cons_succ])
  refine wpAnyH_take (i := 5) (oi := { dst := some 3, op := Op.assign (Operand.tmp 8), type := 9, pos := "digest.go:103", after := #[{ on := 4, ground := Ground.data }, { on := 4, ground := Ground.chain }, { on := 0, ground := Ground.phase }, { on := 1, ground := Ground.phase }, { on := 2, ground := Ground.phase }, { on := 3, ground := Ground.phase }, { on := 4, ground := Ground.phase }], guard := none }) (v := ?_) rfl (by kernel_rfl) (by kernel_rfl) (by kernel_rfl) (fun _ _ _ h => h) (Or.inl ⟨by kernel_rfl, ?_⟩) (by assumption) ?_
  rotate_left
  · intro w hSw
    (try dsimp only at hSw)
    go_simp
    all_goals (with_reducible rfl)
  (try simp only [Act.put, List.setIfInBounds_toArray, List.set_cons_zero, List.set_cons_succ])
  refine wpAnyH_done (by kernel_rfl) ?_ _
  refine NoPanic.normal ?_
  clear hHeld
  go_wp2
  go_ret
  exact ⟨rfl, ((Below.refl w.heap.size w).drew.trans b1).trans (b2.mono b1.size)⟩
set_option maxRecDepth 100000 in
set_option maxHeartbeats 4000000 in
theorem chain70 (h r : ByteArray) (w : World) (hh : h.size = 32) (hr : r.size ≤ 65536) (hT : RoundT w) : Calls Tryz.prog 70 #[.string h, .string r] w fun e w' => e = .returned (.string (chainS h r)) ∧ Below w.heap.size w w' := by
  have HH := Lib.hid (And.intro hh hr)
  have HT := Lib.hid hT
  have HE := Lib.hid (show sumS (m2 ++ (h ++ r)) = chainS h r by unfold chainS; rw [append_assoc])
  clear hh hr hT
  have hm2 : (⟨#[2]⟩ : ByteArray) = m2 := rfl
  go_enter Tryz.func70, Tryz.ntmps70
  rw [hm2]
  have hb2 : Below w.heap.size w ((w.alloc (.cells #[.string m2] 9)).alloc (.cells #[.string h, .string r] 9)) := ((Below.refl _ _).alloc (Nat.le_refl _) _).alloc (by simp) _
  have hq : ((w.alloc (.cells #[.string m2] 9)).alloc (.cells #[.string h, .string r] 9)).cell? ⟨w.heap.size, 0, none⟩ = some (.string m2) := ((Blk.new w #[.string m2] 9).alloc _).cell 0
  have hv : StrsAt ((w.alloc (.cells #[.string m2] 9)).alloc (.cells #[.string h, .string r] 9)) (.slice (some ⟨w.heap.size + 1, 0, none⟩) 2 2) [h, r] := by
    refine ⟨_, _, rfl, by simp, by unfold maxLen; decide, fun _ => ⟨w.heap.size + 1, 0, rfl, fun j y hj => ?_⟩⟩
    have hb := Blk.newAt (w.alloc (.cells #[.string m2] 9)) #[.string h, .string r] 9 (n := w.heap.size + 1) (by simp)
    rw [Nat.zero_add, hb.cell]
    match j, hj with
    | 0, hj => cases hj; rfl
    | 1, hj => cases hj; rfl
  have HM := Lib.hid (marked109 w.heap.size m2 h r _ _ hq hv (by decide) HH.out.1 HH.out.2 (HT.out.below HT.out.1 hb2))
  have HB := Lib.hid hb2
  clear hq hv hb2
  go_wp2_with (first | (go_at_call 109; refine HM.out.mono ?_; rintro e w9 ⟨rfl, hb9⟩) | go_in)
  go_ret
  refine ⟨by rw [HE.out]; rfl, HB.out.trans (hb9.mono HB.out.size)⟩
end Go.Proofs.YtnckpnbecmmcpaaGreatDoor

/- nadirlaw34.JournalOpensAnything: the walk. -/
import Derived.Test.YtnckpnbecmmcpaaGreatDoorWD
import Derived.Test.YtnckpnbecmmcpaaGreatDoorJL
namespace Go.Proofs.YtnckpnbecmmcpaaGreatDoor
open Go.RowKit Go.Shelf Lib
theorem conv_vis {w : World} {base g n c : Nat} {b : List UInt8} (hg : w.ownsRow base 5 1 (.slice (some ⟨g, 0, none⟩) n c) n (bcs b)) : (convert 39 9 (.slice (some ⟨g, 0, none⟩) n c)).run Tryz.prog w = .ok (.string (strOf b)) w := by
  have hbl : b.length = n := by have := hg.1; rw [bcs_len] at this; omega
  rw [conv_row hg (o := 0) (k := n) (c := c) (by omega) ⟨g, 0, none⟩ (fun _ => rfl) ⟨_, _, rfl⟩]
  unfold subS strOf
  rw [List.drop_zero, List.take_of_length_le (by omega)]
theorem u8_of' {x : Int} (h : (Lit.int .u8 x).wf = true) : ∃ b : UInt8, x = (b.toNat : Int) := by
  have h2 : 0 ≤ x ∧ x < 256 := by
    simp [Lit.wf, IntKind.min, IntKind.max, IntKind.signed, IntKind.bits] at h
    omega
  refine ⟨UInt8.ofNat x.toNat, ?_⟩
  rw [UInt8.toNat_ofNat']
  have : x.toNat % 2 ^ 8 = x.toNat := Nat.mod_eq_of_lt (by omega)
  rw [this]; omega
/-- A disk with power, of which none is to be lost. -/
def OnZ (D : DiskD) : Prop := D.off = false ∧ D.left = 0
theorem OnZ.write {D : DiskD} (h : OnZ D) (o : Int) (s : ByteArray) : OnZ (writeD D o s) := by
  unfold writeD
  split
  · unfold usedD
    rw [if_pos h.2]
    exact h
  · exact h
theorem OnZ.sync {D : DiskD} (h : OnZ D) : OnZ (syncD D) := by
  unfold syncD
  split
  · exact h
  · exact h
theorem OnZ.seq : ∀ (fs : List DoD) (D : DiskD), (∀ f ∈ fs, ∀ E : DiskD, OnZ E → OnZ (f E).2) → OnZ D → OnZ (seqD fs D).2
  | [], _, _, h => h
  | f :: fs, D, hf, h => by
    have h0 := hf f (by simp) D h
    unfold seqD
    split
    · exact OnZ.seq fs _ (fun g hg => hf g (by simp [hg])) h0
    · exact h0
theorem OnZ.app {D : DiskD} (h : OnZ D) (n : Nat) (J : JouD) (l : List ByteArray) : OnZ (appD n J D l) := by
  unfold appD
  split
  · exact h
  split
  · exact h
  split
  · exact h
  refine OnZ.seq _ _ (fun f hf E hE => ?_) h
  unfold app4 at hf
  simp only [List.mem_cons, List.mem_nil_iff, or_false] at hf
  rcases hf with rfl | rfl | rfl | rfl
  · exact hE.write _ _
  · exact hE.sync
  · exact hE.write _ _
  · exact hE.sync
theorem OnZ.open {D : DiskD} (h : OnZ D) (n : Nat) : OnZ (openD n D) := by
  unfold openD
  split
  · exact h
  split
  · exact h
  split
  · exact h
  refine OnZ.seq _ _ (fun f hf E hE => ?_) h
  unfold trim2 at hf
  simp only [List.mem_cons, List.mem_nil_iff, or_false] at hf
  rcases hf with rfl | rfl
  · exact hE.write _ _
  · exact hE.sync
theorem wp_suchW {P : Program} {c : Code} {Q : Exit → Act → World → Prop} {a fr : Act} {w : World} (S : World → Prop) (h : c.wp P (fun e a' w' => e = .normal ∧ a' = fr ∧ S w') a w) (k : ∀ w', S w' → Q .normal fr w') : c.wp P Q a w :=
  Code.wp_mono (fun e a' w' hh => by obtain ⟨rfl, rfl, hb⟩ := hh; exact k w' hb) h
attribute [local irreducible] wpStill
set_option maxRecDepth 100000 in
set_option maxHeartbeats 16000000 in
theorem law_opens (c at_ : Int) (s : ByteArray) (kb : UInt8) (vl : Value) (l : List ByteArray) (w : World) (hE : EnvJ w) (hc : InR c) (hat : InR at_) (hl : StrsAt w vl l) (hz : ∀ t ∈ l, t.size ≤ 9223372036854775807) (hs : s.size ≤ maxLen) :
    Calls Tryz.prog 3 #[.int .i64 c, .string s, vl, .int .i64 at_, .int .u8 (kb.toNat : Int)] w fun e w' => e = .returned (.bool true) ∧ Below w.heap.size w w' := by
  have h3 : 3 < w.heap.size := hE.1.1
  have HE := Lib.hid (fun V (hb : Below w.heap.size w V) => hE.below h3 hb)
  have hsane := Lib.hid (sane8 w hE)
  have HBG := Lib.hid (fun V (h : EnvJ V) => begin9 c V h hc)
  have HSZ := Lib.hid (fun V => size15 c V hc)
  obtain ⟨hN1, hN2⟩ := sizeN_bd c
  generalize sizeN c = N at HBG HSZ hN1 hN2
  obtain ⟨la, lc, rfl, hll1, hll2⟩ := strs_len hl
  have HVL := Lib.hid (fun V (hb : Below w.heap.size w V) => hl.below hb)
  unfold maxLen at hll2 hs
  have hop := open_pend N (newD N)
  have hpz : (newD N).pend.length = 0 := rfl
  obtain ⟨q1, q2, -, -⟩ := open_good (Good.new (n := N) hN1 (by omega)) rfl
  have hoj : openedJ N (newD N) = some ⟨[], false⟩ := by unfold openedJ; rw [if_pos q1, q2]
  have hon := (show OnZ (newD N) from ⟨rfl, rfl⟩).open N
  rw [hoj] at HBG
  have HPA := Lib.hid (fun V => pick_any at_ (N : Int) V hat (by omega) (by omega))
  generalize pickI at_ (N : Int) = ap at HPA
  have hJO := Lib.hid (show JOK N ([] : List ByteArray) from ⟨Nat.zero_le _, fun t h => by cases h⟩)
  clear hE hc hat hl q1 q2 hoj
  generalize openD N (newD N) = D1 at HBG hop hon
  have hp1 : D1.pend.length ≤ 2 := by omega
  have HON := Lib.hid hon
  have hcv : ∀ V : World, (convert 39 9 (.slice (some ⟨V.heap.size, 0, none⟩) 1 1)).run Tryz.prog (V.alloc (.cells #[.int .u8 (kb.toNat : Int)] 5)) = .ok (.string ⟨#[kb]⟩) (V.alloc (.cells #[.int .u8 (kb.toNat : Int)] 5)) := fun V => conv_all (b := [kb]) (n := 1) (Blk.new V _ 5) rfl
  obtain ⟨sc, hsc⟩ : ∃ x : ByteArray, (⟨#[kb]⟩ : ByteArray) = x := ⟨_, rfl⟩
  rw [hsc] at hcv
  have HCV := Lib.hid hcv
  clear hop hpz hon hcv hsc
  go_enter Tryz.func3, Tryz.ntmps3
  go_wp2_with fail
  refine hsane.out.mono ?_
  rintro e w1 ⟨rfl, b1⟩
  go_wp2_with fail
  refine (HBG.out _ (HE.out _ b1)).mono ?_
  rintro e w2 ⟨Wb, B, R, rfl, hs2, b2⟩
  have HB1 := Lib.hid b1
  have HEE := Lib.hid (fun V (hb : Below w1.heap.size w1 V) => HE.out V (HB1.out.trans (hb.mono HB1.out.size)))
  have HVV := Lib.hid (fun V (hb : Below w1.heap.size w1 V) => HVL.out V (HB1.out.trans (hb.mono HB1.out.size)))
  have HS2 := Lib.hid (And.intro hs2 b2)
  have s2 := b2.size
  clear b1 HE HBG hsane HVL hs2 b2
  have hend : ∃ (DZ : DiskD), DZ = D1 := ⟨_, rfl⟩
  clear hend
  by_cases hl0 : 0 < l.length
  focus
    have d0 : decide ((0 : Int) < (l.length : Int)) = true := decide_eq_true (by omega)
    have d0b : decide (0 < l.length) = true := decide_eq_true hl0
    obtain ⟨v1, v2, hcW, Jb, Kb, rfl, rfl, hJb, hKb, hJ, hK⟩ := HS2.out.1.cells
    have hfl := fewL_len l
    have HD1 := Lib.hid (fun V (hb : Below w1.heap.size w1 V) => few11 (.slice la l.length lc) l V (HVV.out V hb) hz)
    have HJJ := Lib.hid (And.intro hJ hK)
    have HWB := Lib.hid hcW
    obtain ⟨vr, hbJ, hoJ⟩ := hJ.ex
    obtain ⟨vr2, hbK, hoK⟩ := hK.ex
    have HNE := Lib.hid (And.intro (show Wb ≠ Jb from hcW.ne hbJ (by decide)) (show Kb ≠ Jb from hbK.ne hbJ (by decide)))
    have HJL := Lib.hid (And.intro hJb hKb)
    have HAP := Lib.hid (And.intro (app_pend N ⟨[], false⟩ D1 (fewL l)) (HON.out.app N ⟨[], false⟩ (fewL l)))
    have HCN := Lib.hid (fun (V : World) (hb : Below w2.heap.size w2 V) => show V.cell? ⟨Wb, 1, none⟩ = some (.pointer (some ⟨Jb, 0, none⟩)) ∧ V.cell? ⟨Wb, 3, none⟩ = some (.pointer (some ⟨Kb, 0, none⟩)) from ⟨(HWB.out.below hb HWB.out.lt).cell 1, (HWB.out.below hb HWB.out.lt).cell 3⟩)
    have HDR := Lib.hid (show Below w2.heap.size w2 w2.drew from (Below.refl _ _).drew)
    clear hJ hK hbJ hoJ hbK hoK hJb hKb hcW
    go_upto_region 6 with (fail)
    refine wp_region_noPanic ?_
    refine wp_region_held_drew (S := (fun w' => w'.cell? ⟨Wb, 1, none⟩ = some (.pointer (some ⟨Jb, 0, none⟩)) ∧ w'.cell? ⟨Wb, 3, none⟩ = some (.pointer (some ⟨Kb, 0, none⟩)))) (by kernel_rfl) (HCN.out _ HDR.out) (fun hHeld => ?_)
    refine wpAnyH_take (i := 0) (oi := { dst := some 26, op := Op.move (Operand.tmp 12), type := 24, pos := "law.go:154", after := #[], guard := none }) (v := ?_) rfl (by kernel_rfl) (by kernel_rfl) (by kernel_rfl) (fun _ _ _ h => h) (Or.inl ⟨by kernel_rfl, ?_⟩) (by assumption) ?_
    rotate_left
    · intro w hSw
      (try dsimp only at hSw)
      go_simp
      all_goals (with_reducible rfl)
    (try simp only [Act.put, List.setIfInBounds_toArray, List.set_cons_zero, List.set_cons_succ])
    refine wpAnyH_take (i := 1) (oi := { dst := some 27, op := Op.nilCheck (Operand.tmp 26), type := 0, pos := "law.go:154", after := #[{ on := 0, ground := Ground.data }], guard := none }) (v := ?_) rfl (by kernel_rfl) (by kernel_rfl) (by kernel_rfl) (fun _ _ _ h => h) (Or.inl ⟨by kernel_rfl, ?_⟩) (by assumption) ?_
    rotate_left
    · intro w hSw
      (try dsimp only at hSw)
      go_simp
      all_goals (with_reducible rfl)
    (try simp only [Act.put, List.setIfInBounds_toArray, List.set_cons_zero, List.set_cons_succ])
    refine wpAnyH_take (i := 2) (oi := { dst := some 28, op := Op.fieldAddr 32 (Operand.tmp 27) 1, type := 0, pos := "law.go:154", after := #[{ on := 1, ground := Ground.data }], guard := none }) (v := ?_) rfl (by kernel_rfl) (by kernel_rfl) (by kernel_rfl) (fun _ _ _ h => h) (Or.inl ⟨by kernel_rfl, ?_⟩) (by assumption) ?_
    rotate_left
    · intro w hSw
      (try dsimp only at hSw)
      go_simp
      all_goals (with_reducible rfl)
    (try simp only [Act.put, List.setIfInBounds_toArray, List.set_cons_zero, List.set_cons_succ])
    refine wpAnyH_take (i := 3) (oi := { dst := some 29, op := Op.load 28 (Operand.tmp 28), type := 28, pos := "law.go:154", after := #[{ on := 2, ground := Ground.data }], guard := none }) (v := ?_) rfl (by kernel_rfl) (by kernel_rfl) (by kernel_rfl) (fun _ _ _ h => h) (Or.inl ⟨by kernel_rfl, ?_⟩) (by assumption) ?_
    rotate_left
    · intro w hSw
      (try dsimp only at hSw)
      go_simp
      all_goals (with_reducible rfl)
    (try simp only [Act.put, List.setIfInBounds_toArray, List.set_cons_zero, List.set_cons_succ])
    refine wpAnyH_take (i := 4) (oi := { dst := some 30, op := Op.binOp BinOp.eql 28 (Operand.tmp 29) (Operand.const (Value.pointer none)) 28, type := 4, pos := "law.go:154", after := #[{ on := 3, ground := Ground.data }], guard := none }) (v := ?_) rfl (by kernel_rfl) (by kernel_rfl) (by kernel_rfl) (fun _ _ _ h => h) (Or.inl ⟨by kernel_rfl, ?_⟩) (by assumption) ?_
    rotate_left
    · intro w hSw
      (try dsimp only at hSw)
      go_simp
      all_goals (with_reducible rfl)
    (try simp only [Act.put, List.setIfInBounds_toArray, List.set_cons_zero, List.set_cons_succ])
    refine wpAnyH_take (i := 5) (oi := { dst := some 31, op := Op.move (Operand.tmp 30), type := 4, pos := "law.go:154", after := #[{ on := 4, ground := Ground.data }], guard := none }) (v := ?_) rfl (by kernel_rfl) (by kernel_rfl) (by kernel_rfl) (fun _ _ _ h => h) (Or.inl ⟨by kernel_rfl, ?_⟩) (by assumption) ?_
    rotate_left
    · intro w hSw
      (try dsimp only at hSw)
      go_simp
      all_goals (with_reducible rfl)
    (try simp only [Act.put, List.setIfInBounds_toArray, List.set_cons_zero, List.set_cons_succ])
    refine wpAnyH_take (i := 6) (oi := { dst := some 32, op := Op.move (Operand.tmp 12), type := 24, pos := "law.go:154", after := #[{ on := 5, ground := Ground.guard }], guard := some (5, false) }) (v := ?_) rfl (by kernel_rfl) (by kernel_rfl) (by kernel_rfl) (fun _ _ _ h => h) (Or.inl ⟨by kernel_rfl, ?_⟩) (by assumption) ?_
    rotate_left
    · intro w hSw
      (try dsimp only at hSw)
      go_simp
      all_goals (with_reducible rfl)
    (try simp only [Act.put, List.setIfInBounds_toArray, List.set_cons_zero, List.set_cons_succ])
    refine wpAnyH_take (i := 7) (oi := { dst := some 33, op := Op.nilCheck (Operand.tmp 32), type := 0, pos := "law.go:154", after := #[{ on := 6, ground := Ground.data }, { on := 5, ground := Ground.guard }], guard := some (5, false) }) (v := ?_) rfl (by kernel_rfl) (by kernel_rfl) (by kernel_rfl) (fun _ _ _ h => h) (Or.inl ⟨by kernel_rfl, ?_⟩) (by assumption) ?_
    rotate_left
    · intro w hSw
      (try dsimp only at hSw)
      go_simp
      all_goals (with_reducible rfl)
    (try simp only [Act.put, List.setIfInBounds_toArray, List.set_cons_zero, List.set_cons_succ])
    refine wpAnyH_take (i := 8) (oi := { dst := some 34, op := Op.fieldAddr 32 (Operand.tmp 33) 1, type := 0, pos := "law.go:154", after := #[{ on := 7, ground := Ground.data }, { on := 5, ground := Ground.guard }], guard := some (5, false) }) (v := ?_) rfl (by kernel_rfl) (by kernel_rfl) (by kernel_rfl) (fun _ _ _ h => h) (Or.inl ⟨by kernel_rfl, ?_⟩) (by assumption) ?_
    rotate_left
    · intro w hSw
      (try dsimp only at hSw)
      go_simp
      all_goals (with_reducible rfl)
    (try simp only [Act.put, List.setIfInBounds_toArray, List.set_cons_zero, List.set_cons_succ])
    refine wpAnyH_take (i := 9) (oi := { dst := some 35, op := Op.load 28 (Operand.tmp 34), type := 28, pos := "law.go:154", after := #[{ on := 8, ground := Ground.data }, { on := 5, ground := Ground.guard }], guard := some (5, false) }) (v := ?_) rfl (by kernel_rfl) (by kernel_rfl) (by kernel_rfl) (fun _ _ _ h => h) (Or.inl ⟨by kernel_rfl, ?_⟩) (by assumption) ?_
    rotate_left
    · intro w hSw
      (try dsimp only at hSw)
      go_simp
      all_goals (with_reducible rfl)
    (try simp only [Act.put, List.setIfInBounds_toArray, List.set_cons_zero, List.set_cons_succ])
    refine wpAnyH_take (i := 10) (oi := { dst := some 36, op := Op.move (Operand.tmp 2), type := 22, pos := "law.go:154", after := #[{ on := 5, ground := Ground.guard }], guard := some (5, false) }) (v := ?_) rfl (by kernel_rfl) (by kernel_rfl) (by kernel_rfl) (fun _ _ _ h => h) (Or.inl ⟨by kernel_rfl, ?_⟩) (by assumption) ?_
    rotate_left
    · intro w hSw
      (try dsimp only at hSw)
      go_simp
      all_goals (with_reducible rfl)
    (try simp only [Act.put, List.setIfInBounds_toArray, List.set_cons_zero, List.set_cons_succ])
    refine wpAnyH_take (i := 13) (oi := { dst := some 39, op := Op.move (Operand.tmp 12), type := 24, pos := "law.go:154", after := #[{ on := 5, ground := Ground.guard }], guard := some (5, false) }) (v := ?_) rfl (by kernel_rfl) (by kernel_rfl) (by kernel_rfl) (fun _ _ _ h => h) (Or.inl ⟨by kernel_rfl, ?_⟩) (by assumption) ?_
    rotate_left
    · intro w hSw
      (try dsimp only at hSw)
      go_simp
      all_goals (with_reducible rfl)
    (try simp only [Act.put, List.setIfInBounds_toArray, List.set_cons_zero, List.set_cons_succ])
    refine wpAnyH_take (i := 14) (oi := { dst := some 40, op := Op.nilCheck (Operand.tmp 39), type := 0, pos := "law.go:154", after := #[{ on := 13, ground := Ground.data }, { on := 5, ground := Ground.guard }], guard := some (5, false) }) (v := ?_) rfl (by kernel_rfl) (by kernel_rfl) (by kernel_rfl) (fun _ _ _ h => h) (Or.inl ⟨by kernel_rfl, ?_⟩) (by assumption) ?_
    rotate_left
    · intro w hSw
      (try dsimp only at hSw)
      go_simp
      all_goals (with_reducible rfl)
    (try simp only [Act.put, List.setIfInBounds_toArray, List.set_cons_zero, List.set_cons_succ])
    refine wpAnyH_take (i := 15) (oi := { dst := some 41, op := Op.fieldAddr 32 (Operand.tmp 40) 3, type := 0, pos := "law.go:154", after := #[{ on := 14, ground := Ground.data }, { on := 5, ground := Ground.guard }], guard := some (5, false) }) (v := ?_) rfl (by kernel_rfl) (by kernel_rfl) (by kernel_rfl) (fun _ _ _ h => h) (Or.inl ⟨by kernel_rfl, ?_⟩) (by assumption) ?_
    rotate_left
    · intro w hSw
      (try dsimp only at hSw)
      go_simp
      all_goals (with_reducible rfl)
    (try simp only [Act.put, List.setIfInBounds_toArray, List.set_cons_zero, List.set_cons_succ])
    refine wpAnyH_take (i := 16) (oi := { dst := some 42, op := Op.load 30 (Operand.tmp 41), type := 30, pos := "law.go:154", after := #[{ on := 15, ground := Ground.data }, { on := 5, ground := Ground.guard }], guard := some (5, false) }) (v := ?_) rfl (by kernel_rfl) (by kernel_rfl) (by kernel_rfl) (fun _ _ _ h => h) (Or.inl ⟨by kernel_rfl, ?_⟩) (by assumption) ?_
    rotate_left
    · intro w hSw
      (try dsimp only at hSw)
      go_simp
      all_goals (with_reducible rfl)
    (try simp only [Act.put, List.setIfInBounds_toArray, List.set_cons_zero, List.set_cons_succ])
    refine wpAnyH_take (i := 17) (oi := { dst := some 43, op := Op.move (Operand.tmp 2), type := 22, pos := "law.go:154", after := #[{ on := 5, ground := Ground.guard }], guard := some (5, false) }) (v := ?_) rfl (by kernel_rfl) (by kernel_rfl) (by kernel_rfl) (fun _ _ _ h => h) (Or.inl ⟨by kernel_rfl, ?_⟩) (by assumption) ?_
    rotate_left
    · intro w hSw
      (try dsimp only at hSw)
      go_simp
      all_goals (with_reducible rfl)
    (try simp only [Act.put, List.setIfInBounds_toArray, List.set_cons_zero, List.set_cons_succ])
    refine wpAnyH_one1 (i := 11) (o := { dst := some 37, op := Op.call { callee := Callee.value (Operand.func 11), args := #[Operand.tmp 36], argTypes := #[22] }, type := 22, pos := "law.go:154", after := #[{ on := 10, ground := Ground.data }, { on := 5, ground := Ground.chain }, { on := 5, ground := Ground.guard }], guard := some (5, false) }) (by kernel_rfl) rfl (fun K hK => ?_)
    go_simp
    refine (HD1.out _ (HS2.out.2.trans (HDR.out.mono s2))).mono ?_
    rintro e w4 ⟨v4, rfl, ho4, b4⟩
    have B4 := HDR.out.trans b4
    have hd4 : DuoB w4 w1.heap.size N B R D1 D1 := HS2.out.1.duo.below B4
    have j4 := HJJ.out.1.below B4
    have k4 := HJJ.out.2.below B4
    have B4b := HS2.out.2.trans (B4.mono s2)
    have s4 := B4b.size
    refine hK.out _ _ ?_ (fun hHeld2 => ?_)
    · exact HCN.out _ B4
    clear hHeld
    have hHeld := hHeld2
    clear hHeld2
    clear hK K
    (try simp only [Act.put, List.setIfInBounds_toArray, List.set_cons_zero, List.set_cons_succ])
    refine wpAnyH_one1 (i := 12) (o := { dst := some 38, op := Op.call { callee := Callee.value (Operand.func 10), args := #[Operand.tmp 35, Operand.tmp 37], argTypes := #[28, 22] }, type := 33, pos := "law.go:154", after := #[{ on := 9, ground := Ground.data }, { on := 11, ground := Ground.data }, { on := 11, ground := Ground.chain }, { on := 5, ground := Ground.guard }], guard := some (5, false) }) (by kernel_rfl) rfl (fun K hK => ?_)
    go_simp
    refine (d_append hd4 s4 j4 HJL.out.1 (HEE.out _ B4b) (by omega) (by omega) hJO.out v4 (fewL l) (strs_own ho4) (by omega)).mono ?_
    rintro e w5 ⟨⟨rfl, j5⟩, hd5, hk5, b5⟩
    have W5 : Blk w5 Wb _ 32 := hk5.blk (HWB.out.below B4 HWB.out.lt) (by decide) HNE.out.1
    have k5 := k4.kept hk5 HNE.out.2 (fun k cs hc e => by obtain ⟨vr, hbJ, -⟩ := j4.ex; exact hc.ne hbJ (by decide) e)
    have B5b := B4b.trans b5
    have s5 := B5b.size
    have hl5 := fun V (hv : Below w5.heap.size w5 V) => HD1.out V (B5b.trans (hv.mono s5))
    refine hK.out _ _ ?_ (fun hHeld2 => ?_)
    · exact ⟨W5.cell 1, W5.cell 3⟩
    clear hHeld
    have hHeld := hHeld2
    clear hHeld2
    clear hK K
    (try simp only [Act.put, List.setIfInBounds_toArray, List.set_cons_zero, List.set_cons_succ])
    refine wpAnyH_one1 (i := 18) (o := { dst := some 44, op := Op.call { callee := Callee.value (Operand.func 11), args := #[Operand.tmp 43], argTypes := #[22] }, type := 22, pos := "law.go:154", after := #[{ on := 17, ground := Ground.data }, { on := 12, ground := Ground.chain }, { on := 5, ground := Ground.guard }], guard := some (5, false) }) (by kernel_rfl) rfl (fun K hK => ?_)
    go_simp
    refine (hl5 _ (Below.refl _ _)).mono ?_
    rintro e w6 ⟨v6, rfl, ho6, b6⟩
    have hd6 : DuoB w6 w1.heap.size N B R (appD N ⟨[], false⟩ D1 (fewL l)) D1 := Duo.below hd5 b6
    have j6 := j5.below b6
    have k6 := k5.below b6
    have W6 := W5.below b6 W5.lt
    have B6b := B5b.trans (b6.mono s5)
    have s6 := B6b.size
    refine hK.out _ _ ?_ (fun hHeld2 => ?_)
    · exact ⟨W6.cell 1, W6.cell 3⟩
    clear hHeld
    have hHeld := hHeld2
    clear hHeld2
    clear hK K
    (try simp only [Act.put, List.setIfInBounds_toArray, List.set_cons_zero, List.set_cons_succ])
    refine wpAnyH_one1 (i := 19) (o := { dst := some 45, op := Op.call { callee := Callee.value (Operand.func 12), args := #[Operand.tmp 42, Operand.tmp 44], argTypes := #[30, 22] }, type := 33, pos := "law.go:154", after := #[{ on := 16, ground := Ground.data }, { on := 18, ground := Ground.data }, { on := 18, ground := Ground.chain }, { on := 5, ground := Ground.guard }], guard := some (5, false) }) (by kernel_rfl) rfl (fun K hK => ?_)
    go_simp
    refine (r_append hd6 s6 k6 HJL.out.2 (by omega) (by omega) hJO.out v6 (fewL l) ho6 (fewL_size l) hfl).mono ?_
    rintro e w7 ⟨⟨rfl, k7⟩, hd7, hk7, b7⟩
    obtain ⟨vrk, hbK6, -⟩ := k6.ex
    obtain ⟨vrj, hbJ6, -⟩ := j6.ex
    have W7 : Blk w7 Wb _ 32 := hk7.blk W6 (by decide) (fun e => W6.ne hbK6 (by decide) e)
    have j7 := j6.kept hk7 (fun e => hbJ6.ne hbK6 (by decide) e) (fun k cs hc e => hc.ne hbK6 (by decide) e)
    have B7b := B6b.trans b7
    refine hK.out _ _ ?_ (fun hHeld2 => ?_)
    · exact ⟨W7.cell 1, W7.cell 3⟩
    clear hHeld
    have hHeld := hHeld2
    clear hHeld2
    clear hK K
    (try simp only [Act.put, List.setIfInBounds_toArray, List.set_cons_zero, List.set_cons_succ])
    refine wpAnyH_take (i := 20) (oi := { dst := some 46, op := Op.binOp BinOp.neq 33 (Operand.tmp 38) (Operand.tmp 45) 33, type := 4, pos := "law.go:154", after := #[{ on := 12, ground := Ground.data }, { on := 19, ground := Ground.data }, { on := 5, ground := Ground.guard }], guard := some (5, false) }) (v := ?_) rfl (by kernel_rfl) (by kernel_rfl) (by kernel_rfl) (fun _ _ _ h => h) (Or.inl ⟨by kernel_rfl, ?_⟩) (by assumption) ?_
    rotate_left
    · intro w hSw
      (try dsimp only at hSw)
      go_simp
      all_goals (with_reducible rfl)
    (try simp only [Act.put, List.setIfInBounds_toArray, List.set_cons_zero, List.set_cons_succ])
    refine wpAnyH_take (i := 21) (oi := { dst := some 47, op := Op.pick (Operand.tmp 31) (Operand.const (Value.bool true)) (Operand.tmp 46), type := 4, pos := "law.go:154", after := #[{ on := 5, ground := Ground.data }, { on := 20, ground := Ground.data }], guard := none }) (v := ?_) rfl (by kernel_rfl) (by kernel_rfl) (by kernel_rfl) (fun _ _ _ h => h) (Or.inl ⟨by kernel_rfl, ?_⟩) (by assumption) ?_
    rotate_left
    · intro w hSw
      (try dsimp only at hSw)
      go_simp
      all_goals (with_reducible rfl)
    (try simp only [Act.put, List.setIfInBounds_toArray, List.set_cons_zero, List.set_cons_succ])
    refine wpAnyH_done (by kernel_rfl) ?_ _
    refine NoPanic.normal ?_
    have HS7 := Lib.hid (And.intro (show St w1.heap.size w7 Wb B R N (appD N ⟨[], false⟩ D1 (fewL l)) (some (appJ N ⟨[], false⟩ D1 (fewL l))) from ⟨hd7, ⟨_, _, W7, ⟨Jb, Kb, rfl, rfl, HJL.out.1, HJL.out.2, j7, k7⟩⟩, HS2.out.1.wb⟩) B7b)
    have hp7 : (appD N ⟨[], false⟩ D1 (fewL l)).pend.length ≤ 6 := by have := HAP.out.1; omega
    have HON7 := Lib.hid HAP.out.2
    clear hHeld ho4 b4 B4 hd4 j4 k4 B4b hd5 hk5 b5 W5 k5 B5b hl5 j5 ho6 b6 hd6 j6 k6 W6 B6b k7 hd7 hk7 b7 hbK6 hbJ6 W7 j7 B7b s4 s5 s6 HCN HDR HAP HJJ HNE HJL HD1 HWB HS2 HON hp1
    generalize appJ N ⟨[], false⟩ D1 (fewL l) = J7 at HS7
    generalize appE N ⟨[], false⟩ D1 (fewL l) = e7
    generalize appD N ⟨[], false⟩ D1 (fewL l) = D7 at HS7 hp7 HON7
    have s7 := HS7.out.2.size
    have HDA := Lib.hid (show Below w7.heap.size w7 (w7.alloc (.cells #[.int .u8 (kb.toNat : Int)] 5)).drew from ((Below.refl _ _).alloc (Nat.le_refl _) _).drew)
    have HDR := Lib.hid (show Below w7.heap.size w7 w7.drew from (Below.refl _ _).drew)
    have hcvV : (convert 39 9 (.slice (some ⟨w7.heap.size, 0, none⟩) 1 1)).run Tryz.prog (w7.alloc (.cells #[.int .u8 (kb.toNat : Int)] 5)).drew = .ok (.string sc) (w7.alloc (.cells #[.int .u8 (kb.toNat : Int)] 5)).drew := HCV.out w7.drew
    have HW := Lib.hid (d_write (W := (w7.alloc (.cells #[.int .u8 (kb.toNat : Int)] 5)).drew) (HS7.out.1.duo.below HDA.out) (Nat.le_trans s7 HDA.out.size) (by omega) ap sc)
    have HCW := Lib.hid (fun (V : World) (hb : Below w7.heap.size w7 V) => show V.cell? ⟨Wb, 0, none⟩ = some (.pointer (some ⟨B, 0, none⟩)) from by obtain ⟨vj, vk, hcW, -⟩ := HS7.out.1.cells; exact (hcW.below hb hcW.lt).cell 0)
    go_upto_region 8 with (fail)
    apply wp_suchW (fun w' => DuoB w' w1.heap.size N B R (writeD D7 ap sc) D7 ∧ Kept NoX w7 w' ∧ Below w1.heap.size w7 w')
    · skip
      refine wp_region_noPanic ?_
      refine wp_region_held_drew (S := (fun w' => w'.cell? ⟨Wb, 0, none⟩ = some (.pointer (some ⟨B, 0, none⟩)))) (by kernel_rfl) (HCW.out _ HDR.out) (fun hHeld => ?_)
      refine wpAnyH_take (i := 0) (oi := { dst := some 48, op := Op.move (Operand.tmp 12), type := 24, pos := "law.go:157", after := #[], guard := none }) (v := ?_) rfl (by kernel_rfl) (by kernel_rfl) (by kernel_rfl) (fun _ _ _ h => h) (Or.inl ⟨by kernel_rfl, ?_⟩) (by assumption) ?_
      rotate_left
      · intro w hSw
        (try dsimp only at hSw)
        go_simp
        all_goals (with_reducible rfl)
      (try simp only [Act.put, List.setIfInBounds_toArray, List.set_cons_zero, List.set_cons_succ])
      refine wpAnyH_take (i := 1) (oi := { dst := some 49, op := Op.nilCheck (Operand.tmp 48), type := 0, pos := "law.go:157", after := #[{ on := 0, ground := Ground.data }], guard := none }) (v := ?_) rfl (by kernel_rfl) (by kernel_rfl) (by kernel_rfl) (fun _ _ _ h => h) (Or.inl ⟨by kernel_rfl, ?_⟩) (by assumption) ?_
      rotate_left
      · intro w hSw
        (try dsimp only at hSw)
        go_simp
        all_goals (with_reducible rfl)
      (try simp only [Act.put, List.setIfInBounds_toArray, List.set_cons_zero, List.set_cons_succ])
      refine wpAnyH_take (i := 2) (oi := { dst := some 50, op := Op.fieldAddr 32 (Operand.tmp 49) 0, type := 0, pos := "law.go:157", after := #[{ on := 1, ground := Ground.data }], guard := none }) (v := ?_) rfl (by kernel_rfl) (by kernel_rfl) (by kernel_rfl) (fun _ _ _ h => h) (Or.inl ⟨by kernel_rfl, ?_⟩) (by assumption) ?_
      rotate_left
      · intro w hSw
        (try dsimp only at hSw)
        go_simp
        all_goals (with_reducible rfl)
      (try simp only [Act.put, List.setIfInBounds_toArray, List.set_cons_zero, List.set_cons_succ])
      refine wpAnyH_take (i := 3) (oi := { dst := some 51, op := Op.load 27 (Operand.tmp 50), type := 27, pos := "law.go:157", after := #[{ on := 2, ground := Ground.data }], guard := none }) (v := ?_) rfl (by kernel_rfl) (by kernel_rfl) (by kernel_rfl) (fun _ _ _ h => h) (Or.inl ⟨by kernel_rfl, ?_⟩) (by assumption) ?_
      rotate_left
      · intro w hSw
        (try dsimp only at hSw)
        go_simp
        all_goals (with_reducible rfl)
      (try simp only [Act.put, List.setIfInBounds_toArray, List.set_cons_zero, List.set_cons_succ])
      refine wpAnyH_take (i := 4) (oi := { dst := some 52, op := Op.move (Operand.tmp 3), type := 3, pos := "law.go:157", after := #[], guard := none }) (v := ?_) rfl (by kernel_rfl) (by kernel_rfl) (by kernel_rfl) (fun _ _ _ h => h) (Or.inl ⟨by kernel_rfl, ?_⟩) (by assumption) ?_
      rotate_left
      · intro w hSw
        (try dsimp only at hSw)
        go_simp
        all_goals (with_reducible rfl)
      (try simp only [Act.put, List.setIfInBounds_toArray, List.set_cons_zero, List.set_cons_succ])
      refine wpAnyH_take (i := 5) (oi := { dst := some 53, op := Op.move (Operand.tmp 0), type := 3, pos := "law.go:157", after := #[], guard := none }) (v := ?_) rfl (by kernel_rfl) (by kernel_rfl) (by kernel_rfl) (fun _ _ _ h => h) (Or.inl ⟨by kernel_rfl, ?_⟩) (by assumption) ?_
      rotate_left
      · intro w hSw
        (try dsimp only at hSw)
        go_simp
        all_goals (with_reducible rfl)
      (try simp only [Act.put, List.setIfInBounds_toArray, List.set_cons_zero, List.set_cons_succ])
      refine wpAnyH_take (i := 8) (oi := { dst := some 56, op := Op.move (Operand.tmp 4), type := 5, pos := "law.go:157", after := #[], guard := none }) (v := ?_) rfl (by kernel_rfl) (by kernel_rfl) (by kernel_rfl) (fun _ _ _ h => h) (Or.inl ⟨by kernel_rfl, ?_⟩) (by assumption) ?_
      rotate_left
      · intro w hSw
        (try dsimp only at hSw)
        go_simp
        all_goals (with_reducible rfl)
      (try simp only [Act.put, List.setIfInBounds_toArray, List.set_cons_zero, List.set_cons_succ])
      refine wpAnyH_two (i := 6) (j := 9) (oi := { dst := some 54, op := Op.call { callee := Callee.value (Operand.func 15), args := #[Operand.tmp 53], argTypes := #[3] }, type := 3, pos := "law.go:157", after := #[{ on := 5, ground := Ground.data }], guard := none }) (oj := { dst := some 57, op := Op.buildSlice 39 1 #[(0, Operand.tmp 56)], type := 39, pos := "law.go:157", after := #[{ on := 8, ground := Ground.data }], guard := none }) (by kernel_rfl) rfl rfl (fun K hK => ?_) (fun K hK => ?_)
      · skip
        go_simp
        refine (HSZ.out _).mono ?_
        rintro e wq ⟨rfl, hq⟩
        subst hq
        refine hK.out _ _ ?_ (fun hHeld2 => ?_)
        · exact hHeld
        clear hHeld
        have hHeld := hHeld2
        clear hHeld2
        clear hK K
        (try simp only [Act.put, List.setIfInBounds_toArray, List.set_cons_zero, List.set_cons_succ])
        refine wpAnyH_two (i := 7) (j := 9) (oi := { dst := some 55, op := Op.call { callee := Callee.value (Operand.func 14), args := #[Operand.tmp 52, Operand.tmp 54], argTypes := #[3, 3] }, type := 3, pos := "law.go:157", after := #[{ on := 4, ground := Ground.data }, { on := 6, ground := Ground.data }, { on := 6, ground := Ground.chain }], guard := none }) (oj := { dst := some 57, op := Op.buildSlice 39 1 #[(0, Operand.tmp 56)], type := 39, pos := "law.go:157", after := #[{ on := 8, ground := Ground.data }], guard := none }) (by kernel_rfl) rfl rfl (fun K hK => ?_) (fun K hK => ?_)
        · skip
          go_simp
          refine (HPA.out _).mono ?_
          rintro e wq ⟨rfl, hq⟩
          subst hq
          refine hK.out _ _ ?_ (fun hHeld2 => ?_)
          · exact hHeld
          clear hHeld
          have hHeld := hHeld2
          clear hHeld2
          clear hK K
          (try simp only [Act.put, List.setIfInBounds_toArray, List.set_cons_zero, List.set_cons_succ])
          refine wpAnyH_one1 (i := 9) (o := { dst := some 57, op := Op.buildSlice 39 1 #[(0, Operand.tmp 56)], type := 39, pos := "law.go:157", after := #[{ on := 8, ground := Ground.data }], guard := none }) (by kernel_rfl) rfl (fun K hK => ?_)
          go_simp
          refine hK.out _ _ ?_ (fun hHeld2 => ?_)
          · exact HCW.out _ HDA.out
          clear hHeld
          have hHeld := hHeld2
          clear hHeld2
          clear hK K
          (try simp only [Act.put, List.setIfInBounds_toArray, List.set_cons_zero, List.set_cons_succ])
          refine wpAnyH_one1 (i := 10) (o := { dst := some 58, op := Op.convert 39 9 (Operand.tmp 57), type := 9, pos := "law.go:157", after := #[{ on := 9, ground := Ground.data }], guard := none }) (by kernel_rfl) rfl (fun K hK => ?_)
          go_simp
          refine hK.out _ _ ?_ (fun hHeld2 => ?_)
          · exact hHeld
          clear hHeld
          have hHeld := hHeld2
          clear hHeld2
          clear hK K
          (try simp only [Act.put, List.setIfInBounds_toArray, List.set_cons_zero, List.set_cons_succ])
          refine wpAnyH_one1 (i := 11) (o := { dst := some 59, op := Op.call { callee := Callee.value (Operand.func 13), args := #[Operand.tmp 51, Operand.tmp 55, Operand.tmp 58], argTypes := #[27, 3, 9] }, type := 33, pos := "law.go:157", after := #[{ on := 3, ground := Ground.data }, { on := 7, ground := Ground.data }, { on := 10, ground := Ground.data }, { on := 7, ground := Ground.chain }], guard := none }) (by kernel_rfl) rfl (fun K hK => ?_)
          go_simp
          refine HW.out.mono ?_
          rintro e w8 ⟨rfl, hd8, hk8, b8⟩
          have K8 := kept_trans (Kept.below HDA.out) hk8 HDA.out.size
          have B8 := (HDA.out.mono s7).trans b8
          refine hK.out _ _ ?_ (fun hHeld2 => ?_)
          · exact (by
              obtain ⟨vj, vk, hcW, -⟩ := HS7.out.1.cells
              exact (K8.blk hcW (by decide) (fun h => h)).cell 0)
          clear hHeld
          have hHeld := hHeld2
          clear hHeld2
          clear hK K
          (try simp only [Act.put, List.setIfInBounds_toArray, List.set_cons_zero, List.set_cons_succ])
          refine wpAnyH_done (by kernel_rfl) ?_ _
          refine NoPanic.normal ?_
          exact ⟨rfl, rfl, hd8, K8, B8⟩
        · skip
          go_simp
          refine hK.out _ _ ?_ (fun hHeld2 => ?_)
          · exact HCW.out _ HDA.out
          clear hHeld
          have hHeld := hHeld2
          clear hHeld2
          clear hK K
          (try simp only [Act.put, List.setIfInBounds_toArray, List.set_cons_zero, List.set_cons_succ])
          refine wpAnyH_two (i := 7) (j := 10) (oi := { dst := some 55, op := Op.call { callee := Callee.value (Operand.func 14), args := #[Operand.tmp 52, Operand.tmp 54], argTypes := #[3, 3] }, type := 3, pos := "law.go:157", after := #[{ on := 4, ground := Ground.data }, { on := 6, ground := Ground.data }, { on := 6, ground := Ground.chain }], guard := none }) (oj := { dst := some 58, op := Op.convert 39 9 (Operand.tmp 57), type := 9, pos := "law.go:157", after := #[{ on := 9, ground := Ground.data }], guard := none }) (by kernel_rfl) rfl rfl (fun K hK => ?_) (fun K hK => ?_)
          · skip
            go_simp
            refine (HPA.out _).mono ?_
            rintro e wq ⟨rfl, hq⟩
            subst hq
            refine hK.out _ _ ?_ (fun hHeld2 => ?_)
            · exact hHeld
            clear hHeld
            have hHeld := hHeld2
            clear hHeld2
            clear hK K
            (try simp only [Act.put, List.setIfInBounds_toArray, List.set_cons_zero, List.set_cons_succ])
            refine wpAnyH_one1 (i := 10) (o := { dst := some 58, op := Op.convert 39 9 (Operand.tmp 57), type := 9, pos := "law.go:157", after := #[{ on := 9, ground := Ground.data }], guard := none }) (by kernel_rfl) rfl (fun K hK => ?_)
            go_simp
            refine hK.out _ _ ?_ (fun hHeld2 => ?_)
            · exact hHeld
            clear hHeld
            have hHeld := hHeld2
            clear hHeld2
            clear hK K
            (try simp only [Act.put, List.setIfInBounds_toArray, List.set_cons_zero, List.set_cons_succ])
            refine wpAnyH_one1 (i := 11) (o := { dst := some 59, op := Op.call { callee := Callee.value (Operand.func 13), args := #[Operand.tmp 51, Operand.tmp 55, Operand.tmp 58], argTypes := #[27, 3, 9] }, type := 33, pos := "law.go:157", after := #[{ on := 3, ground := Ground.data }, { on := 7, ground := Ground.data }, { on := 10, ground := Ground.data }, { on := 7, ground := Ground.chain }], guard := none }) (by kernel_rfl) rfl (fun K hK => ?_)
            go_simp
            refine HW.out.mono ?_
            rintro e w8 ⟨rfl, hd8, hk8, b8⟩
            have K8 := kept_trans (Kept.below HDA.out) hk8 HDA.out.size
            have B8 := (HDA.out.mono s7).trans b8
            refine hK.out _ _ ?_ (fun hHeld2 => ?_)
            · exact (by
                obtain ⟨vj, vk, hcW, -⟩ := HS7.out.1.cells
                exact (K8.blk hcW (by decide) (fun h => h)).cell 0)
            clear hHeld
            have hHeld := hHeld2
            clear hHeld2
            clear hK K
            (try simp only [Act.put, List.setIfInBounds_toArray, List.set_cons_zero, List.set_cons_succ])
            refine wpAnyH_done (by kernel_rfl) ?_ _
            refine NoPanic.normal ?_
            exact ⟨rfl, rfl, hd8, K8, B8⟩
          · skip
            go_simp
            refine hK.out _ _ ?_ (fun hHeld2 => ?_)
            · exact hHeld
            clear hHeld
            have hHeld := hHeld2
            clear hHeld2
            clear hK K
            (try simp only [Act.put, List.setIfInBounds_toArray, List.set_cons_zero, List.set_cons_succ])
            refine wpAnyH_one1 (i := 7) (o := { dst := some 55, op := Op.call { callee := Callee.value (Operand.func 14), args := #[Operand.tmp 52, Operand.tmp 54], argTypes := #[3, 3] }, type := 3, pos := "law.go:157", after := #[{ on := 4, ground := Ground.data }, { on := 6, ground := Ground.data }, { on := 6, ground := Ground.chain }], guard := none }) (by kernel_rfl) rfl (fun K hK => ?_)
            go_simp
            refine (HPA.out _).mono ?_
            rintro e wq ⟨rfl, hq⟩
            subst hq
            refine hK.out _ _ ?_ (fun hHeld2 => ?_)
            · exact hHeld
            clear hHeld
            have hHeld := hHeld2
            clear hHeld2
            clear hK K
            (try simp only [Act.put, List.setIfInBounds_toArray, List.set_cons_zero, List.set_cons_succ])
            refine wpAnyH_one1 (i := 11) (o := { dst := some 59, op := Op.call { callee := Callee.value (Operand.func 13), args := #[Operand.tmp 51, Operand.tmp 55, Operand.tmp 58], argTypes := #[27, 3, 9] }, type := 33, pos := "law.go:157", after := #[{ on := 3, ground := Ground.data }, { on := 7, ground := Ground.data }, { on := 10, ground := Ground.data }, { on := 7, ground := Ground.chain }], guard := none }) (by kernel_rfl) rfl (fun K hK => ?_)
            go_simp
            refine HW.out.mono ?_
            rintro e w8 ⟨rfl, hd8, hk8, b8⟩
            have K8 := kept_trans (Kept.below HDA.out) hk8 HDA.out.size
            have B8 := (HDA.out.mono s7).trans b8
            refine hK.out _ _ ?_ (fun hHeld2 => ?_)
            · exact (by
                obtain ⟨vj, vk, hcW, -⟩ := HS7.out.1.cells
                exact (K8.blk hcW (by decide) (fun h => h)).cell 0)
            clear hHeld
            have hHeld := hHeld2
            clear hHeld2
            clear hK K
            (try simp only [Act.put, List.setIfInBounds_toArray, List.set_cons_zero, List.set_cons_succ])
            refine wpAnyH_done (by kernel_rfl) ?_ _
            refine NoPanic.normal ?_
            exact ⟨rfl, rfl, hd8, K8, B8⟩
      · skip
        go_simp
        refine hK.out _ _ ?_ (fun hHeld2 => ?_)
        · exact HCW.out _ HDA.out
        clear hHeld
        have hHeld := hHeld2
        clear hHeld2
        clear hK K
        (try simp only [Act.put, List.setIfInBounds_toArray, List.set_cons_zero, List.set_cons_succ])
        refine wpAnyH_two (i := 6) (j := 10) (oi := { dst := some 54, op := Op.call { callee := Callee.value (Operand.func 15), args := #[Operand.tmp 53], argTypes := #[3] }, type := 3, pos := "law.go:157", after := #[{ on := 5, ground := Ground.data }], guard := none }) (oj := { dst := some 58, op := Op.convert 39 9 (Operand.tmp 57), type := 9, pos := "law.go:157", after := #[{ on := 9, ground := Ground.data }], guard := none }) (by kernel_rfl) rfl rfl (fun K hK => ?_) (fun K hK => ?_)
        · skip
          go_simp
          refine (HSZ.out _).mono ?_
          rintro e wq ⟨rfl, hq⟩
          subst hq
          refine hK.out _ _ ?_ (fun hHeld2 => ?_)
          · exact hHeld
          clear hHeld
          have hHeld := hHeld2
          clear hHeld2
          clear hK K
          (try simp only [Act.put, List.setIfInBounds_toArray, List.set_cons_zero, List.set_cons_succ])
          refine wpAnyH_two (i := 7) (j := 10) (oi := { dst := some 55, op := Op.call { callee := Callee.value (Operand.func 14), args := #[Operand.tmp 52, Operand.tmp 54], argTypes := #[3, 3] }, type := 3, pos := "law.go:157", after := #[{ on := 4, ground := Ground.data }, { on := 6, ground := Ground.data }, { on := 6, ground := Ground.chain }], guard := none }) (oj := { dst := some 58, op := Op.convert 39 9 (Operand.tmp 57), type := 9, pos := "law.go:157", after := #[{ on := 9, ground := Ground.data }], guard := none }) (by kernel_rfl) rfl rfl (fun K hK => ?_) (fun K hK => ?_)
          · skip
            go_simp
            refine (HPA.out _).mono ?_
            rintro e wq ⟨rfl, hq⟩
            subst hq
            refine hK.out _ _ ?_ (fun hHeld2 => ?_)
            · exact hHeld
            clear hHeld
            have hHeld := hHeld2
            clear hHeld2
            clear hK K
            (try simp only [Act.put, List.setIfInBounds_toArray, List.set_cons_zero, List.set_cons_succ])
            refine wpAnyH_one1 (i := 10) (o := { dst := some 58, op := Op.convert 39 9 (Operand.tmp 57), type := 9, pos := "law.go:157", after := #[{ on := 9, ground := Ground.data }], guard := none }) (by kernel_rfl) rfl (fun K hK => ?_)
            go_simp
            refine hK.out _ _ ?_ (fun hHeld2 => ?_)
            · exact hHeld
            clear hHeld
            have hHeld := hHeld2
            clear hHeld2
            clear hK K
            (try simp only [Act.put, List.setIfInBounds_toArray, List.set_cons_zero, List.set_cons_succ])
            refine wpAnyH_one1 (i := 11) (o := { dst := some 59, op := Op.call { callee := Callee.value (Operand.func 13), args := #[Operand.tmp 51, Operand.tmp 55, Operand.tmp 58], argTypes := #[27, 3, 9] }, type := 33, pos := "law.go:157", after := #[{ on := 3, ground := Ground.data }, { on := 7, ground := Ground.data }, { on := 10, ground := Ground.data }, { on := 7, ground := Ground.chain }], guard := none }) (by kernel_rfl) rfl (fun K hK => ?_)
            go_simp
            refine HW.out.mono ?_
            rintro e w8 ⟨rfl, hd8, hk8, b8⟩
            have K8 := kept_trans (Kept.below HDA.out) hk8 HDA.out.size
            have B8 := (HDA.out.mono s7).trans b8
            refine hK.out _ _ ?_ (fun hHeld2 => ?_)
            · exact (by
                obtain ⟨vj, vk, hcW, -⟩ := HS7.out.1.cells
                exact (K8.blk hcW (by decide) (fun h => h)).cell 0)
            clear hHeld
            have hHeld := hHeld2
            clear hHeld2
            clear hK K
            (try simp only [Act.put, List.setIfInBounds_toArray, List.set_cons_zero, List.set_cons_succ])
            refine wpAnyH_done (by kernel_rfl) ?_ _
            refine NoPanic.normal ?_
            exact ⟨rfl, rfl, hd8, K8, B8⟩
          · skip
            go_simp
            refine hK.out _ _ ?_ (fun hHeld2 => ?_)
            · exact hHeld
            clear hHeld
            have hHeld := hHeld2
            clear hHeld2
            clear hK K
            (try simp only [Act.put, List.setIfInBounds_toArray, List.set_cons_zero, List.set_cons_succ])
            refine wpAnyH_one1 (i := 7) (o := { dst := some 55, op := Op.call { callee := Callee.value (Operand.func 14), args := #[Operand.tmp 52, Operand.tmp 54], argTypes := #[3, 3] }, type := 3, pos := "law.go:157", after := #[{ on := 4, ground := Ground.data }, { on := 6, ground := Ground.data }, { on := 6, ground := Ground.chain }], guard := none }) (by kernel_rfl) rfl (fun K hK => ?_)
            go_simp
            refine (HPA.out _).mono ?_
            rintro e wq ⟨rfl, hq⟩
            subst hq
            refine hK.out _ _ ?_ (fun hHeld2 => ?_)
            · exact hHeld
            clear hHeld
            have hHeld := hHeld2
            clear hHeld2
            clear hK K
            (try simp only [Act.put, List.setIfInBounds_toArray, List.set_cons_zero, List.set_cons_succ])
            refine wpAnyH_one1 (i := 11) (o := { dst := some 59, op := Op.call { callee := Callee.value (Operand.func 13), args := #[Operand.tmp 51, Operand.tmp 55, Operand.tmp 58], argTypes := #[27, 3, 9] }, type := 33, pos := "law.go:157", after := #[{ on := 3, ground := Ground.data }, { on := 7, ground := Ground.data }, { on := 10, ground := Ground.data }, { on := 7, ground := Ground.chain }], guard := none }) (by kernel_rfl) rfl (fun K hK => ?_)
            go_simp
            refine HW.out.mono ?_
            rintro e w8 ⟨rfl, hd8, hk8, b8⟩
            have K8 := kept_trans (Kept.below HDA.out) hk8 HDA.out.size
            have B8 := (HDA.out.mono s7).trans b8
            refine hK.out _ _ ?_ (fun hHeld2 => ?_)
            · exact (by
                obtain ⟨vj, vk, hcW, -⟩ := HS7.out.1.cells
                exact (K8.blk hcW (by decide) (fun h => h)).cell 0)
            clear hHeld
            have hHeld := hHeld2
            clear hHeld2
            clear hK K
            (try simp only [Act.put, List.setIfInBounds_toArray, List.set_cons_zero, List.set_cons_succ])
            refine wpAnyH_done (by kernel_rfl) ?_ _
            refine NoPanic.normal ?_
            exact ⟨rfl, rfl, hd8, K8, B8⟩
        · skip
          go_simp
          refine hK.out _ _ ?_ (fun hHeld2 => ?_)
          · exact hHeld
          clear hHeld
          have hHeld := hHeld2
          clear hHeld2
          clear hK K
          (try simp only [Act.put, List.setIfInBounds_toArray, List.set_cons_zero, List.set_cons_succ])
          refine wpAnyH_one1 (i := 6) (o := { dst := some 54, op := Op.call { callee := Callee.value (Operand.func 15), args := #[Operand.tmp 53], argTypes := #[3] }, type := 3, pos := "law.go:157", after := #[{ on := 5, ground := Ground.data }], guard := none }) (by kernel_rfl) rfl (fun K hK => ?_)
          go_simp
          refine (HSZ.out _).mono ?_
          rintro e wq ⟨rfl, hq⟩
          subst hq
          refine hK.out _ _ ?_ (fun hHeld2 => ?_)
          · exact hHeld
          clear hHeld
          have hHeld := hHeld2
          clear hHeld2
          clear hK K
          (try simp only [Act.put, List.setIfInBounds_toArray, List.set_cons_zero, List.set_cons_succ])
          refine wpAnyH_one1 (i := 7) (o := { dst := some 55, op := Op.call { callee := Callee.value (Operand.func 14), args := #[Operand.tmp 52, Operand.tmp 54], argTypes := #[3, 3] }, type := 3, pos := "law.go:157", after := #[{ on := 4, ground := Ground.data }, { on := 6, ground := Ground.data }, { on := 6, ground := Ground.chain }], guard := none }) (by kernel_rfl) rfl (fun K hK => ?_)
          go_simp
          refine (HPA.out _).mono ?_
          rintro e wq ⟨rfl, hq⟩
          subst hq
          refine hK.out _ _ ?_ (fun hHeld2 => ?_)
          · exact hHeld
          clear hHeld
          have hHeld := hHeld2
          clear hHeld2
          clear hK K
          (try simp only [Act.put, List.setIfInBounds_toArray, List.set_cons_zero, List.set_cons_succ])
          refine wpAnyH_one1 (i := 11) (o := { dst := some 59, op := Op.call { callee := Callee.value (Operand.func 13), args := #[Operand.tmp 51, Operand.tmp 55, Operand.tmp 58], argTypes := #[27, 3, 9] }, type := 33, pos := "law.go:157", after := #[{ on := 3, ground := Ground.data }, { on := 7, ground := Ground.data }, { on := 10, ground := Ground.data }, { on := 7, ground := Ground.chain }], guard := none }) (by kernel_rfl) rfl (fun K hK => ?_)
          go_simp
          refine HW.out.mono ?_
          rintro e w8 ⟨rfl, hd8, hk8, b8⟩
          have K8 := kept_trans (Kept.below HDA.out) hk8 HDA.out.size
          have B8 := (HDA.out.mono s7).trans b8
          refine hK.out _ _ ?_ (fun hHeld2 => ?_)
          · exact (by
              obtain ⟨vj, vk, hcW, -⟩ := HS7.out.1.cells
              exact (K8.blk hcW (by decide) (fun h => h)).cell 0)
          clear hHeld
          have hHeld := hHeld2
          clear hHeld2
          clear hK K
          (try simp only [Act.put, List.setIfInBounds_toArray, List.set_cons_zero, List.set_cons_succ])
          refine wpAnyH_done (by kernel_rfl) ?_ _
          refine NoPanic.normal ?_
          exact ⟨rfl, rfl, hd8, K8, B8⟩
    rintro w8 ⟨hd8, K8, B8⟩
    have HS8 := Lib.hid (And.intro hd8 (And.intro K8 (HS7.out.2.trans B8)))
    have HSI := Lib.hid B8.size
    have s8 := HS8.out.2.2.size
    have hp8 : D7.pend.length ≤ 6 := hp7
    have hcell8 := Lib.hid (show ∃ vj vk, Blk w8 Wb #[.pointer (some ⟨B, 0, none⟩), vj, .pointer (some ⟨R, 0, none⟩), vk] 32 from by
      obtain ⟨vj, vk, hcW, -⟩ := HS7.out.1.cells
      exact ⟨vj, vk, K8.blk hcW (by decide) (fun h => h)⟩)
    clear hd8 K8 B8 HDA HDR HW HCW hcvV
    have HDA := Lib.hid (show Below w8.heap.size w8 (w8.alloc (.cells #[.int .u8 (kb.toNat : Int)] 5)).drew from ((Below.refl _ _).alloc (Nat.le_refl _) _).drew)
    have HDR := Lib.hid (show Below w8.heap.size w8 w8.drew from (Below.refl _ _).drew)
    have hcvV : (convert 39 9 (.slice (some ⟨w8.heap.size, 0, none⟩) 1 1)).run Tryz.prog (w8.alloc (.cells #[.int .u8 (kb.toNat : Int)] 5)).drew = .ok (.string sc) (w8.alloc (.cells #[.int .u8 (kb.toNat : Int)] 5)).drew := HCV.out w8.drew
    have HW := Lib.hid (r_write (W := (w8.alloc (.cells #[.int .u8 (kb.toNat : Int)] 5)).drew) (Duo.below HS8.out.1 HDA.out) (Nat.le_trans s8 HDA.out.size) (by omega) ap sc)
    have HCW := Lib.hid (fun (V : World) (hb : Below w8.heap.size w8 V) => show V.cell? ⟨Wb, 2, none⟩ = some (.pointer (some ⟨R, 0, none⟩)) from by obtain ⟨vj, vk, hcW⟩ := hcell8.out; exact (hcW.below hb hcW.lt).cell 2)
    go_upto_region 9 with (fail)
    apply wp_suchW (fun w' => DuoB w' w1.heap.size N B R (writeD D7 ap sc) (writeD D7 ap sc) ∧ Kept NoX w8 w' ∧ Below w1.heap.size w8 w')
    · skip
      refine wp_region_noPanic ?_
      refine wp_region_held_drew (S := (fun w' => w'.cell? ⟨Wb, 2, none⟩ = some (.pointer (some ⟨R, 0, none⟩)))) (by kernel_rfl) (HCW.out _ HDR.out) (fun hHeld => ?_)
      refine wpAnyH_take (i := 0) (oi := { dst := some 60, op := Op.move (Operand.tmp 12), type := 24, pos := "law.go:158", after := #[], guard := none }) (v := ?_) rfl (by kernel_rfl) (by kernel_rfl) (by kernel_rfl) (fun _ _ _ h => h) (Or.inl ⟨by kernel_rfl, ?_⟩) (by assumption) ?_
      rotate_left
      · intro w hSw
        (try dsimp only at hSw)
        go_simp
        all_goals (with_reducible rfl)
      (try simp only [Act.put, List.setIfInBounds_toArray, List.set_cons_zero, List.set_cons_succ])
      refine wpAnyH_take (i := 1) (oi := { dst := some 61, op := Op.nilCheck (Operand.tmp 60), type := 0, pos := "law.go:158", after := #[{ on := 0, ground := Ground.data }], guard := none }) (v := ?_) rfl (by kernel_rfl) (by kernel_rfl) (by kernel_rfl) (fun _ _ _ h => h) (Or.inl ⟨by kernel_rfl, ?_⟩) (by assumption) ?_
      rotate_left
      · intro w hSw
        (try dsimp only at hSw)
        go_simp
        all_goals (with_reducible rfl)
      (try simp only [Act.put, List.setIfInBounds_toArray, List.set_cons_zero, List.set_cons_succ])
      refine wpAnyH_take (i := 2) (oi := { dst := some 62, op := Op.fieldAddr 32 (Operand.tmp 61) 2, type := 0, pos := "law.go:158", after := #[{ on := 1, ground := Ground.data }], guard := none }) (v := ?_) rfl (by kernel_rfl) (by kernel_rfl) (by kernel_rfl) (fun _ _ _ h => h) (Or.inl ⟨by kernel_rfl, ?_⟩) (by assumption) ?_
      rotate_left
      · intro w hSw
        (try dsimp only at hSw)
        go_simp
        all_goals (with_reducible rfl)
      (try simp only [Act.put, List.setIfInBounds_toArray, List.set_cons_zero, List.set_cons_succ])
      refine wpAnyH_take (i := 3) (oi := { dst := some 63, op := Op.load 29 (Operand.tmp 62), type := 29, pos := "law.go:158", after := #[{ on := 2, ground := Ground.data }], guard := none }) (v := ?_) rfl (by kernel_rfl) (by kernel_rfl) (by kernel_rfl) (fun _ _ _ h => h) (Or.inl ⟨by kernel_rfl, ?_⟩) (by assumption) ?_
      rotate_left
      · intro w hSw
        (try dsimp only at hSw)
        go_simp
        all_goals (with_reducible rfl)
      (try simp only [Act.put, List.setIfInBounds_toArray, List.set_cons_zero, List.set_cons_succ])
      refine wpAnyH_take (i := 4) (oi := { dst := some 64, op := Op.move (Operand.tmp 3), type := 3, pos := "law.go:158", after := #[], guard := none }) (v := ?_) rfl (by kernel_rfl) (by kernel_rfl) (by kernel_rfl) (fun _ _ _ h => h) (Or.inl ⟨by kernel_rfl, ?_⟩) (by assumption) ?_
      rotate_left
      · intro w hSw
        (try dsimp only at hSw)
        go_simp
        all_goals (with_reducible rfl)
      (try simp only [Act.put, List.setIfInBounds_toArray, List.set_cons_zero, List.set_cons_succ])
      refine wpAnyH_take (i := 5) (oi := { dst := some 65, op := Op.move (Operand.tmp 0), type := 3, pos := "law.go:158", after := #[], guard := none }) (v := ?_) rfl (by kernel_rfl) (by kernel_rfl) (by kernel_rfl) (fun _ _ _ h => h) (Or.inl ⟨by kernel_rfl, ?_⟩) (by assumption) ?_
      rotate_left
      · intro w hSw
        (try dsimp only at hSw)
        go_simp
        all_goals (with_reducible rfl)
      (try simp only [Act.put, List.setIfInBounds_toArray, List.set_cons_zero, List.set_cons_succ])
      refine wpAnyH_take (i := 8) (oi := { dst := some 68, op := Op.move (Operand.tmp 4), type := 5, pos := "law.go:158", after := #[], guard := none }) (v := ?_) rfl (by kernel_rfl) (by kernel_rfl) (by kernel_rfl) (fun _ _ _ h => h) (Or.inl ⟨by kernel_rfl, ?_⟩) (by assumption) ?_
      rotate_left
      · intro w hSw
        (try dsimp only at hSw)
        go_simp
        all_goals (with_reducible rfl)
      (try simp only [Act.put, List.setIfInBounds_toArray, List.set_cons_zero, List.set_cons_succ])
      refine wpAnyH_two (i := 6) (j := 9) (oi := { dst := some 66, op := Op.call { callee := Callee.value (Operand.func 15), args := #[Operand.tmp 65], argTypes := #[3] }, type := 3, pos := "law.go:158", after := #[{ on := 5, ground := Ground.data }], guard := none }) (oj := { dst := some 69, op := Op.buildSlice 39 1 #[(0, Operand.tmp 68)], type := 39, pos := "law.go:158", after := #[{ on := 8, ground := Ground.data }], guard := none }) (by kernel_rfl) rfl rfl (fun K hK => ?_) (fun K hK => ?_)
      · skip
        go_simp
        refine (HSZ.out _).mono ?_
        rintro e wq ⟨rfl, hq⟩
        subst hq
        refine hK.out _ _ ?_ (fun hHeld2 => ?_)
        · exact hHeld
        clear hHeld
        have hHeld := hHeld2
        clear hHeld2
        clear hK K
        (try simp only [Act.put, List.setIfInBounds_toArray, List.set_cons_zero, List.set_cons_succ])
        refine wpAnyH_two (i := 7) (j := 9) (oi := { dst := some 67, op := Op.call { callee := Callee.value (Operand.func 14), args := #[Operand.tmp 64, Operand.tmp 66], argTypes := #[3, 3] }, type := 3, pos := "law.go:158", after := #[{ on := 4, ground := Ground.data }, { on := 6, ground := Ground.data }, { on := 6, ground := Ground.chain }], guard := none }) (oj := { dst := some 69, op := Op.buildSlice 39 1 #[(0, Operand.tmp 68)], type := 39, pos := "law.go:158", after := #[{ on := 8, ground := Ground.data }], guard := none }) (by kernel_rfl) rfl rfl (fun K hK => ?_) (fun K hK => ?_)
        · skip
          go_simp
          refine (HPA.out _).mono ?_
          rintro e wq ⟨rfl, hq⟩
          subst hq
          refine hK.out _ _ ?_ (fun hHeld2 => ?_)
          · exact hHeld
          clear hHeld
          have hHeld := hHeld2
          clear hHeld2
          clear hK K
          (try simp only [Act.put, List.setIfInBounds_toArray, List.set_cons_zero, List.set_cons_succ])
          refine wpAnyH_one1 (i := 9) (o := { dst := some 69, op := Op.buildSlice 39 1 #[(0, Operand.tmp 68)], type := 39, pos := "law.go:158", after := #[{ on := 8, ground := Ground.data }], guard := none }) (by kernel_rfl) rfl (fun K hK => ?_)
          go_simp
          refine hK.out _ _ ?_ (fun hHeld2 => ?_)
          · exact HCW.out _ HDA.out
          clear hHeld
          have hHeld := hHeld2
          clear hHeld2
          clear hK K
          (try simp only [Act.put, List.setIfInBounds_toArray, List.set_cons_zero, List.set_cons_succ])
          refine wpAnyH_one1 (i := 10) (o := { dst := some 70, op := Op.convert 39 9 (Operand.tmp 69), type := 9, pos := "law.go:158", after := #[{ on := 9, ground := Ground.data }], guard := none }) (by kernel_rfl) rfl (fun K hK => ?_)
          go_simp
          refine hK.out _ _ ?_ (fun hHeld2 => ?_)
          · exact hHeld
          clear hHeld
          have hHeld := hHeld2
          clear hHeld2
          clear hK K
          (try simp only [Act.put, List.setIfInBounds_toArray, List.set_cons_zero, List.set_cons_succ])
          refine wpAnyH_one1 (i := 11) (o := { dst := some 71, op := Op.call { callee := Callee.value (Operand.func 16), args := #[Operand.tmp 63, Operand.tmp 67, Operand.tmp 70], argTypes := #[29, 3, 9] }, type := 33, pos := "law.go:158", after := #[{ on := 3, ground := Ground.data }, { on := 7, ground := Ground.data }, { on := 10, ground := Ground.data }, { on := 7, ground := Ground.chain }], guard := none }) (by kernel_rfl) rfl (fun K hK => ?_)
          go_simp
          refine HW.out.mono ?_
          rintro e w9 ⟨rfl, hd9, hk9, b9⟩
          have K9 := kept_trans (Kept.below HDA.out) hk9 HDA.out.size
          have B9 := (HDA.out.mono s8).trans b9
          refine hK.out _ _ ?_ (fun hHeld2 => ?_)
          · exact (by
              obtain ⟨vj, vk, hcW⟩ := hcell8.out
              exact (K9.blk hcW (by decide) (fun h => h)).cell 2)
          clear hHeld
          have hHeld := hHeld2
          clear hHeld2
          clear hK K
          (try simp only [Act.put, List.setIfInBounds_toArray, List.set_cons_zero, List.set_cons_succ])
          refine wpAnyH_done (by kernel_rfl) ?_ _
          refine NoPanic.normal ?_
          exact ⟨rfl, rfl, hd9, K9, B9⟩
        · skip
          go_simp
          refine hK.out _ _ ?_ (fun hHeld2 => ?_)
          · exact HCW.out _ HDA.out
          clear hHeld
          have hHeld := hHeld2
          clear hHeld2
          clear hK K
          (try simp only [Act.put, List.setIfInBounds_toArray, List.set_cons_zero, List.set_cons_succ])
          refine wpAnyH_two (i := 7) (j := 10) (oi := { dst := some 67, op := Op.call { callee := Callee.value (Operand.func 14), args := #[Operand.tmp 64, Operand.tmp 66], argTypes := #[3, 3] }, type := 3, pos := "law.go:158", after := #[{ on := 4, ground := Ground.data }, { on := 6, ground := Ground.data }, { on := 6, ground := Ground.chain }], guard := none }) (oj := { dst := some 70, op := Op.convert 39 9 (Operand.tmp 69), type := 9, pos := "law.go:158", after := #[{ on := 9, ground := Ground.data }], guard := none }) (by kernel_rfl) rfl rfl (fun K hK => ?_) (fun K hK => ?_)
          · skip
            go_simp
            refine (HPA.out _).mono ?_
            rintro e wq ⟨rfl, hq⟩
            subst hq
            refine hK.out _ _ ?_ (fun hHeld2 => ?_)
            · exact hHeld
            clear hHeld
            have hHeld := hHeld2
            clear hHeld2
            clear hK K
            (try simp only [Act.put, List.setIfInBounds_toArray, List.set_cons_zero, List.set_cons_succ])
            refine wpAnyH_one1 (i := 10) (o := { dst := some 70, op := Op.convert 39 9 (Operand.tmp 69), type := 9, pos := "law.go:158", after := #[{ on := 9, ground := Ground.data }], guard := none }) (by kernel_rfl) rfl (fun K hK => ?_)
            go_simp
            refine hK.out _ _ ?_ (fun hHeld2 => ?_)
            · exact hHeld
            clear hHeld
            have hHeld := hHeld2
            clear hHeld2
            clear hK K
            (try simp only [Act.put, List.setIfInBounds_toArray, List.set_cons_zero, List.set_cons_succ])
            refine wpAnyH_one1 (i := 11) (o := { dst := some 71, op := Op.call { callee := Callee.value (Operand.func 16), args := #[Operand.tmp 63, Operand.tmp 67, Operand.tmp 70], argTypes := #[29, 3, 9] }, type := 33, pos := "law.go:158", after := #[{ on := 3, ground := Ground.data }, { on := 7, ground := Ground.data }, { on := 10, ground := Ground.data }, { on := 7, ground := Ground.chain }], guard := none }) (by kernel_rfl) rfl (fun K hK => ?_)
            go_simp
            refine HW.out.mono ?_
            rintro e w9 ⟨rfl, hd9, hk9, b9⟩
            have K9 := kept_trans (Kept.below HDA.out) hk9 HDA.out.size
            have B9 := (HDA.out.mono s8).trans b9
            refine hK.out _ _ ?_ (fun hHeld2 => ?_)
            · exact (by
                obtain ⟨vj, vk, hcW⟩ := hcell8.out
                exact (K9.blk hcW (by decide) (fun h => h)).cell 2)
            clear hHeld
            have hHeld := hHeld2
            clear hHeld2
            clear hK K
            (try simp only [Act.put, List.setIfInBounds_toArray, List.set_cons_zero, List.set_cons_succ])
            refine wpAnyH_done (by kernel_rfl) ?_ _
            refine NoPanic.normal ?_
            exact ⟨rfl, rfl, hd9, K9, B9⟩
          · skip
            go_simp
            refine hK.out _ _ ?_ (fun hHeld2 => ?_)
            · exact hHeld
            clear hHeld
            have hHeld := hHeld2
            clear hHeld2
            clear hK K
            (try simp only [Act.put, List.setIfInBounds_toArray, List.set_cons_zero, List.set_cons_succ])
            refine wpAnyH_one1 (i := 7) (o := { dst := some 67, op := Op.call { callee := Callee.value (Operand.func 14), args := #[Operand.tmp 64, Operand.tmp 66], argTypes := #[3, 3] }, type := 3, pos := "law.go:158", after := #[{ on := 4, ground := Ground.data }, { on := 6, ground := Ground.data }, { on := 6, ground := Ground.chain }], guard := none }) (by kernel_rfl) rfl (fun K hK => ?_)
            go_simp
            refine (HPA.out _).mono ?_
            rintro e wq ⟨rfl, hq⟩
            subst hq
            refine hK.out _ _ ?_ (fun hHeld2 => ?_)
            · exact hHeld
            clear hHeld
            have hHeld := hHeld2
            clear hHeld2
            clear hK K
            (try simp only [Act.put, List.setIfInBounds_toArray, List.set_cons_zero, List.set_cons_succ])
            refine wpAnyH_one1 (i := 11) (o := { dst := some 71, op := Op.call { callee := Callee.value (Operand.func 16), args := #[Operand.tmp 63, Operand.tmp 67, Operand.tmp 70], argTypes := #[29, 3, 9] }, type := 33, pos := "law.go:158", after := #[{ on := 3, ground := Ground.data }, { on := 7, ground := Ground.data }, { on := 10, ground := Ground.data }, { on := 7, ground := Ground.chain }], guard := none }) (by kernel_rfl) rfl (fun K hK => ?_)
            go_simp
            refine HW.out.mono ?_
            rintro e w9 ⟨rfl, hd9, hk9, b9⟩
            have K9 := kept_trans (Kept.below HDA.out) hk9 HDA.out.size
            have B9 := (HDA.out.mono s8).trans b9
            refine hK.out _ _ ?_ (fun hHeld2 => ?_)
            · exact (by
                obtain ⟨vj, vk, hcW⟩ := hcell8.out
                exact (K9.blk hcW (by decide) (fun h => h)).cell 2)
            clear hHeld
            have hHeld := hHeld2
            clear hHeld2
            clear hK K
            (try simp only [Act.put, List.setIfInBounds_toArray, List.set_cons_zero, List.set_cons_succ])
            refine wpAnyH_done (by kernel_rfl) ?_ _
            refine NoPanic.normal ?_
            exact ⟨rfl, rfl, hd9, K9, B9⟩
      · skip
        go_simp
        refine hK.out _ _ ?_ (fun hHeld2 => ?_)
        · exact HCW.out _ HDA.out
        clear hHeld
        have hHeld := hHeld2
        clear hHeld2
        clear hK K
        (try simp only [Act.put, List.setIfInBounds_toArray, List.set_cons_zero, List.set_cons_succ])
        refine wpAnyH_two (i := 6) (j := 10) (oi := { dst := some 66, op := Op.call { callee := Callee.value (Operand.func 15), args := #[Operand.tmp 65], argTypes := #[3] }, type := 3, pos := "law.go:158", after := #[{ on := 5, ground := Ground.data }], guard := none }) (oj := { dst := some 70, op := Op.convert 39 9 (Operand.tmp 69), type := 9, pos := "law.go:158", after := #[{ on := 9, ground := Ground.data }], guard := none }) (by kernel_rfl) rfl rfl (fun K hK => ?_) (fun K hK => ?_)
        · skip
          go_simp
          refine (HSZ.out _).mono ?_
          rintro e wq ⟨rfl, hq⟩
          subst hq
          refine hK.out _ _ ?_ (fun hHeld2 => ?_)
          · exact hHeld
          clear hHeld
          have hHeld := hHeld2
          clear hHeld2
          clear hK K
          (try simp only [Act.put, List.setIfInBounds_toArray, List.set_cons_zero, List.set_cons_succ])
          refine wpAnyH_two (i := 7) (j := 10) (oi := { dst := some 67, op := Op.call { callee := Callee.value (Operand.func 14), args := #[Operand.tmp 64, Operand.tmp 66], argTypes := #[3, 3] }, type := 3, pos := "law.go:158", after := #[{ on := 4, ground := Ground.data }, { on := 6, ground := Ground.data }, { on := 6, ground := Ground.chain }], guard := none }) (oj := { dst := some 70, op := Op.convert 39 9 (Operand.tmp 69), type := 9, pos := "law.go:158", after := #[{ on := 9, ground := Ground.data }], guard := none }) (by kernel_rfl) rfl rfl (fun K hK => ?_) (fun K hK => ?_)
          · skip
            go_simp
            refine (HPA.out _).mono ?_
            rintro e wq ⟨rfl, hq⟩
            subst hq
            refine hK.out _ _ ?_ (fun hHeld2 => ?_)
            · exact hHeld
            clear hHeld
            have hHeld := hHeld2
            clear hHeld2
            clear hK K
            (try simp only [Act.put, List.setIfInBounds_toArray, List.set_cons_zero, List.set_cons_succ])
            refine wpAnyH_one1 (i := 10) (o := { dst := some 70, op := Op.convert 39 9 (Operand.tmp 69), type := 9, pos := "law.go:158", after := #[{ on := 9, ground := Ground.data }], guard := none }) (by kernel_rfl) rfl (fun K hK => ?_)
            go_simp
            refine hK.out _ _ ?_ (fun hHeld2 => ?_)
            · exact hHeld
            clear hHeld
            have hHeld := hHeld2
            clear hHeld2
            clear hK K
            (try simp only [Act.put, List.setIfInBounds_toArray, List.set_cons_zero, List.set_cons_succ])
            refine wpAnyH_one1 (i := 11) (o := { dst := some 71, op := Op.call { callee := Callee.value (Operand.func 16), args := #[Operand.tmp 63, Operand.tmp 67, Operand.tmp 70], argTypes := #[29, 3, 9] }, type := 33, pos := "law.go:158", after := #[{ on := 3, ground := Ground.data }, { on := 7, ground := Ground.data }, { on := 10, ground := Ground.data }, { on := 7, ground := Ground.chain }], guard := none }) (by kernel_rfl) rfl (fun K hK => ?_)
            go_simp
            refine HW.out.mono ?_
            rintro e w9 ⟨rfl, hd9, hk9, b9⟩
            have K9 := kept_trans (Kept.below HDA.out) hk9 HDA.out.size
            have B9 := (HDA.out.mono s8).trans b9
            refine hK.out _ _ ?_ (fun hHeld2 => ?_)
            · exact (by
                obtain ⟨vj, vk, hcW⟩ := hcell8.out
                exact (K9.blk hcW (by decide) (fun h => h)).cell 2)
            clear hHeld
            have hHeld := hHeld2
            clear hHeld2
            clear hK K
            (try simp only [Act.put, List.setIfInBounds_toArray, List.set_cons_zero, List.set_cons_succ])
            refine wpAnyH_done (by kernel_rfl) ?_ _
            refine NoPanic.normal ?_
            exact ⟨rfl, rfl, hd9, K9, B9⟩
          · skip
            go_simp
            refine hK.out _ _ ?_ (fun hHeld2 => ?_)
            · exact hHeld
            clear hHeld
            have hHeld := hHeld2
            clear hHeld2
            clear hK K
            (try simp only [Act.put, List.setIfInBounds_toArray, List.set_cons_zero, List.set_cons_succ])
            refine wpAnyH_one1 (i := 7) (o := { dst := some 67, op := Op.call { callee := Callee.value (Operand.func 14), args := #[Operand.tmp 64, Operand.tmp 66], argTypes := #[3, 3] }, type := 3, pos := "law.go:158", after := #[{ on := 4, ground := Ground.data }, { on := 6, ground := Ground.data }, { on := 6, ground := Ground.chain }], guard := none }) (by kernel_rfl) rfl (fun K hK => ?_)
            go_simp
            refine (HPA.out _).mono ?_
            rintro e wq ⟨rfl, hq⟩
            subst hq
            refine hK.out _ _ ?_ (fun hHeld2 => ?_)
            · exact hHeld
            clear hHeld
            have hHeld := hHeld2
            clear hHeld2
            clear hK K
            (try simp only [Act.put, List.setIfInBounds_toArray, List.set_cons_zero, List.set_cons_succ])
            refine wpAnyH_one1 (i := 11) (o := { dst := some 71, op := Op.call { callee := Callee.value (Operand.func 16), args := #[Operand.tmp 63, Operand.tmp 67, Operand.tmp 70], argTypes := #[29, 3, 9] }, type := 33, pos := "law.go:158", after := #[{ on := 3, ground := Ground.data }, { on := 7, ground := Ground.data }, { on := 10, ground := Ground.data }, { on := 7, ground := Ground.chain }], guard := none }) (by kernel_rfl) rfl (fun K hK => ?_)
            go_simp
            refine HW.out.mono ?_
            rintro e w9 ⟨rfl, hd9, hk9, b9⟩
            have K9 := kept_trans (Kept.below HDA.out) hk9 HDA.out.size
            have B9 := (HDA.out.mono s8).trans b9
            refine hK.out _ _ ?_ (fun hHeld2 => ?_)
            · exact (by
                obtain ⟨vj, vk, hcW⟩ := hcell8.out
                exact (K9.blk hcW (by decide) (fun h => h)).cell 2)
            clear hHeld
            have hHeld := hHeld2
            clear hHeld2
            clear hK K
            (try simp only [Act.put, List.setIfInBounds_toArray, List.set_cons_zero, List.set_cons_succ])
            refine wpAnyH_done (by kernel_rfl) ?_ _
            refine NoPanic.normal ?_
            exact ⟨rfl, rfl, hd9, K9, B9⟩
        · skip
          go_simp
          refine hK.out _ _ ?_ (fun hHeld2 => ?_)
          · exact hHeld
          clear hHeld
          have hHeld := hHeld2
          clear hHeld2
          clear hK K
          (try simp only [Act.put, List.setIfInBounds_toArray, List.set_cons_zero, List.set_cons_succ])
          refine wpAnyH_one1 (i := 6) (o := { dst := some 66, op := Op.call { callee := Callee.value (Operand.func 15), args := #[Operand.tmp 65], argTypes := #[3] }, type := 3, pos := "law.go:158", after := #[{ on := 5, ground := Ground.data }], guard := none }) (by kernel_rfl) rfl (fun K hK => ?_)
          go_simp
          refine (HSZ.out _).mono ?_
          rintro e wq ⟨rfl, hq⟩
          subst hq
          refine hK.out _ _ ?_ (fun hHeld2 => ?_)
          · exact hHeld
          clear hHeld
          have hHeld := hHeld2
          clear hHeld2
          clear hK K
          (try simp only [Act.put, List.setIfInBounds_toArray, List.set_cons_zero, List.set_cons_succ])
          refine wpAnyH_one1 (i := 7) (o := { dst := some 67, op := Op.call { callee := Callee.value (Operand.func 14), args := #[Operand.tmp 64, Operand.tmp 66], argTypes := #[3, 3] }, type := 3, pos := "law.go:158", after := #[{ on := 4, ground := Ground.data }, { on := 6, ground := Ground.data }, { on := 6, ground := Ground.chain }], guard := none }) (by kernel_rfl) rfl (fun K hK => ?_)
          go_simp
          refine (HPA.out _).mono ?_
          rintro e wq ⟨rfl, hq⟩
          subst hq
          refine hK.out _ _ ?_ (fun hHeld2 => ?_)
          · exact hHeld
          clear hHeld
          have hHeld := hHeld2
          clear hHeld2
          clear hK K
          (try simp only [Act.put, List.setIfInBounds_toArray, List.set_cons_zero, List.set_cons_succ])
          refine wpAnyH_one1 (i := 11) (o := { dst := some 71, op := Op.call { callee := Callee.value (Operand.func 16), args := #[Operand.tmp 63, Operand.tmp 67, Operand.tmp 70], argTypes := #[29, 3, 9] }, type := 33, pos := "law.go:158", after := #[{ on := 3, ground := Ground.data }, { on := 7, ground := Ground.data }, { on := 10, ground := Ground.data }, { on := 7, ground := Ground.chain }], guard := none }) (by kernel_rfl) rfl (fun K hK => ?_)
          go_simp
          refine HW.out.mono ?_
          rintro e w9 ⟨rfl, hd9, hk9, b9⟩
          have K9 := kept_trans (Kept.below HDA.out) hk9 HDA.out.size
          have B9 := (HDA.out.mono s8).trans b9
          refine hK.out _ _ ?_ (fun hHeld2 => ?_)
          · exact (by
              obtain ⟨vj, vk, hcW⟩ := hcell8.out
              exact (K9.blk hcW (by decide) (fun h => h)).cell 2)
          clear hHeld
          have hHeld := hHeld2
          clear hHeld2
          clear hK K
          (try simp only [Act.put, List.setIfInBounds_toArray, List.set_cons_zero, List.set_cons_succ])
          refine wpAnyH_done (by kernel_rfl) ?_ _
          refine NoPanic.normal ?_
          exact ⟨rfl, rfl, hd9, K9, B9⟩
    rintro wz ⟨hdz, Kz, Bz⟩
    have HSZZ := Lib.hid (And.intro (HS7.out.1.kept hdz (kept_trans HS8.out.2.1 Kz HSI.out)) (HS8.out.2.2.trans Bz))
    have hpZ : (writeD D7 ap sc).pend.length ≤ 10 := by have := pend_write' D7 ap sc; omega
    have HONZ := Lib.hid (HON7.out.write ap sc)
    clear hdz Kz Bz HDA HDR HW HCW hcvV HS7 HS8 hcell8 hp8 hp7 HON7
    generalize writeD D7 ap sc = DZ at HSZZ hpZ HONZ
    generalize writeE D7 ap sc = eZ
  rotate_left
  focus
    have d0 : decide ((0 : Int) < (l.length : Int)) = false := decide_eq_false (by omega)
    have d0b : decide (0 < l.length) = false := decide_eq_false hl0
    have hmin2 : (0 : Int) ≤ min (s.size : Int) (N : Int) ∧ min (s.size : Int) (N : Int) ≤ (s.size : Int) := by omega
    obtain ⟨m, hm⟩ : ∃ m : Nat, min (s.size : Int) (N : Int) = (m : Int) := ⟨(min (s.size : Int) (N : Int)).toNat, by omega⟩
    have hm1 : (if (N : Int) < (s.size : Int) then (N : Int) else (s.size : Int)) = (m : Int) := by rw [← hm]; split <;> omega
    have hmi : (0 : Int) ≤ (m : Int) ∧ (m : Int) ≤ (s.size : Int) := by omega
    have hmn : m ≤ s.size := by omega
    clear hmin2
    have HDR := Lib.hid (show Below w2.heap.size w2 w2.drew from (Below.refl _ _).drew)
    have HCW := Lib.hid (fun (V : World) (hb : Below w2.heap.size w2 V) => show V.cell? ⟨Wb, 0, none⟩ = some (.pointer (some ⟨B, 0, none⟩)) from by obtain ⟨vj, vk, hcW, -⟩ := HS2.out.1.cells; exact (hcW.below hb hcW.lt).cell 0)
    obtain ⟨sx, hsx⟩ : ∃ x, s.extract 0 m = x := ⟨_, rfl⟩
    have HW := Lib.hid (d_write (W := w2.drew) (HS2.out.1.duo.below HDR.out) (Nat.le_trans s2 HDR.out.size) (by omega) 0 sx)
    go_upto_region 10 with (fail)
    refine wp_region_noPanic ?_
    refine wp_region_held_drew (S := (fun w' => w'.cell? ⟨Wb, 0, none⟩ = some (.pointer (some ⟨B, 0, none⟩)))) (by kernel_rfl) (HCW.out _ HDR.out) (fun hHeld => ?_)
    refine wpAnyH_take (i := 0) (oi := { dst := some 72, op := Op.move (Operand.tmp 12), type := 24, pos := "law.go:160", after := #[], guard := none }) (v := ?_) rfl (by kernel_rfl) (by kernel_rfl) (by kernel_rfl) (fun _ _ _ h => h) (Or.inl ⟨by kernel_rfl, ?_⟩) (by assumption) ?_
    rotate_left
    · intro w hSw
      (try dsimp only at hSw)
      go_simp
      all_goals (with_reducible rfl)
    (try simp only [Act.put, List.setIfInBounds_toArray, List.set_cons_zero, List.set_cons_succ])
    refine wpAnyH_take (i := 1) (oi := { dst := some 73, op := Op.nilCheck (Operand.tmp 72), type := 0, pos := "law.go:160", after := #[{ on := 0, ground := Ground.data }], guard := none }) (v := ?_) rfl (by kernel_rfl) (by kernel_rfl) (by kernel_rfl) (fun _ _ _ h => h) (Or.inl ⟨by kernel_rfl, ?_⟩) (by assumption) ?_
    rotate_left
    · intro w hSw
      (try dsimp only at hSw)
      go_simp
      all_goals (with_reducible rfl)
    (try simp only [Act.put, List.setIfInBounds_toArray, List.set_cons_zero, List.set_cons_succ])
    refine wpAnyH_take (i := 2) (oi := { dst := some 74, op := Op.fieldAddr 32 (Operand.tmp 73) 0, type := 0, pos := "law.go:160", after := #[{ on := 1, ground := Ground.data }], guard := none }) (v := ?_) rfl (by kernel_rfl) (by kernel_rfl) (by kernel_rfl) (fun _ _ _ h => h) (Or.inl ⟨by kernel_rfl, ?_⟩) (by assumption) ?_
    rotate_left
    · intro w hSw
      (try dsimp only at hSw)
      go_simp
      all_goals (with_reducible rfl)
    (try simp only [Act.put, List.setIfInBounds_toArray, List.set_cons_zero, List.set_cons_succ])
    refine wpAnyH_take (i := 3) (oi := { dst := some 75, op := Op.load 27 (Operand.tmp 74), type := 27, pos := "law.go:160", after := #[{ on := 2, ground := Ground.data }], guard := none }) (v := ?_) rfl (by kernel_rfl) (by kernel_rfl) (by kernel_rfl) (fun _ _ _ h => h) (Or.inl ⟨by kernel_rfl, ?_⟩) (by assumption) ?_
    rotate_left
    · intro w hSw
      (try dsimp only at hSw)
      go_simp
      all_goals (with_reducible rfl)
    (try simp only [Act.put, List.setIfInBounds_toArray, List.set_cons_zero, List.set_cons_succ])
    refine wpAnyH_take (i := 4) (oi := { dst := some 76, op := Op.move (Operand.tmp 1), type := 9, pos := "law.go:160", after := #[], guard := none }) (v := ?_) rfl (by kernel_rfl) (by kernel_rfl) (by kernel_rfl) (fun _ _ _ h => h) (Or.inl ⟨by kernel_rfl, ?_⟩) (by assumption) ?_
    rotate_left
    · intro w hSw
      (try dsimp only at hSw)
      go_simp
      all_goals (with_reducible rfl)
    (try simp only [Act.put, List.setIfInBounds_toArray, List.set_cons_zero, List.set_cons_succ])
    refine wpAnyH_take (i := 5) (oi := { dst := some 77, op := Op.move (Operand.tmp 1), type := 9, pos := "law.go:160", after := #[], guard := none }) (v := ?_) rfl (by kernel_rfl) (by kernel_rfl) (by kernel_rfl) (fun _ _ _ h => h) (Or.inl ⟨by kernel_rfl, ?_⟩) (by assumption) ?_
    rotate_left
    · intro w hSw
      (try dsimp only at hSw)
      go_simp
      all_goals (with_reducible rfl)
    (try simp only [Act.put, List.setIfInBounds_toArray, List.set_cons_zero, List.set_cons_succ])
    refine wpAnyH_take (i := 6) (oi := { dst := some 78, op := Op.call { callee := Callee.builtin Builtin.len, args := #[Operand.tmp 77], argTypes := #[9] }, type := 3, pos := "law.go:160", after := #[{ on := 5, ground := Ground.data }], guard := none }) (v := ?_) rfl (by kernel_rfl) (by kernel_rfl) (by kernel_rfl) (fun _ _ _ h => h) (Or.inl ⟨by kernel_rfl, ?_⟩) (by assumption) ?_
    rotate_left
    · intro w hSw
      (try dsimp only at hSw)
      go_simp
      all_goals (with_reducible rfl)
    (try simp only [Act.put, List.setIfInBounds_toArray, List.set_cons_zero, List.set_cons_succ])
    refine wpAnyH_take (i := 7) (oi := { dst := some 79, op := Op.move (Operand.tmp 0), type := 3, pos := "law.go:160", after := #[], guard := none }) (v := ?_) rfl (by kernel_rfl) (by kernel_rfl) (by kernel_rfl) (fun _ _ _ h => h) (Or.inl ⟨by kernel_rfl, ?_⟩) (by assumption) ?_
    rotate_left
    · intro w hSw
      (try dsimp only at hSw)
      go_simp
      all_goals (with_reducible rfl)
    (try simp only [Act.put, List.setIfInBounds_toArray, List.set_cons_zero, List.set_cons_succ])
    refine wpAnyH_one1 (i := 8) (o := { dst := some 80, op := Op.call { callee := Callee.value (Operand.func 15), args := #[Operand.tmp 79], argTypes := #[3] }, type := 3, pos := "law.go:160", after := #[{ on := 7, ground := Ground.data }], guard := none }) (by kernel_rfl) rfl (fun K hK => ?_)
    go_simp
    refine (HSZ.out _).mono ?_
    rintro e wq ⟨rfl, hq⟩
    subst hq
    refine hK.out _ _ ?_ (fun hHeld2 => ?_)
    · exact hHeld
    clear hHeld
    have hHeld := hHeld2
    clear hHeld2
    clear hK K
    (try simp only [Act.put, List.setIfInBounds_toArray, List.set_cons_zero, List.set_cons_succ])
    refine wpAnyH_take (i := 9) (oi := { dst := some 81, op := Op.call { callee := Callee.builtin Builtin.min, args := #[Operand.tmp 78, Operand.tmp 80], argTypes := #[3, 3] }, type := 3, pos := "law.go:160", after := #[{ on := 6, ground := Ground.data }, { on := 8, ground := Ground.data }], guard := none }) (v := ?_) rfl (by kernel_rfl) (by kernel_rfl) (by kernel_rfl) (fun _ _ _ h => h) (Or.inl ⟨by kernel_rfl, ?_⟩) (by assumption) ?_
    rotate_left
    · intro w hSw
      (try dsimp only at hSw)
      go_simp
      all_goals (with_reducible rfl)
    (try simp only [Act.put, List.setIfInBounds_toArray, List.set_cons_zero, List.set_cons_succ])
    refine wpAnyH_take (i := 10) (oi := { dst := some 82, op := Op.slice 9 (Operand.tmp 76) none (some (Operand.tmp 81)) none, type := 9, pos := "law.go:160", after := #[{ on := 4, ground := Ground.data }, { on := 9, ground := Ground.data }], guard := none }) (v := ?_) rfl (by kernel_rfl) (by kernel_rfl) (by kernel_rfl) (fun _ _ _ h => h) (Or.inl ⟨by kernel_rfl, ?_⟩) (by assumption) ?_
    rotate_left
    · intro w hSw
      (try dsimp only at hSw)
      go_simp
      all_goals (with_reducible rfl)
    (try simp only [Act.put, List.setIfInBounds_toArray, List.set_cons_zero, List.set_cons_succ])
    refine wpAnyH_one1 (i := 11) (o := { dst := some 83, op := Op.call { callee := Callee.value (Operand.func 13), args := #[Operand.tmp 75, Operand.const (Value.int IntKind.i64 0), Operand.tmp 82], argTypes := #[27, 3, 9] }, type := 33, pos := "law.go:160", after := #[{ on := 3, ground := Ground.data }, { on := 10, ground := Ground.data }, { on := 8, ground := Ground.chain }], guard := none }) (by kernel_rfl) rfl (fun K hK => ?_)
    go_simp
    (try rw [hsx])
    refine HW.out.mono ?_
    rintro e w8 ⟨rfl, hd8, hk8, b8⟩
    have K8 := kept_trans (Kept.below HDR.out) hk8 HDR.out.size
    have B8 := (HDR.out.mono s2).trans b8
    refine hK.out _ _ ?_ (fun hHeld2 => ?_)
    · exact (by
        obtain ⟨vj, vk, hcW, -⟩ := HS2.out.1.cells
        exact (K8.blk hcW (by decide) (fun h => h)).cell 0)
    clear hHeld
    have hHeld := hHeld2
    clear hHeld2
    clear hK K
    (try simp only [Act.put, List.setIfInBounds_toArray, List.set_cons_zero, List.set_cons_succ])
    refine wpAnyH_done (by kernel_rfl) ?_ _
    refine NoPanic.normal ?_
    have HS8 := Lib.hid (And.intro hd8 (And.intro K8 (HS2.out.2.trans B8)))
    have HSI := Lib.hid B8.size
    have s8 := HS8.out.2.2.size
    have hcell8 := Lib.hid (show ∃ vj vk, Blk w8 Wb #[.pointer (some ⟨B, 0, none⟩), vj, .pointer (some ⟨R, 0, none⟩), vk] 32 from by
      obtain ⟨vj, vk, hcW, -⟩ := HS2.out.1.cells
      exact ⟨vj, vk, K8.blk hcW (by decide) (fun h => h)⟩)
    clear hHeld hd8 hk8 b8 K8 B8 HDR HW HCW
    have HDR := Lib.hid (show Below w8.heap.size w8 w8.drew from (Below.refl _ _).drew)
    have HCW := Lib.hid (fun (V : World) (hb : Below w8.heap.size w8 V) => show V.cell? ⟨Wb, 2, none⟩ = some (.pointer (some ⟨R, 0, none⟩)) from by obtain ⟨vj, vk, hcW⟩ := hcell8.out; exact (hcW.below hb hcW.lt).cell 2)
    have HW := Lib.hid (r_write (W := w8.drew) (Duo.below HS8.out.1 HDR.out) (Nat.le_trans s8 HDR.out.size) (by omega) 0 sx)
    go_upto_region 11 with (fail)
    refine wp_region_noPanic ?_
    refine wp_region_held_drew (S := (fun w' => w'.cell? ⟨Wb, 2, none⟩ = some (.pointer (some ⟨R, 0, none⟩)))) (by kernel_rfl) (HCW.out _ HDR.out) (fun hHeld => ?_)
    refine wpAnyH_take (i := 0) (oi := { dst := some 84, op := Op.move (Operand.tmp 12), type := 24, pos := "law.go:161", after := #[], guard := none }) (v := ?_) rfl (by kernel_rfl) (by kernel_rfl) (by kernel_rfl) (fun _ _ _ h => h) (Or.inl ⟨by kernel_rfl, ?_⟩) (by assumption) ?_
    rotate_left
    · intro w hSw
      (try dsimp only at hSw)
      go_simp
      all_goals (with_reducible rfl)
    (try simp only [Act.put, List.setIfInBounds_toArray, List.set_cons_zero, List.set_cons_succ])
    refine wpAnyH_take (i := 1) (oi := { dst := some 85, op := Op.nilCheck (Operand.tmp 84), type := 0, pos := "law.go:161", after := #[{ on := 0, ground := Ground.data }], guard := none }) (v := ?_) rfl (by kernel_rfl) (by kernel_rfl) (by kernel_rfl) (fun _ _ _ h => h) (Or.inl ⟨by kernel_rfl, ?_⟩) (by assumption) ?_
    rotate_left
    · intro w hSw
      (try dsimp only at hSw)
      go_simp
      all_goals (with_reducible rfl)
    (try simp only [Act.put, List.setIfInBounds_toArray, List.set_cons_zero, List.set_cons_succ])
    refine wpAnyH_take (i := 2) (oi := { dst := some 86, op := Op.fieldAddr 32 (Operand.tmp 85) 2, type := 0, pos := "law.go:161", after := #[{ on := 1, ground := Ground.data }], guard := none }) (v := ?_) rfl (by kernel_rfl) (by kernel_rfl) (by kernel_rfl) (fun _ _ _ h => h) (Or.inl ⟨by kernel_rfl, ?_⟩) (by assumption) ?_
    rotate_left
    · intro w hSw
      (try dsimp only at hSw)
      go_simp
      all_goals (with_reducible rfl)
    (try simp only [Act.put, List.setIfInBounds_toArray, List.set_cons_zero, List.set_cons_succ])
    refine wpAnyH_take (i := 3) (oi := { dst := some 87, op := Op.load 29 (Operand.tmp 86), type := 29, pos := "law.go:161", after := #[{ on := 2, ground := Ground.data }], guard := none }) (v := ?_) rfl (by kernel_rfl) (by kernel_rfl) (by kernel_rfl) (fun _ _ _ h => h) (Or.inl ⟨by kernel_rfl, ?_⟩) (by assumption) ?_
    rotate_left
    · intro w hSw
      (try dsimp only at hSw)
      go_simp
      all_goals (with_reducible rfl)
    (try simp only [Act.put, List.setIfInBounds_toArray, List.set_cons_zero, List.set_cons_succ])
    refine wpAnyH_take (i := 4) (oi := { dst := some 88, op := Op.move (Operand.tmp 1), type := 9, pos := "law.go:161", after := #[], guard := none }) (v := ?_) rfl (by kernel_rfl) (by kernel_rfl) (by kernel_rfl) (fun _ _ _ h => h) (Or.inl ⟨by kernel_rfl, ?_⟩) (by assumption) ?_
    rotate_left
    · intro w hSw
      (try dsimp only at hSw)
      go_simp
      all_goals (with_reducible rfl)
    (try simp only [Act.put, List.setIfInBounds_toArray, List.set_cons_zero, List.set_cons_succ])
    refine wpAnyH_take (i := 5) (oi := { dst := some 89, op := Op.move (Operand.tmp 1), type := 9, pos := "law.go:161", after := #[], guard := none }) (v := ?_) rfl (by kernel_rfl) (by kernel_rfl) (by kernel_rfl) (fun _ _ _ h => h) (Or.inl ⟨by kernel_rfl, ?_⟩) (by assumption) ?_
    rotate_left
    · intro w hSw
      (try dsimp only at hSw)
      go_simp
      all_goals (with_reducible rfl)
    (try simp only [Act.put, List.setIfInBounds_toArray, List.set_cons_zero, List.set_cons_succ])
    refine wpAnyH_take (i := 6) (oi := { dst := some 90, op := Op.call { callee := Callee.builtin Builtin.len, args := #[Operand.tmp 89], argTypes := #[9] }, type := 3, pos := "law.go:161", after := #[{ on := 5, ground := Ground.data }], guard := none }) (v := ?_) rfl (by kernel_rfl) (by kernel_rfl) (by kernel_rfl) (fun _ _ _ h => h) (Or.inl ⟨by kernel_rfl, ?_⟩) (by assumption) ?_
    rotate_left
    · intro w hSw
      (try dsimp only at hSw)
      go_simp
      all_goals (with_reducible rfl)
    (try simp only [Act.put, List.setIfInBounds_toArray, List.set_cons_zero, List.set_cons_succ])
    refine wpAnyH_take (i := 7) (oi := { dst := some 91, op := Op.move (Operand.tmp 0), type := 3, pos := "law.go:161", after := #[], guard := none }) (v := ?_) rfl (by kernel_rfl) (by kernel_rfl) (by kernel_rfl) (fun _ _ _ h => h) (Or.inl ⟨by kernel_rfl, ?_⟩) (by assumption) ?_
    rotate_left
    · intro w hSw
      (try dsimp only at hSw)
      go_simp
      all_goals (with_reducible rfl)
    (try simp only [Act.put, List.setIfInBounds_toArray, List.set_cons_zero, List.set_cons_succ])
    refine wpAnyH_one1 (i := 8) (o := { dst := some 92, op := Op.call { callee := Callee.value (Operand.func 15), args := #[Operand.tmp 91], argTypes := #[3] }, type := 3, pos := "law.go:161", after := #[{ on := 7, ground := Ground.data }], guard := none }) (by kernel_rfl) rfl (fun K hK => ?_)
    go_simp
    refine (HSZ.out _).mono ?_
    rintro e wq ⟨rfl, hq⟩
    subst hq
    refine hK.out _ _ ?_ (fun hHeld2 => ?_)
    · exact hHeld
    clear hHeld
    have hHeld := hHeld2
    clear hHeld2
    clear hK K
    (try simp only [Act.put, List.setIfInBounds_toArray, List.set_cons_zero, List.set_cons_succ])
    refine wpAnyH_take (i := 9) (oi := { dst := some 93, op := Op.call { callee := Callee.builtin Builtin.min, args := #[Operand.tmp 90, Operand.tmp 92], argTypes := #[3, 3] }, type := 3, pos := "law.go:161", after := #[{ on := 6, ground := Ground.data }, { on := 8, ground := Ground.data }], guard := none }) (v := ?_) rfl (by kernel_rfl) (by kernel_rfl) (by kernel_rfl) (fun _ _ _ h => h) (Or.inl ⟨by kernel_rfl, ?_⟩) (by assumption) ?_
    rotate_left
    · intro w hSw
      (try dsimp only at hSw)
      go_simp
      all_goals (with_reducible rfl)
    (try simp only [Act.put, List.setIfInBounds_toArray, List.set_cons_zero, List.set_cons_succ])
    refine wpAnyH_take (i := 10) (oi := { dst := some 94, op := Op.slice 9 (Operand.tmp 88) none (some (Operand.tmp 93)) none, type := 9, pos := "law.go:161", after := #[{ on := 4, ground := Ground.data }, { on := 9, ground := Ground.data }], guard := none }) (v := ?_) rfl (by kernel_rfl) (by kernel_rfl) (by kernel_rfl) (fun _ _ _ h => h) (Or.inl ⟨by kernel_rfl, ?_⟩) (by assumption) ?_
    rotate_left
    · intro w hSw
      (try dsimp only at hSw)
      go_simp
      all_goals (with_reducible rfl)
    (try simp only [Act.put, List.setIfInBounds_toArray, List.set_cons_zero, List.set_cons_succ])
    refine wpAnyH_one1 (i := 11) (o := { dst := some 95, op := Op.call { callee := Callee.value (Operand.func 16), args := #[Operand.tmp 87, Operand.const (Value.int IntKind.i64 0), Operand.tmp 94], argTypes := #[29, 3, 9] }, type := 33, pos := "law.go:161", after := #[{ on := 3, ground := Ground.data }, { on := 10, ground := Ground.data }, { on := 8, ground := Ground.chain }], guard := none }) (by kernel_rfl) rfl (fun K hK => ?_)
    go_simp
    (try rw [hsx])
    refine HW.out.mono ?_
    rintro e wz ⟨rfl, hdz, hkz, bz⟩
    have Kz := kept_trans (Kept.below HDR.out) hkz HDR.out.size
    have Bz := (HDR.out.mono s8).trans bz
    refine hK.out _ _ ?_ (fun hHeld2 => ?_)
    · exact (by
        obtain ⟨vj, vk, hcW⟩ := hcell8.out
        exact (Kz.blk hcW (by decide) (fun h => h)).cell 2)
    clear hHeld
    have hHeld := hHeld2
    clear hHeld2
    clear hK K
    (try simp only [Act.put, List.setIfInBounds_toArray, List.set_cons_zero, List.set_cons_succ])
    refine wpAnyH_done (by kernel_rfl) ?_ _
    refine NoPanic.normal ?_
    have HSZZ := Lib.hid (And.intro (HS2.out.1.kept hdz (kept_trans HS8.out.2.1 Kz HSI.out)) (HS8.out.2.2.trans Bz))
    have hpZ : (writeD D1 0 sx).pend.length ≤ 10 := by have := pend_write' D1 0 sx; omega
    have HONZ := Lib.hid (HON.out.write 0 sx)
    clear hHeld hdz hkz bz Kz Bz HDR HW HCW HS8 hcell8 HS2 HON hp1
    generalize writeD D1 0 sx = DZ at HSZZ hpZ HONZ
    generalize writeE D1 0 sx = eZ
  all_goals
    skip
    have sz := HSZZ.out.2.size
    have HOP := Lib.hid (open17 HSZZ.out.1 sz (HEE.out _ HSZZ.out.2) (by omega) (by omega))
    have hop5 := open_pend N DZ
    have HON5 := Lib.hid (HONZ.out.open N)
    have HOJ5 := Lib.hid (openedJ_ok (DuoB.inv HSZZ.out.1.duo))
    generalize openD N DZ = D5 at HOP hop5 HON5
    generalize openedJ N DZ = oj5 at HOP HOJ5
    go_wp2_with fail
    refine HOP.out.mono ?_
    rintro e w5 ⟨rfl, hS5, b5⟩
    have HX := Lib.hid (And.intro hS5 (HSZZ.out.2.trans b5))
    have sx5 := HX.out.2.size
    have HDX := Lib.hid (show Below w5.heap.size w5 w5.drew from (Below.refl _ _).drew)
    clear hS5 b5 HOP HSZZ HONZ
    cases oj5 with
    | none =>
      obtain ⟨v1, v2, hcW, rfl, rfl⟩ := HX.out.1.cells
      have HCX := Lib.hid (fun (V : World) (hb : Below w5.heap.size w5 V) => show V.cell? ⟨Wb, 1, none⟩ = some (.pointer none) from (hcW.below hb hcW.lt).cell 1)
      clear hcW
      go_upto_region 13 with (fail)
      refine wp_region_noPanic ?_
      refine wp_region_held_drew (S := (fun w' => w'.cell? ⟨Wb, 1, none⟩ = some (.pointer none))) (by kernel_rfl) (HCX.out _ HDX.out) (fun hHeld => ?_)
      refine wpAnyH_take (i := 0) (oi := { dst := some 98, op := Op.move (Operand.tmp 11), type := 4, pos := "law.go:164", after := #[], guard := none }) (v := ?_) rfl (by kernel_rfl) (by kernel_rfl) (by kernel_rfl) (fun _ _ _ h => h) (Or.inl ⟨by kernel_rfl, ?_⟩) (by assumption) ?_
      rotate_left
      · intro w hSw
        (try dsimp only at hSw)
        go_simp
        all_goals (with_reducible rfl)
      (try simp only [Act.put, List.setIfInBounds_toArray, List.set_cons_zero, List.set_cons_succ])
      refine wpAnyH_take (i := 1) (oi := { dst := some 99, op := Op.move (Operand.tmp 98), type := 4, pos := "law.go:164", after := #[{ on := 0, ground := Ground.data }], guard := none }) (v := ?_) rfl (by kernel_rfl) (by kernel_rfl) (by kernel_rfl) (fun _ _ _ h => h) (Or.inl ⟨by kernel_rfl, ?_⟩) (by assumption) ?_
      rotate_left
      · intro w hSw
        (try dsimp only at hSw)
        go_simp
        all_goals (with_reducible rfl)
      (try simp only [Act.put, List.setIfInBounds_toArray, List.set_cons_zero, List.set_cons_succ])
      refine wpAnyH_take (i := 2) (oi := { dst := some 100, op := Op.move (Operand.tmp 14), type := 4, pos := "law.go:164", after := #[{ on := 1, ground := Ground.guard }], guard := some (1, true) }) (v := ?_) rfl (by kernel_rfl) (by kernel_rfl) (by kernel_rfl) (fun _ _ _ h => h) (Or.inl ⟨by kernel_rfl, ?_⟩) (by assumption) ?_
      rotate_left
      · intro w hSw
        (try dsimp only at hSw)
        go_simp
        all_goals (with_reducible rfl)
      (try simp only [Act.put, List.setIfInBounds_toArray, List.set_cons_zero, List.set_cons_succ])
      refine wpAnyH_take (i := 3) (oi := { dst := some 101, op := Op.pick (Operand.tmp 99) (Operand.tmp 100) (Operand.const (Value.bool false)), type := 4, pos := "law.go:164", after := #[{ on := 1, ground := Ground.data }, { on := 2, ground := Ground.data }], guard := none }) (v := ?_) rfl (by kernel_rfl) (by kernel_rfl) (by kernel_rfl) (fun _ _ _ h => h) (Or.inl ⟨by kernel_rfl, ?_⟩) (by assumption) ?_
      rotate_left
      · intro w hSw
        (try dsimp only at hSw)
        go_simp
        all_goals (with_reducible rfl)
      (try simp only [Act.put, List.setIfInBounds_toArray, List.set_cons_zero, List.set_cons_succ])
      refine wpAnyH_take (i := 4) (oi := { dst := some 102, op := Op.move (Operand.tmp 101), type := 4, pos := "law.go:164", after := #[{ on := 3, ground := Ground.data }, { on := 1, ground := Ground.chain }], guard := none }) (v := ?_) rfl (by kernel_rfl) (by kernel_rfl) (by kernel_rfl) (fun _ _ _ h => h) (Or.inl ⟨by kernel_rfl, ?_⟩) (by assumption) ?_
      rotate_left
      · intro w hSw
        (try dsimp only at hSw)
        go_simp
        all_goals (with_reducible rfl)
      (try simp only [Act.put, List.setIfInBounds_toArray, List.set_cons_zero, List.set_cons_succ])
      refine wpAnyH_take (i := 5) (oi := { dst := some 103, op := Op.move (Operand.tmp 12), type := 24, pos := "law.go:164", after := #[{ on := 4, ground := Ground.guard }], guard := some (4, true) }) (v := ?_) rfl (by kernel_rfl) (by kernel_rfl) (by kernel_rfl) (fun _ _ _ h => h) (Or.inl ⟨by kernel_rfl, ?_⟩) (by assumption) ?_
      rotate_left
      · intro w hSw
        (try dsimp only at hSw)
        go_simp
        all_goals (with_reducible rfl)
      (try simp only [Act.put, List.setIfInBounds_toArray, List.set_cons_zero, List.set_cons_succ])
      refine wpAnyH_take (i := 6) (oi := { dst := some 104, op := Op.nilCheck (Operand.tmp 103), type := 0, pos := "law.go:164", after := #[{ on := 5, ground := Ground.data }, { on := 4, ground := Ground.guard }], guard := some (4, true) }) (v := ?_) rfl (by kernel_rfl) (by kernel_rfl) (by kernel_rfl) (fun _ _ _ h => h) (Or.inl ⟨by kernel_rfl, ?_⟩) (by assumption) ?_
      rotate_left
      · intro w hSw
        (try dsimp only at hSw)
        go_simp
        all_goals (with_reducible rfl)
      (try simp only [Act.put, List.setIfInBounds_toArray, List.set_cons_zero, List.set_cons_succ])
      refine wpAnyH_take (i := 7) (oi := { dst := some 105, op := Op.fieldAddr 32 (Operand.tmp 104) 1, type := 0, pos := "law.go:164", after := #[{ on := 6, ground := Ground.data }, { on := 4, ground := Ground.guard }], guard := some (4, true) }) (v := ?_) rfl (by kernel_rfl) (by kernel_rfl) (by kernel_rfl) (fun _ _ _ h => h) (Or.inl ⟨by kernel_rfl, ?_⟩) (by assumption) ?_
      rotate_left
      · intro w hSw
        (try dsimp only at hSw)
        go_simp
        all_goals (with_reducible rfl)
      (try simp only [Act.put, List.setIfInBounds_toArray, List.set_cons_zero, List.set_cons_succ])
      refine wpAnyH_take (i := 8) (oi := { dst := some 106, op := Op.load 28 (Operand.tmp 105), type := 28, pos := "law.go:164", after := #[{ on := 7, ground := Ground.data }, { on := 4, ground := Ground.guard }], guard := some (4, true) }) (v := ?_) rfl (by kernel_rfl) (by kernel_rfl) (by kernel_rfl) (fun _ _ _ h => h) (Or.inl ⟨by kernel_rfl, ?_⟩) (by assumption) ?_
      rotate_left
      · intro w hSw
        (try dsimp only at hSw)
        go_simp
        all_goals (with_reducible rfl)
      (try simp only [Act.put, List.setIfInBounds_toArray, List.set_cons_zero, List.set_cons_succ])
      refine wpAnyH_take (i := 9) (oi := { dst := some 107, op := Op.binOp BinOp.eql 28 (Operand.tmp 106) (Operand.const (Value.pointer none)) 28, type := 4, pos := "law.go:164", after := #[{ on := 8, ground := Ground.data }, { on := 4, ground := Ground.guard }], guard := some (4, true) }) (v := ?_) rfl (by kernel_rfl) (by kernel_rfl) (by kernel_rfl) (fun _ _ _ h => h) (Or.inl ⟨by kernel_rfl, ?_⟩) (by assumption) ?_
      rotate_left
      · intro w hSw
        (try dsimp only at hSw)
        go_simp
        all_goals (with_reducible rfl)
      (try simp only [Act.put, List.setIfInBounds_toArray, List.set_cons_zero, List.set_cons_succ])
      refine wpAnyH_take (i := 10) (oi := { dst := some 108, op := Op.move (Operand.tmp 107), type := 4, pos := "law.go:164", after := #[{ on := 9, ground := Ground.data }, { on := 4, ground := Ground.chain }, { on := 4, ground := Ground.guard }], guard := some (4, true) }) (v := ?_) rfl (by kernel_rfl) (by kernel_rfl) (by kernel_rfl) (fun _ _ _ h => h) (Or.inl ⟨by kernel_rfl, ?_⟩) (by assumption) ?_
      rotate_left
      · intro w hSw
        (try dsimp only at hSw)
        go_simp
        all_goals (with_reducible rfl)
      (try simp only [Act.put, List.setIfInBounds_toArray, List.set_cons_zero, List.set_cons_succ])
      refine wpAnyH_take (i := 11) (oi := { dst := some 109, op := Op.move (Operand.tmp 12), type := 24, pos := "law.go:164", after := #[{ on := 10, ground := Ground.guard }], guard := some (10, false) }) (v := undef) rfl (by kernel_rfl) (by kernel_rfl) (by kernel_rfl) (fun _ _ _ h => h) (Or.inr ⟨by kernel_rfl, rfl⟩) (by assumption) ?_
      (try simp only [Act.put, List.setIfInBounds_toArray, List.set_cons_zero, List.set_cons_succ])
      refine wpAnyH_take (i := 12) (oi := { dst := some 110, op := Op.nilCheck (Operand.tmp 109), type := 0, pos := "law.go:164", after := #[{ on := 11, ground := Ground.data }, { on := 10, ground := Ground.guard }], guard := some (10, false) }) (v := undef) rfl (by kernel_rfl) (by kernel_rfl) (by kernel_rfl) (fun _ _ _ h => h) (Or.inr ⟨by kernel_rfl, rfl⟩) (by assumption) ?_
      (try simp only [Act.put, List.setIfInBounds_toArray, List.set_cons_zero, List.set_cons_succ])
      refine wpAnyH_take (i := 13) (oi := { dst := some 111, op := Op.fieldAddr 32 (Operand.tmp 110) 1, type := 0, pos := "law.go:164", after := #[{ on := 12, ground := Ground.data }, { on := 10, ground := Ground.guard }], guard := some (10, false) }) (v := undef) rfl (by kernel_rfl) (by kernel_rfl) (by kernel_rfl) (fun _ _ _ h => h) (Or.inr ⟨by kernel_rfl, rfl⟩) (by assumption) ?_
      (try simp only [Act.put, List.setIfInBounds_toArray, List.set_cons_zero, List.set_cons_succ])
      refine wpAnyH_take (i := 14) (oi := { dst := some 112, op := Op.load 28 (Operand.tmp 111), type := 28, pos := "law.go:164", after := #[{ on := 13, ground := Ground.data }, { on := 10, ground := Ground.guard }], guard := some (10, false) }) (v := undef) rfl (by kernel_rfl) (by kernel_rfl) (by kernel_rfl) (fun _ _ _ h => h) (Or.inr ⟨by kernel_rfl, rfl⟩) (by assumption) ?_
      (try simp only [Act.put, List.setIfInBounds_toArray, List.set_cons_zero, List.set_cons_succ])
      refine wpAnyH_take (i := 15) (oi := { dst := some 113, op := Op.call { callee := Callee.value (Operand.func 19), args := #[Operand.tmp 112], argTypes := #[28] }, type := 22, pos := "law.go:164", after := #[{ on := 14, ground := Ground.data }, { on := 10, ground := Ground.chain }, { on := 10, ground := Ground.guard }], guard := some (10, false) }) (v := undef) rfl (by kernel_rfl) (by kernel_rfl) (by kernel_rfl) (fun _ _ _ h => h) (Or.inr ⟨by kernel_rfl, rfl⟩) (by assumption) ?_
      (try simp only [Act.put, List.setIfInBounds_toArray, List.set_cons_zero, List.set_cons_succ])
      refine wpAnyH_take (i := 16) (oi := { dst := some 114, op := Op.move (Operand.tmp 12), type := 24, pos := "law.go:164", after := #[{ on := 10, ground := Ground.guard }], guard := some (10, false) }) (v := undef) rfl (by kernel_rfl) (by kernel_rfl) (by kernel_rfl) (fun _ _ _ h => h) (Or.inr ⟨by kernel_rfl, rfl⟩) (by assumption) ?_
      (try simp only [Act.put, List.setIfInBounds_toArray, List.set_cons_zero, List.set_cons_succ])
      refine wpAnyH_take (i := 17) (oi := { dst := some 115, op := Op.nilCheck (Operand.tmp 114), type := 0, pos := "law.go:164", after := #[{ on := 16, ground := Ground.data }, { on := 10, ground := Ground.guard }], guard := some (10, false) }) (v := undef) rfl (by kernel_rfl) (by kernel_rfl) (by kernel_rfl) (fun _ _ _ h => h) (Or.inr ⟨by kernel_rfl, rfl⟩) (by assumption) ?_
      (try simp only [Act.put, List.setIfInBounds_toArray, List.set_cons_zero, List.set_cons_succ])
      refine wpAnyH_take (i := 18) (oi := { dst := some 116, op := Op.fieldAddr 32 (Operand.tmp 115) 3, type := 0, pos := "law.go:164", after := #[{ on := 17, ground := Ground.data }, { on := 10, ground := Ground.guard }], guard := some (10, false) }) (v := undef) rfl (by kernel_rfl) (by kernel_rfl) (by kernel_rfl) (fun _ _ _ h => h) (Or.inr ⟨by kernel_rfl, rfl⟩) (by assumption) ?_
      (try simp only [Act.put, List.setIfInBounds_toArray, List.set_cons_zero, List.set_cons_succ])
      refine wpAnyH_take (i := 19) (oi := { dst := some 117, op := Op.load 30 (Operand.tmp 116), type := 30, pos := "law.go:164", after := #[{ on := 18, ground := Ground.data }, { on := 10, ground := Ground.guard }], guard := some (10, false) }) (v := undef) rfl (by kernel_rfl) (by kernel_rfl) (by kernel_rfl) (fun _ _ _ h => h) (Or.inr ⟨by kernel_rfl, rfl⟩) (by assumption) ?_
      (try simp only [Act.put, List.setIfInBounds_toArray, List.set_cons_zero, List.set_cons_succ])
      refine wpAnyH_take (i := 20) (oi := { dst := some 118, op := Op.nilCheck (Operand.tmp 117), type := 0, pos := "law.go:164", after := #[{ on := 19, ground := Ground.data }, { on := 10, ground := Ground.guard }], guard := some (10, false) }) (v := undef) rfl (by kernel_rfl) (by kernel_rfl) (by kernel_rfl) (fun _ _ _ h => h) (Or.inr ⟨by kernel_rfl, rfl⟩) (by assumption) ?_
      (try simp only [Act.put, List.setIfInBounds_toArray, List.set_cons_zero, List.set_cons_succ])
      refine wpAnyH_take (i := 21) (oi := { dst := some 119, op := Op.fieldAddr 43 (Operand.tmp 118) 1, type := 0, pos := "law.go:164", after := #[{ on := 20, ground := Ground.data }, { on := 10, ground := Ground.guard }], guard := some (10, false) }) (v := undef) rfl (by kernel_rfl) (by kernel_rfl) (by kernel_rfl) (fun _ _ _ h => h) (Or.inr ⟨by kernel_rfl, rfl⟩) (by assumption) ?_
      (try simp only [Act.put, List.setIfInBounds_toArray, List.set_cons_zero, List.set_cons_succ])
      refine wpAnyH_take (i := 22) (oi := { dst := some 120, op := Op.load 22 (Operand.tmp 119), type := 22, pos := "law.go:164", after := #[{ on := 21, ground := Ground.data }, { on := 10, ground := Ground.guard }], guard := some (10, false) }) (v := undef) rfl (by kernel_rfl) (by kernel_rfl) (by kernel_rfl) (fun _ _ _ h => h) (Or.inr ⟨by kernel_rfl, rfl⟩) (by assumption) ?_
      (try simp only [Act.put, List.setIfInBounds_toArray, List.set_cons_zero, List.set_cons_succ])
      refine wpAnyH_take (i := 23) (oi := { dst := some 121, op := Op.call { callee := Callee.value (Operand.func 18), args := #[Operand.tmp 113, Operand.tmp 120], argTypes := #[22, 22] }, type := 4, pos := "law.go:164", after := #[{ on := 15, ground := Ground.data }, { on := 22, ground := Ground.data }, { on := 15, ground := Ground.chain }, { on := 10, ground := Ground.guard }], guard := some (10, false) }) (v := undef) rfl (by kernel_rfl) (by kernel_rfl) (by kernel_rfl) (fun _ _ _ h => h) (Or.inr ⟨by kernel_rfl, rfl⟩) (by assumption) ?_
      (try simp only [Act.put, List.setIfInBounds_toArray, List.set_cons_zero, List.set_cons_succ])
      refine wpAnyH_take (i := 24) (oi := { dst := some 122, op := Op.move (Operand.tmp 121), type := 4, pos := "law.go:164", after := #[{ on := 23, ground := Ground.data }, { on := 23, ground := Ground.chain }, { on := 10, ground := Ground.guard }], guard := some (10, false) }) (v := undef) rfl (by kernel_rfl) (by kernel_rfl) (by kernel_rfl) (fun _ _ _ h => h) (Or.inr ⟨by kernel_rfl, rfl⟩) (by assumption) ?_
      (try simp only [Act.put, List.setIfInBounds_toArray, List.set_cons_zero, List.set_cons_succ])
      refine wpAnyH_take (i := 25) (oi := { dst := some 123, op := Op.move (Operand.tmp 12), type := 24, pos := "law.go:164", after := #[{ on := 24, ground := Ground.guard }], guard := some (24, true) }) (v := undef) rfl (by kernel_rfl) (by kernel_rfl) (by kernel_rfl) (fun _ _ _ h => h) (Or.inr ⟨by kernel_rfl, rfl⟩) (by assumption) ?_
      (try simp only [Act.put, List.setIfInBounds_toArray, List.set_cons_zero, List.set_cons_succ])
      refine wpAnyH_take (i := 26) (oi := { dst := some 124, op := Op.nilCheck (Operand.tmp 123), type := 0, pos := "law.go:164", after := #[{ on := 25, ground := Ground.data }, { on := 24, ground := Ground.guard }], guard := some (24, true) }) (v := undef) rfl (by kernel_rfl) (by kernel_rfl) (by kernel_rfl) (fun _ _ _ h => h) (Or.inr ⟨by kernel_rfl, rfl⟩) (by assumption) ?_
      (try simp only [Act.put, List.setIfInBounds_toArray, List.set_cons_zero, List.set_cons_succ])
      refine wpAnyH_take (i := 27) (oi := { dst := some 125, op := Op.fieldAddr 32 (Operand.tmp 124) 1, type := 0, pos := "law.go:164", after := #[{ on := 26, ground := Ground.data }, { on := 24, ground := Ground.guard }], guard := some (24, true) }) (v := undef) rfl (by kernel_rfl) (by kernel_rfl) (by kernel_rfl) (fun _ _ _ h => h) (Or.inr ⟨by kernel_rfl, rfl⟩) (by assumption) ?_
      (try simp only [Act.put, List.setIfInBounds_toArray, List.set_cons_zero, List.set_cons_succ])
      refine wpAnyH_take (i := 28) (oi := { dst := some 126, op := Op.load 28 (Operand.tmp 125), type := 28, pos := "law.go:164", after := #[{ on := 27, ground := Ground.data }, { on := 24, ground := Ground.guard }], guard := some (24, true) }) (v := undef) rfl (by kernel_rfl) (by kernel_rfl) (by kernel_rfl) (fun _ _ _ h => h) (Or.inr ⟨by kernel_rfl, rfl⟩) (by assumption) ?_
      (try simp only [Act.put, List.setIfInBounds_toArray, List.set_cons_zero, List.set_cons_succ])
      refine wpAnyH_take (i := 29) (oi := { dst := some 127, op := Op.call { callee := Callee.value (Operand.func 20), args := #[Operand.tmp 126], argTypes := #[28] }, type := 3, pos := "law.go:164", after := #[{ on := 28, ground := Ground.data }, { on := 24, ground := Ground.chain }, { on := 24, ground := Ground.guard }], guard := some (24, true) }) (v := undef) rfl (by kernel_rfl) (by kernel_rfl) (by kernel_rfl) (fun _ _ _ h => h) (Or.inr ⟨by kernel_rfl, rfl⟩) (by assumption) ?_
      (try simp only [Act.put, List.setIfInBounds_toArray, List.set_cons_zero, List.set_cons_succ])
      refine wpAnyH_take (i := 30) (oi := { dst := some 128, op := Op.move (Operand.tmp 12), type := 24, pos := "law.go:164", after := #[{ on := 24, ground := Ground.guard }], guard := some (24, true) }) (v := undef) rfl (by kernel_rfl) (by kernel_rfl) (by kernel_rfl) (fun _ _ _ h => h) (Or.inr ⟨by kernel_rfl, rfl⟩) (by assumption) ?_
      (try simp only [Act.put, List.setIfInBounds_toArray, List.set_cons_zero, List.set_cons_succ])
      refine wpAnyH_take (i := 31) (oi := { dst := some 129, op := Op.nilCheck (Operand.tmp 128), type := 0, pos := "law.go:164", after := #[{ on := 30, ground := Ground.data }, { on := 24, ground := Ground.guard }], guard := some (24, true) }) (v := undef) rfl (by kernel_rfl) (by kernel_rfl) (by kernel_rfl) (fun _ _ _ h => h) (Or.inr ⟨by kernel_rfl, rfl⟩) (by assumption) ?_
      (try simp only [Act.put, List.setIfInBounds_toArray, List.set_cons_zero, List.set_cons_succ])
      refine wpAnyH_take (i := 32) (oi := { dst := some 130, op := Op.fieldAddr 32 (Operand.tmp 129) 3, type := 0, pos := "law.go:164", after := #[{ on := 31, ground := Ground.data }, { on := 24, ground := Ground.guard }], guard := some (24, true) }) (v := undef) rfl (by kernel_rfl) (by kernel_rfl) (by kernel_rfl) (fun _ _ _ h => h) (Or.inr ⟨by kernel_rfl, rfl⟩) (by assumption) ?_
      (try simp only [Act.put, List.setIfInBounds_toArray, List.set_cons_zero, List.set_cons_succ])
      refine wpAnyH_take (i := 33) (oi := { dst := some 131, op := Op.load 30 (Operand.tmp 130), type := 30, pos := "law.go:164", after := #[{ on := 32, ground := Ground.data }, { on := 24, ground := Ground.guard }], guard := some (24, true) }) (v := undef) rfl (by kernel_rfl) (by kernel_rfl) (by kernel_rfl) (fun _ _ _ h => h) (Or.inr ⟨by kernel_rfl, rfl⟩) (by assumption) ?_
      (try simp only [Act.put, List.setIfInBounds_toArray, List.set_cons_zero, List.set_cons_succ])
      refine wpAnyH_take (i := 34) (oi := { dst := some 132, op := Op.call { callee := Callee.value (Operand.func 21), args := #[Operand.tmp 131], argTypes := #[30] }, type := 3, pos := "law.go:164", after := #[{ on := 33, ground := Ground.data }, { on := 29, ground := Ground.chain }, { on := 24, ground := Ground.guard }], guard := some (24, true) }) (v := undef) rfl (by kernel_rfl) (by kernel_rfl) (by kernel_rfl) (fun _ _ _ h => h) (Or.inr ⟨by kernel_rfl, rfl⟩) (by assumption) ?_
      (try simp only [Act.put, List.setIfInBounds_toArray, List.set_cons_zero, List.set_cons_succ])
      refine wpAnyH_take (i := 35) (oi := { dst := some 133, op := Op.binOp BinOp.eql 3 (Operand.tmp 127) (Operand.tmp 132) 3, type := 4, pos := "law.go:164", after := #[{ on := 29, ground := Ground.data }, { on := 34, ground := Ground.data }, { on := 24, ground := Ground.guard }], guard := some (24, true) }) (v := undef) rfl (by kernel_rfl) (by kernel_rfl) (by kernel_rfl) (fun _ _ _ h => h) (Or.inr ⟨by kernel_rfl, rfl⟩) (by assumption) ?_
      (try simp only [Act.put, List.setIfInBounds_toArray, List.set_cons_zero, List.set_cons_succ])
      refine wpAnyH_take (i := 36) (oi := { dst := some 134, op := Op.pick (Operand.tmp 122) (Operand.tmp 133) (Operand.const (Value.bool false)), type := 4, pos := "law.go:164", after := #[{ on := 24, ground := Ground.data }, { on := 35, ground := Ground.data }, { on := 10, ground := Ground.guard }], guard := some (10, false) }) (v := undef) rfl (by kernel_rfl) (by kernel_rfl) (by kernel_rfl) (fun _ _ _ h => h) (Or.inr ⟨by kernel_rfl, rfl⟩) (by assumption) ?_
      (try simp only [Act.put, List.setIfInBounds_toArray, List.set_cons_zero, List.set_cons_succ])
      refine wpAnyH_take (i := 37) (oi := { dst := some 135, op := Op.move (Operand.tmp 134), type := 4, pos := "law.go:164", after := #[{ on := 36, ground := Ground.data }, { on := 34, ground := Ground.chain }, { on := 10, ground := Ground.guard }], guard := some (10, false) }) (v := undef) rfl (by kernel_rfl) (by kernel_rfl) (by kernel_rfl) (fun _ _ _ h => h) (Or.inr ⟨by kernel_rfl, rfl⟩) (by assumption) ?_
      (try simp only [Act.put, List.setIfInBounds_toArray, List.set_cons_zero, List.set_cons_succ])
      refine wpAnyH_take (i := 38) (oi := { dst := some 136, op := Op.move (Operand.tmp 12), type := 24, pos := "law.go:164", after := #[{ on := 37, ground := Ground.guard }], guard := some (37, true) }) (v := undef) rfl (by kernel_rfl) (by kernel_rfl) (by kernel_rfl) (fun _ _ _ h => h) (Or.inr ⟨by kernel_rfl, rfl⟩) (by assumption) ?_
      (try simp only [Act.put, List.setIfInBounds_toArray, List.set_cons_zero, List.set_cons_succ])
      refine wpAnyH_take (i := 39) (oi := { dst := some 137, op := Op.nilCheck (Operand.tmp 136), type := 0, pos := "law.go:164", after := #[{ on := 38, ground := Ground.data }, { on := 37, ground := Ground.guard }], guard := some (37, true) }) (v := undef) rfl (by kernel_rfl) (by kernel_rfl) (by kernel_rfl) (fun _ _ _ h => h) (Or.inr ⟨by kernel_rfl, rfl⟩) (by assumption) ?_
      (try simp only [Act.put, List.setIfInBounds_toArray, List.set_cons_zero, List.set_cons_succ])
      refine wpAnyH_take (i := 40) (oi := { dst := some 138, op := Op.fieldAddr 32 (Operand.tmp 137) 0, type := 0, pos := "law.go:164", after := #[{ on := 39, ground := Ground.data }, { on := 37, ground := Ground.guard }], guard := some (37, true) }) (v := undef) rfl (by kernel_rfl) (by kernel_rfl) (by kernel_rfl) (fun _ _ _ h => h) (Or.inr ⟨by kernel_rfl, rfl⟩) (by assumption) ?_
      (try simp only [Act.put, List.setIfInBounds_toArray, List.set_cons_zero, List.set_cons_succ])
      refine wpAnyH_take (i := 41) (oi := { dst := some 139, op := Op.load 27 (Operand.tmp 138), type := 27, pos := "law.go:164", after := #[{ on := 40, ground := Ground.data }, { on := 37, ground := Ground.guard }], guard := some (37, true) }) (v := undef) rfl (by kernel_rfl) (by kernel_rfl) (by kernel_rfl) (fun _ _ _ h => h) (Or.inr ⟨by kernel_rfl, rfl⟩) (by assumption) ?_
      (try simp only [Act.put, List.setIfInBounds_toArray, List.set_cons_zero, List.set_cons_succ])
      refine wpAnyH_take (i := 42) (oi := { dst := some 140, op := Op.call { callee := Callee.value (Operand.func 22), args := #[Operand.tmp 139], argTypes := #[27] }, type := 9, pos := "law.go:164", after := #[{ on := 41, ground := Ground.data }, { on := 37, ground := Ground.chain }, { on := 37, ground := Ground.guard }], guard := some (37, true) }) (v := undef) rfl (by kernel_rfl) (by kernel_rfl) (by kernel_rfl) (fun _ _ _ h => h) (Or.inr ⟨by kernel_rfl, rfl⟩) (by assumption) ?_
      (try simp only [Act.put, List.setIfInBounds_toArray, List.set_cons_zero, List.set_cons_succ])
      refine wpAnyH_take (i := 43) (oi := { dst := some 141, op := Op.move (Operand.tmp 12), type := 24, pos := "law.go:164", after := #[{ on := 37, ground := Ground.guard }], guard := some (37, true) }) (v := undef) rfl (by kernel_rfl) (by kernel_rfl) (by kernel_rfl) (fun _ _ _ h => h) (Or.inr ⟨by kernel_rfl, rfl⟩) (by assumption) ?_
      (try simp only [Act.put, List.setIfInBounds_toArray, List.set_cons_zero, List.set_cons_succ])
      refine wpAnyH_take (i := 44) (oi := { dst := some 142, op := Op.nilCheck (Operand.tmp 141), type := 0, pos := "law.go:164", after := #[{ on := 43, ground := Ground.data }, { on := 37, ground := Ground.guard }], guard := some (37, true) }) (v := undef) rfl (by kernel_rfl) (by kernel_rfl) (by kernel_rfl) (fun _ _ _ h => h) (Or.inr ⟨by kernel_rfl, rfl⟩) (by assumption) ?_
      (try simp only [Act.put, List.setIfInBounds_toArray, List.set_cons_zero, List.set_cons_succ])
      refine wpAnyH_take (i := 45) (oi := { dst := some 143, op := Op.fieldAddr 32 (Operand.tmp 142) 2, type := 0, pos := "law.go:164", after := #[{ on := 44, ground := Ground.data }, { on := 37, ground := Ground.guard }], guard := some (37, true) }) (v := undef) rfl (by kernel_rfl) (by kernel_rfl) (by kernel_rfl) (fun _ _ _ h => h) (Or.inr ⟨by kernel_rfl, rfl⟩) (by assumption) ?_
      (try simp only [Act.put, List.setIfInBounds_toArray, List.set_cons_zero, List.set_cons_succ])
      refine wpAnyH_take (i := 46) (oi := { dst := some 144, op := Op.load 29 (Operand.tmp 143), type := 29, pos := "law.go:164", after := #[{ on := 45, ground := Ground.data }, { on := 37, ground := Ground.guard }], guard := some (37, true) }) (v := undef) rfl (by kernel_rfl) (by kernel_rfl) (by kernel_rfl) (fun _ _ _ h => h) (Or.inr ⟨by kernel_rfl, rfl⟩) (by assumption) ?_
      (try simp only [Act.put, List.setIfInBounds_toArray, List.set_cons_zero, List.set_cons_succ])
      refine wpAnyH_take (i := 47) (oi := { dst := some 145, op := Op.call { callee := Callee.value (Operand.func 23), args := #[Operand.tmp 144], argTypes := #[29] }, type := 39, pos := "law.go:164", after := #[{ on := 46, ground := Ground.data }, { on := 42, ground := Ground.chain }, { on := 37, ground := Ground.guard }], guard := some (37, true) }) (v := undef) rfl (by kernel_rfl) (by kernel_rfl) (by kernel_rfl) (fun _ _ _ h => h) (Or.inr ⟨by kernel_rfl, rfl⟩) (by assumption) ?_
      (try simp only [Act.put, List.setIfInBounds_toArray, List.set_cons_zero, List.set_cons_succ])
      refine wpAnyH_take (i := 48) (oi := { dst := some 146, op := Op.convert 39 9 (Operand.tmp 145), type := 9, pos := "law.go:164", after := #[{ on := 47, ground := Ground.data }, { on := 37, ground := Ground.guard }], guard := some (37, true) }) (v := undef) rfl (by kernel_rfl) (by kernel_rfl) (by kernel_rfl) (fun _ _ _ h => h) (Or.inr ⟨by kernel_rfl, rfl⟩) (by assumption) ?_
      (try simp only [Act.put, List.setIfInBounds_toArray, List.set_cons_zero, List.set_cons_succ])
      refine wpAnyH_take (i := 49) (oi := { dst := some 147, op := Op.binOp BinOp.eql 9 (Operand.tmp 140) (Operand.tmp 146) 9, type := 4, pos := "law.go:164", after := #[{ on := 42, ground := Ground.data }, { on := 48, ground := Ground.data }, { on := 37, ground := Ground.guard }], guard := some (37, true) }) (v := undef) rfl (by kernel_rfl) (by kernel_rfl) (by kernel_rfl) (fun _ _ _ h => h) (Or.inr ⟨by kernel_rfl, rfl⟩) (by assumption) ?_
      (try simp only [Act.put, List.setIfInBounds_toArray, List.set_cons_zero, List.set_cons_succ])
      refine wpAnyH_take (i := 50) (oi := { dst := some 148, op := Op.pick (Operand.tmp 135) (Operand.tmp 147) (Operand.const (Value.bool false)), type := 4, pos := "law.go:164", after := #[{ on := 37, ground := Ground.data }, { on := 49, ground := Ground.data }, { on := 10, ground := Ground.guard }], guard := some (10, false) }) (v := undef) rfl (by kernel_rfl) (by kernel_rfl) (by kernel_rfl) (fun _ _ _ h => h) (Or.inr ⟨by kernel_rfl, rfl⟩) (by assumption) ?_
      (try simp only [Act.put, List.setIfInBounds_toArray, List.set_cons_zero, List.set_cons_succ])
      refine wpAnyH_take (i := 51) (oi := { dst := some 149, op := Op.pick (Operand.tmp 108) (Operand.const (Value.bool true)) (Operand.tmp 148), type := 4, pos := "law.go:164", after := #[{ on := 10, ground := Ground.data }, { on := 50, ground := Ground.data }, { on := 4, ground := Ground.guard }], guard := some (4, true) }) (v := ?_) rfl (by kernel_rfl) (by kernel_rfl) (by kernel_rfl) (fun _ _ _ h => h) (Or.inl ⟨by kernel_rfl, ?_⟩) (by assumption) ?_
      rotate_left
      · intro w hSw
        (try dsimp only at hSw)
        go_simp
        all_goals (with_reducible rfl)
      (try simp only [Act.put, List.setIfInBounds_toArray, List.set_cons_zero, List.set_cons_succ])
      refine wpAnyH_take (i := 52) (oi := { dst := some 150, op := Op.pick (Operand.tmp 102) (Operand.tmp 149) (Operand.const (Value.bool false)), type := 4, pos := "law.go:164", after := #[{ on := 4, ground := Ground.data }, { on := 51, ground := Ground.data }], guard := none }) (v := ?_) rfl (by kernel_rfl) (by kernel_rfl) (by kernel_rfl) (fun _ _ _ h => h) (Or.inl ⟨by kernel_rfl, ?_⟩) (by assumption) ?_
      rotate_left
      · intro w hSw
        (try dsimp only at hSw)
        go_simp
        all_goals (with_reducible rfl)
      (try simp only [Act.put, List.setIfInBounds_toArray, List.set_cons_zero, List.set_cons_succ])
      refine wpAnyH_take (i := 53) (oi := { dst := some 10, op := Op.assign (Operand.tmp 150), type := 4, pos := "law.go:164", after := #[{ on := 52, ground := Ground.data }, { on := 47, ground := Ground.chain }, { on := 0, ground := Ground.phase }, { on := 1, ground := Ground.phase }, { on := 2, ground := Ground.phase }, { on := 3, ground := Ground.phase }, { on := 4, ground := Ground.phase }, { on := 5, ground := Ground.phase }, { on := 6, ground := Ground.phase }, { on := 7, ground := Ground.phase }, { on := 8, ground := Ground.phase }, { on := 9, ground := Ground.phase }, { on := 10, ground := Ground.phase }, { on := 11, ground := Ground.phase }, { on := 12, ground := Ground.phase }, { on := 13, ground := Ground.phase }, { on := 14, ground := Ground.phase }, { on := 15, ground := Ground.phase }, { on := 16, ground := Ground.phase }, { on := 17, ground := Ground.phase }, { on := 18, ground := Ground.phase }, { on := 19, ground := Ground.phase }, { on := 20, ground := Ground.phase }, { on := 21, ground := Ground.phase }, { on := 22, ground := Ground.phase }, { on := 23, ground := Ground.phase }, { on := 24, ground := Ground.phase }, { on := 25, ground := Ground.phase }, { on := 26, ground := Ground.phase }, { on := 27, ground := Ground.phase }, { on := 28, ground := Ground.phase }, { on := 29, ground := Ground.phase }, { on := 30, ground := Ground.phase }, { on := 31, ground := Ground.phase }, { on := 32, ground := Ground.phase }, { on := 33, ground := Ground.phase }, { on := 34, ground := Ground.phase }, { on := 35, ground := Ground.phase }, { on := 36, ground := Ground.phase }, { on := 37, ground := Ground.phase }, { on := 38, ground := Ground.phase }, { on := 39, ground := Ground.phase }, { on := 40, ground := Ground.phase }, { on := 41, ground := Ground.phase }, { on := 42, ground := Ground.phase }, { on := 43, ground := Ground.phase }, { on := 44, ground := Ground.phase }, { on := 45, ground := Ground.phase }, { on := 46, ground := Ground.phase }, { on := 47, ground := Ground.phase }, { on := 48, ground := Ground.phase }, { on := 49, ground := Ground.phase }, { on := 50, ground := Ground.phase }, { on := 51, ground := Ground.phase }, { on := 52, ground := Ground.phase }], guard := none }) (v := ?_) rfl (by kernel_rfl) (by kernel_rfl) (by kernel_rfl) (fun _ _ _ h => h) (Or.inl ⟨by kernel_rfl, ?_⟩) (by assumption) ?_
      rotate_left
      · intro w hSw
        (try dsimp only at hSw)
        go_simp
        all_goals (with_reducible rfl)
      (try simp only [Act.put, List.setIfInBounds_toArray, List.set_cons_zero, List.set_cons_succ])
      refine wpAnyH_done (by kernel_rfl) ?_ _
      refine NoPanic.normal ?_
      have HFN := Lib.hid (HB1.out.trans ((HX.out.2.trans (HDX.out.mono sx5)).mono HB1.out.size))
      clear hHeld
      go_wp2
      go_ret
      exact ⟨rfl, HFN.out⟩
    | some J =>
      obtain ⟨v1, v2, hcW, Jb, Kb, rfl, rfl, hJb, hKb, hJ, hK⟩ := HX.out.1.cells
      obtain ⟨vs, vl2, hRA, hRI, -⟩ := HX.out.1.duo.r2
      have hok := HOJ5.out J rfl
      have hfit := hok.fit
      have hln := tapeN_len J.L
      have HJJ := Lib.hid (And.intro (hJ.below HDX.out) (hK.below HDX.out))
      have HRA := Lib.hid (And.intro hRA hRI)
      obtain ⟨vr, hbK, hoK⟩ := hK.ex
      have HBK := Lib.hid (And.intro hbK hoK)
      have HCX := Lib.hid (fun (V : World) (hb : Below w5.heap.size w5 V) => show V.cell? ⟨Wb, 0, none⟩ = some (.pointer (some ⟨B, 0, none⟩)) ∧ V.cell? ⟨Wb, 1, none⟩ = some (.pointer (some ⟨Jb, 0, none⟩)) ∧ V.cell? ⟨Wb, 2, none⟩ = some (.pointer (some ⟨R, 0, none⟩)) ∧ V.cell? ⟨Wb, 3, none⟩ = some (.pointer (some ⟨Kb, 0, none⟩)) ∧ V.cell? ⟨Kb, 1, none⟩ = some vr from
        ⟨(hcW.below hb hcW.lt).cell 0, (hcW.below hb hcW.lt).cell 1, (hcW.below hb hcW.lt).cell 2, (hcW.below hb hcW.lt).cell 3, (HBK.out.1.below hb HBK.out.1.lt).cell 1⟩)
      have HCT := Lib.hid (fun (V : World) (hb : Below w5.heap.size w5 V) => show Calls Tryz.prog 22 #[.pointer (some ⟨B, 0, none⟩)] V fun e w' => e = .returned (.string (strOf D5.vis)) ∧ V = w' from by
        have := content22 (OwnF.below HX.out.1.duo.o1 hb)
        rw [read_on HRA.out.2 HON5.out.1] at this
        exact this)
      have HVI := Lib.hid (fun (V : World) (hb : Below w5.heap.size w5 V) => visible_any (HRA.out.1.below hb) HRA.out.2 (by omega))
      have HCV2 := Lib.hid (fun (V : World) (bs g c : Nat) (ho : V.ownsRow bs 5 1 (.slice (some ⟨g, 0, none⟩) N c) N (bcs D5.vis)) => conv_vis ho)
      generalize strOf D5.vis = vv at HCT HCV2
      clear hJ hK hbK hoK hJb hKb hok hcW hRA hRI
      go_upto_region 13 with (fail)
      refine wp_region_noPanic ?_
      refine wp_region_held_drew (S := (fun w' => w'.cell? ⟨Wb, 0, none⟩ = some (.pointer (some ⟨B, 0, none⟩)) ∧ w'.cell? ⟨Wb, 1, none⟩ = some (.pointer (some ⟨Jb, 0, none⟩)) ∧ w'.cell? ⟨Wb, 2, none⟩ = some (.pointer (some ⟨R, 0, none⟩)) ∧ w'.cell? ⟨Wb, 3, none⟩ = some (.pointer (some ⟨Kb, 0, none⟩)) ∧ w'.cell? ⟨Kb, 1, none⟩ = some vr)) (by kernel_rfl) (HCX.out _ HDX.out) (fun hHeld => ?_)
      refine wpAnyH_take (i := 0) (oi := { dst := some 98, op := Op.move (Operand.tmp 11), type := 4, pos := "law.go:164", after := #[], guard := none }) (v := ?_) rfl (by kernel_rfl) (by kernel_rfl) (by kernel_rfl) (fun _ _ _ h => h) (Or.inl ⟨by kernel_rfl, ?_⟩) (by assumption) ?_
      rotate_left
      · intro w hSw
        (try dsimp only at hSw)
        go_simp
        all_goals (with_reducible rfl)
      (try simp only [Act.put, List.setIfInBounds_toArray, List.set_cons_zero, List.set_cons_succ])
      refine wpAnyH_take (i := 1) (oi := { dst := some 99, op := Op.move (Operand.tmp 98), type := 4, pos := "law.go:164", after := #[{ on := 0, ground := Ground.data }], guard := none }) (v := ?_) rfl (by kernel_rfl) (by kernel_rfl) (by kernel_rfl) (fun _ _ _ h => h) (Or.inl ⟨by kernel_rfl, ?_⟩) (by assumption) ?_
      rotate_left
      · intro w hSw
        (try dsimp only at hSw)
        go_simp
        all_goals (with_reducible rfl)
      (try simp only [Act.put, List.setIfInBounds_toArray, List.set_cons_zero, List.set_cons_succ])
      refine wpAnyH_take (i := 2) (oi := { dst := some 100, op := Op.move (Operand.tmp 14), type := 4, pos := "law.go:164", after := #[{ on := 1, ground := Ground.guard }], guard := some (1, true) }) (v := ?_) rfl (by kernel_rfl) (by kernel_rfl) (by kernel_rfl) (fun _ _ _ h => h) (Or.inl ⟨by kernel_rfl, ?_⟩) (by assumption) ?_
      rotate_left
      · intro w hSw
        (try dsimp only at hSw)
        go_simp
        all_goals (with_reducible rfl)
      (try simp only [Act.put, List.setIfInBounds_toArray, List.set_cons_zero, List.set_cons_succ])
      refine wpAnyH_take (i := 3) (oi := { dst := some 101, op := Op.pick (Operand.tmp 99) (Operand.tmp 100) (Operand.const (Value.bool false)), type := 4, pos := "law.go:164", after := #[{ on := 1, ground := Ground.data }, { on := 2, ground := Ground.data }], guard := none }) (v := ?_) rfl (by kernel_rfl) (by kernel_rfl) (by kernel_rfl) (fun _ _ _ h => h) (Or.inl ⟨by kernel_rfl, ?_⟩) (by assumption) ?_
      rotate_left
      · intro w hSw
        (try dsimp only at hSw)
        go_simp
        all_goals (with_reducible rfl)
      (try simp only [Act.put, List.setIfInBounds_toArray, List.set_cons_zero, List.set_cons_succ])
      refine wpAnyH_take (i := 4) (oi := { dst := some 102, op := Op.move (Operand.tmp 101), type := 4, pos := "law.go:164", after := #[{ on := 3, ground := Ground.data }, { on := 1, ground := Ground.chain }], guard := none }) (v := ?_) rfl (by kernel_rfl) (by kernel_rfl) (by kernel_rfl) (fun _ _ _ h => h) (Or.inl ⟨by kernel_rfl, ?_⟩) (by assumption) ?_
      rotate_left
      · intro w hSw
        (try dsimp only at hSw)
        go_simp
        all_goals (with_reducible rfl)
      (try simp only [Act.put, List.setIfInBounds_toArray, List.set_cons_zero, List.set_cons_succ])
      refine wpAnyH_take (i := 5) (oi := { dst := some 103, op := Op.move (Operand.tmp 12), type := 24, pos := "law.go:164", after := #[{ on := 4, ground := Ground.guard }], guard := some (4, true) }) (v := ?_) rfl (by kernel_rfl) (by kernel_rfl) (by kernel_rfl) (fun _ _ _ h => h) (Or.inl ⟨by kernel_rfl, ?_⟩) (by assumption) ?_
      rotate_left
      · intro w hSw
        (try dsimp only at hSw)
        go_simp
        all_goals (with_reducible rfl)
      (try simp only [Act.put, List.setIfInBounds_toArray, List.set_cons_zero, List.set_cons_succ])
      refine wpAnyH_take (i := 6) (oi := { dst := some 104, op := Op.nilCheck (Operand.tmp 103), type := 0, pos := "law.go:164", after := #[{ on := 5, ground := Ground.data }, { on := 4, ground := Ground.guard }], guard := some (4, true) }) (v := ?_) rfl (by kernel_rfl) (by kernel_rfl) (by kernel_rfl) (fun _ _ _ h => h) (Or.inl ⟨by kernel_rfl, ?_⟩) (by assumption) ?_
      rotate_left
      · intro w hSw
        (try dsimp only at hSw)
        go_simp
        all_goals (with_reducible rfl)
      (try simp only [Act.put, List.setIfInBounds_toArray, List.set_cons_zero, List.set_cons_succ])
      refine wpAnyH_take (i := 7) (oi := { dst := some 105, op := Op.fieldAddr 32 (Operand.tmp 104) 1, type := 0, pos := "law.go:164", after := #[{ on := 6, ground := Ground.data }, { on := 4, ground := Ground.guard }], guard := some (4, true) }) (v := ?_) rfl (by kernel_rfl) (by kernel_rfl) (by kernel_rfl) (fun _ _ _ h => h) (Or.inl ⟨by kernel_rfl, ?_⟩) (by assumption) ?_
      rotate_left
      · intro w hSw
        (try dsimp only at hSw)
        go_simp
        all_goals (with_reducible rfl)
      (try simp only [Act.put, List.setIfInBounds_toArray, List.set_cons_zero, List.set_cons_succ])
      refine wpAnyH_take (i := 8) (oi := { dst := some 106, op := Op.load 28 (Operand.tmp 105), type := 28, pos := "law.go:164", after := #[{ on := 7, ground := Ground.data }, { on := 4, ground := Ground.guard }], guard := some (4, true) }) (v := ?_) rfl (by kernel_rfl) (by kernel_rfl) (by kernel_rfl) (fun _ _ _ h => h) (Or.inl ⟨by kernel_rfl, ?_⟩) (by assumption) ?_
      rotate_left
      · intro w hSw
        (try dsimp only at hSw)
        go_simp
        all_goals (with_reducible rfl)
      (try simp only [Act.put, List.setIfInBounds_toArray, List.set_cons_zero, List.set_cons_succ])
      refine wpAnyH_take (i := 9) (oi := { dst := some 107, op := Op.binOp BinOp.eql 28 (Operand.tmp 106) (Operand.const (Value.pointer none)) 28, type := 4, pos := "law.go:164", after := #[{ on := 8, ground := Ground.data }, { on := 4, ground := Ground.guard }], guard := some (4, true) }) (v := ?_) rfl (by kernel_rfl) (by kernel_rfl) (by kernel_rfl) (fun _ _ _ h => h) (Or.inl ⟨by kernel_rfl, ?_⟩) (by assumption) ?_
      rotate_left
      · intro w hSw
        (try dsimp only at hSw)
        go_simp
        all_goals (with_reducible rfl)
      (try simp only [Act.put, List.setIfInBounds_toArray, List.set_cons_zero, List.set_cons_succ])
      refine wpAnyH_take (i := 10) (oi := { dst := some 108, op := Op.move (Operand.tmp 107), type := 4, pos := "law.go:164", after := #[{ on := 9, ground := Ground.data }, { on := 4, ground := Ground.chain }, { on := 4, ground := Ground.guard }], guard := some (4, true) }) (v := ?_) rfl (by kernel_rfl) (by kernel_rfl) (by kernel_rfl) (fun _ _ _ h => h) (Or.inl ⟨by kernel_rfl, ?_⟩) (by assumption) ?_
      rotate_left
      · intro w hSw
        (try dsimp only at hSw)
        go_simp
        all_goals (with_reducible rfl)
      (try simp only [Act.put, List.setIfInBounds_toArray, List.set_cons_zero, List.set_cons_succ])
      refine wpAnyH_take (i := 11) (oi := { dst := some 109, op := Op.move (Operand.tmp 12), type := 24, pos := "law.go:164", after := #[{ on := 10, ground := Ground.guard }], guard := some (10, false) }) (v := ?_) rfl (by kernel_rfl) (by kernel_rfl) (by kernel_rfl) (fun _ _ _ h => h) (Or.inl ⟨by kernel_rfl, ?_⟩) (by assumption) ?_
      rotate_left
      · intro w hSw
        (try dsimp only at hSw)
        go_simp
        all_goals (with_reducible rfl)
      (try simp only [Act.put, List.setIfInBounds_toArray, List.set_cons_zero, List.set_cons_succ])
      refine wpAnyH_take (i := 12) (oi := { dst := some 110, op := Op.nilCheck (Operand.tmp 109), type := 0, pos := "law.go:164", after := #[{ on := 11, ground := Ground.data }, { on := 10, ground := Ground.guard }], guard := some (10, false) }) (v := ?_) rfl (by kernel_rfl) (by kernel_rfl) (by kernel_rfl) (fun _ _ _ h => h) (Or.inl ⟨by kernel_rfl, ?_⟩) (by assumption) ?_
      rotate_left
      · intro w hSw
        (try dsimp only at hSw)
        go_simp
        all_goals (with_reducible rfl)
      (try simp only [Act.put, List.setIfInBounds_toArray, List.set_cons_zero, List.set_cons_succ])
      refine wpAnyH_take (i := 13) (oi := { dst := some 111, op := Op.fieldAddr 32 (Operand.tmp 110) 1, type := 0, pos := "law.go:164", after := #[{ on := 12, ground := Ground.data }, { on := 10, ground := Ground.guard }], guard := some (10, false) }) (v := ?_) rfl (by kernel_rfl) (by kernel_rfl) (by kernel_rfl) (fun _ _ _ h => h) (Or.inl ⟨by kernel_rfl, ?_⟩) (by assumption) ?_
      rotate_left
      · intro w hSw
        (try dsimp only at hSw)
        go_simp
        all_goals (with_reducible rfl)
      (try simp only [Act.put, List.setIfInBounds_toArray, List.set_cons_zero, List.set_cons_succ])
      refine wpAnyH_take (i := 14) (oi := { dst := some 112, op := Op.load 28 (Operand.tmp 111), type := 28, pos := "law.go:164", after := #[{ on := 13, ground := Ground.data }, { on := 10, ground := Ground.guard }], guard := some (10, false) }) (v := ?_) rfl (by kernel_rfl) (by kernel_rfl) (by kernel_rfl) (fun _ _ _ h => h) (Or.inl ⟨by kernel_rfl, ?_⟩) (by assumption) ?_
      rotate_left
      · intro w hSw
        (try dsimp only at hSw)
        go_simp
        all_goals (with_reducible rfl)
      (try simp only [Act.put, List.setIfInBounds_toArray, List.set_cons_zero, List.set_cons_succ])
      refine wpAnyH_take (i := 16) (oi := { dst := some 114, op := Op.move (Operand.tmp 12), type := 24, pos := "law.go:164", after := #[{ on := 10, ground := Ground.guard }], guard := some (10, false) }) (v := ?_) rfl (by kernel_rfl) (by kernel_rfl) (by kernel_rfl) (fun _ _ _ h => h) (Or.inl ⟨by kernel_rfl, ?_⟩) (by assumption) ?_
      rotate_left
      · intro w hSw
        (try dsimp only at hSw)
        go_simp
        all_goals (with_reducible rfl)
      (try simp only [Act.put, List.setIfInBounds_toArray, List.set_cons_zero, List.set_cons_succ])
      refine wpAnyH_take (i := 17) (oi := { dst := some 115, op := Op.nilCheck (Operand.tmp 114), type := 0, pos := "law.go:164", after := #[{ on := 16, ground := Ground.data }, { on := 10, ground := Ground.guard }], guard := some (10, false) }) (v := ?_) rfl (by kernel_rfl) (by kernel_rfl) (by kernel_rfl) (fun _ _ _ h => h) (Or.inl ⟨by kernel_rfl, ?_⟩) (by assumption) ?_
      rotate_left
      · intro w hSw
        (try dsimp only at hSw)
        go_simp
        all_goals (with_reducible rfl)
      (try simp only [Act.put, List.setIfInBounds_toArray, List.set_cons_zero, List.set_cons_succ])
      refine wpAnyH_take (i := 18) (oi := { dst := some 116, op := Op.fieldAddr 32 (Operand.tmp 115) 3, type := 0, pos := "law.go:164", after := #[{ on := 17, ground := Ground.data }, { on := 10, ground := Ground.guard }], guard := some (10, false) }) (v := ?_) rfl (by kernel_rfl) (by kernel_rfl) (by kernel_rfl) (fun _ _ _ h => h) (Or.inl ⟨by kernel_rfl, ?_⟩) (by assumption) ?_
      rotate_left
      · intro w hSw
        (try dsimp only at hSw)
        go_simp
        all_goals (with_reducible rfl)
      (try simp only [Act.put, List.setIfInBounds_toArray, List.set_cons_zero, List.set_cons_succ])
      refine wpAnyH_take (i := 19) (oi := { dst := some 117, op := Op.load 30 (Operand.tmp 116), type := 30, pos := "law.go:164", after := #[{ on := 18, ground := Ground.data }, { on := 10, ground := Ground.guard }], guard := some (10, false) }) (v := ?_) rfl (by kernel_rfl) (by kernel_rfl) (by kernel_rfl) (fun _ _ _ h => h) (Or.inl ⟨by kernel_rfl, ?_⟩) (by assumption) ?_
      rotate_left
      · intro w hSw
        (try dsimp only at hSw)
        go_simp
        all_goals (with_reducible rfl)
      (try simp only [Act.put, List.setIfInBounds_toArray, List.set_cons_zero, List.set_cons_succ])
      refine wpAnyH_take (i := 20) (oi := { dst := some 118, op := Op.nilCheck (Operand.tmp 117), type := 0, pos := "law.go:164", after := #[{ on := 19, ground := Ground.data }, { on := 10, ground := Ground.guard }], guard := some (10, false) }) (v := ?_) rfl (by kernel_rfl) (by kernel_rfl) (by kernel_rfl) (fun _ _ _ h => h) (Or.inl ⟨by kernel_rfl, ?_⟩) (by assumption) ?_
      rotate_left
      · intro w hSw
        (try dsimp only at hSw)
        go_simp
        all_goals (with_reducible rfl)
      (try simp only [Act.put, List.setIfInBounds_toArray, List.set_cons_zero, List.set_cons_succ])
      refine wpAnyH_take (i := 21) (oi := { dst := some 119, op := Op.fieldAddr 43 (Operand.tmp 118) 1, type := 0, pos := "law.go:164", after := #[{ on := 20, ground := Ground.data }, { on := 10, ground := Ground.guard }], guard := some (10, false) }) (v := ?_) rfl (by kernel_rfl) (by kernel_rfl) (by kernel_rfl) (fun _ _ _ h => h) (Or.inl ⟨by kernel_rfl, ?_⟩) (by assumption) ?_
      rotate_left
      · intro w hSw
        (try dsimp only at hSw)
        go_simp
        all_goals (with_reducible rfl)
      (try simp only [Act.put, List.setIfInBounds_toArray, List.set_cons_zero, List.set_cons_succ])
      refine wpAnyH_take (i := 22) (oi := { dst := some 120, op := Op.load 22 (Operand.tmp 119), type := 22, pos := "law.go:164", after := #[{ on := 21, ground := Ground.data }, { on := 10, ground := Ground.guard }], guard := some (10, false) }) (v := ?_) rfl (by kernel_rfl) (by kernel_rfl) (by kernel_rfl) (fun _ _ _ h => h) (Or.inl ⟨by kernel_rfl, ?_⟩) (by assumption) ?_
      rotate_left
      · intro w hSw
        (try dsimp only at hSw)
        go_simp
        all_goals (with_reducible rfl)
      (try simp only [Act.put, List.setIfInBounds_toArray, List.set_cons_zero, List.set_cons_succ])
      refine wpAnyH_one1 (i := 15) (o := { dst := some 113, op := Op.call { callee := Callee.value (Operand.func 19), args := #[Operand.tmp 112], argTypes := #[28] }, type := 22, pos := "law.go:164", after := #[{ on := 14, ground := Ground.data }, { on := 10, ground := Ground.chain }, { on := 10, ground := Ground.guard }], guard := some (10, false) }) (by kernel_rfl) rfl (fun K hK => ?_)
      go_simp
      refine (records19 HJJ.out.1 (by omega)).mono ?_
      rintro e w6 ⟨v6, rfl, ho6, b6⟩
      have B6 := HDX.out.trans b6
      refine hK.out _ _ ?_ (fun hHeld2 => ?_)
      · exact HCX.out _ B6
      clear hHeld
      have hHeld := hHeld2
      clear hHeld2
      clear hK K
      (try simp only [Act.put, List.setIfInBounds_toArray, List.set_cons_zero, List.set_cons_succ])
      refine wpAnyH_one1 (i := 23) (o := { dst := some 121, op := Op.call { callee := Callee.value (Operand.func 18), args := #[Operand.tmp 113, Operand.tmp 120], argTypes := #[22, 22] }, type := 4, pos := "law.go:164", after := #[{ on := 15, ground := Ground.data }, { on := 22, ground := Ground.data }, { on := 15, ground := Ground.chain }, { on := 10, ground := Ground.guard }], guard := some (10, false) }) (by kernel_rfl) rfl (fun K hK => ?_)
      go_simp
      have hsm := same18 v6 vr J.L J.L w6 (strs_own ho6) (strs_own (owned_below HBK.out.2 B6))
      rw [show sameB J.L J.L = true from sameB_iff.2 rfl] at hsm
      refine hsm.mono ?_
      rintro e w7 ⟨rfl, b7⟩
      have B7 := B6.trans (b7.mono B6.size)
      clear hsm
      refine hK.out _ _ ?_ (fun hHeld2 => ?_)
      · exact HCX.out _ B7
      clear hHeld
      have hHeld := hHeld2
      clear hHeld2
      clear hK K
      (try simp only [Act.put, List.setIfInBounds_toArray, List.set_cons_zero, List.set_cons_succ])
      refine wpAnyH_take (i := 24) (oi := { dst := some 122, op := Op.move (Operand.tmp 121), type := 4, pos := "law.go:164", after := #[{ on := 23, ground := Ground.data }, { on := 23, ground := Ground.chain }, { on := 10, ground := Ground.guard }], guard := some (10, false) }) (v := ?_) rfl (by kernel_rfl) (by kernel_rfl) (by kernel_rfl) (fun _ _ _ h => h) (Or.inl ⟨by kernel_rfl, ?_⟩) (by assumption) ?_
      rotate_left
      · intro w hSw
        (try dsimp only at hSw)
        go_simp
        all_goals (with_reducible rfl)
      (try simp only [Act.put, List.setIfInBounds_toArray, List.set_cons_zero, List.set_cons_succ])
      refine wpAnyH_take (i := 25) (oi := { dst := some 123, op := Op.move (Operand.tmp 12), type := 24, pos := "law.go:164", after := #[{ on := 24, ground := Ground.guard }], guard := some (24, true) }) (v := ?_) rfl (by kernel_rfl) (by kernel_rfl) (by kernel_rfl) (fun _ _ _ h => h) (Or.inl ⟨by kernel_rfl, ?_⟩) (by assumption) ?_
      rotate_left
      · intro w hSw
        (try dsimp only at hSw)
        go_simp
        all_goals (with_reducible rfl)
      (try simp only [Act.put, List.setIfInBounds_toArray, List.set_cons_zero, List.set_cons_succ])
      refine wpAnyH_take (i := 26) (oi := { dst := some 124, op := Op.nilCheck (Operand.tmp 123), type := 0, pos := "law.go:164", after := #[{ on := 25, ground := Ground.data }, { on := 24, ground := Ground.guard }], guard := some (24, true) }) (v := ?_) rfl (by kernel_rfl) (by kernel_rfl) (by kernel_rfl) (fun _ _ _ h => h) (Or.inl ⟨by kernel_rfl, ?_⟩) (by assumption) ?_
      rotate_left
      · intro w hSw
        (try dsimp only at hSw)
        go_simp
        all_goals (with_reducible rfl)
      (try simp only [Act.put, List.setIfInBounds_toArray, List.set_cons_zero, List.set_cons_succ])
      refine wpAnyH_take (i := 27) (oi := { dst := some 125, op := Op.fieldAddr 32 (Operand.tmp 124) 1, type := 0, pos := "law.go:164", after := #[{ on := 26, ground := Ground.data }, { on := 24, ground := Ground.guard }], guard := some (24, true) }) (v := ?_) rfl (by kernel_rfl) (by kernel_rfl) (by kernel_rfl) (fun _ _ _ h => h) (Or.inl ⟨by kernel_rfl, ?_⟩) (by assumption) ?_
      rotate_left
      · intro w hSw
        (try dsimp only at hSw)
        go_simp
        all_goals (with_reducible rfl)
      (try simp only [Act.put, List.setIfInBounds_toArray, List.set_cons_zero, List.set_cons_succ])
      refine wpAnyH_take (i := 28) (oi := { dst := some 126, op := Op.load 28 (Operand.tmp 125), type := 28, pos := "law.go:164", after := #[{ on := 27, ground := Ground.data }, { on := 24, ground := Ground.guard }], guard := some (24, true) }) (v := ?_) rfl (by kernel_rfl) (by kernel_rfl) (by kernel_rfl) (fun _ _ _ h => h) (Or.inl ⟨by kernel_rfl, ?_⟩) (by assumption) ?_
      rotate_left
      · intro w hSw
        (try dsimp only at hSw)
        go_simp
        all_goals (with_reducible rfl)
      (try simp only [Act.put, List.setIfInBounds_toArray, List.set_cons_zero, List.set_cons_succ])
      refine wpAnyH_take (i := 30) (oi := { dst := some 128, op := Op.move (Operand.tmp 12), type := 24, pos := "law.go:164", after := #[{ on := 24, ground := Ground.guard }], guard := some (24, true) }) (v := ?_) rfl (by kernel_rfl) (by kernel_rfl) (by kernel_rfl) (fun _ _ _ h => h) (Or.inl ⟨by kernel_rfl, ?_⟩) (by assumption) ?_
      rotate_left
      · intro w hSw
        (try dsimp only at hSw)
        go_simp
        all_goals (with_reducible rfl)
      (try simp only [Act.put, List.setIfInBounds_toArray, List.set_cons_zero, List.set_cons_succ])
      refine wpAnyH_take (i := 31) (oi := { dst := some 129, op := Op.nilCheck (Operand.tmp 128), type := 0, pos := "law.go:164", after := #[{ on := 30, ground := Ground.data }, { on := 24, ground := Ground.guard }], guard := some (24, true) }) (v := ?_) rfl (by kernel_rfl) (by kernel_rfl) (by kernel_rfl) (fun _ _ _ h => h) (Or.inl ⟨by kernel_rfl, ?_⟩) (by assumption) ?_
      rotate_left
      · intro w hSw
        (try dsimp only at hSw)
        go_simp
        all_goals (with_reducible rfl)
      (try simp only [Act.put, List.setIfInBounds_toArray, List.set_cons_zero, List.set_cons_succ])
      refine wpAnyH_take (i := 32) (oi := { dst := some 130, op := Op.fieldAddr 32 (Operand.tmp 129) 3, type := 0, pos := "law.go:164", after := #[{ on := 31, ground := Ground.data }, { on := 24, ground := Ground.guard }], guard := some (24, true) }) (v := ?_) rfl (by kernel_rfl) (by kernel_rfl) (by kernel_rfl) (fun _ _ _ h => h) (Or.inl ⟨by kernel_rfl, ?_⟩) (by assumption) ?_
      rotate_left
      · intro w hSw
        (try dsimp only at hSw)
        go_simp
        all_goals (with_reducible rfl)
      (try simp only [Act.put, List.setIfInBounds_toArray, List.set_cons_zero, List.set_cons_succ])
      refine wpAnyH_take (i := 33) (oi := { dst := some 131, op := Op.load 30 (Operand.tmp 130), type := 30, pos := "law.go:164", after := #[{ on := 32, ground := Ground.data }, { on := 24, ground := Ground.guard }], guard := some (24, true) }) (v := ?_) rfl (by kernel_rfl) (by kernel_rfl) (by kernel_rfl) (fun _ _ _ h => h) (Or.inl ⟨by kernel_rfl, ?_⟩) (by assumption) ?_
      rotate_left
      · intro w hSw
        (try dsimp only at hSw)
        go_simp
        all_goals (with_reducible rfl)
      (try simp only [Act.put, List.setIfInBounds_toArray, List.set_cons_zero, List.set_cons_succ])
      refine wpAnyH_one1 (i := 29) (o := { dst := some 127, op := Op.call { callee := Callee.value (Operand.func 20), args := #[Operand.tmp 126], argTypes := #[28] }, type := 3, pos := "law.go:164", after := #[{ on := 28, ground := Ground.data }, { on := 24, ground := Ground.chain }, { on := 24, ground := Ground.guard }], guard := some (24, true) }) (by kernel_rfl) rfl (fun K hK => ?_)
      go_simp
      refine (room20 ((HJJ.out.1.below b6).below b7) (OwnF.below (HX.out.1.duo.o1) B7) (by omega)).mono ?_
      rintro e w8 ⟨rfl, b8⟩
      have B8 := B7.trans (b8.mono B7.size)
      refine hK.out _ _ ?_ (fun hHeld2 => ?_)
      · exact HCX.out _ B8
      clear hHeld
      have hHeld := hHeld2
      clear hHeld2
      clear hK K
      (try simp only [Act.put, List.setIfInBounds_toArray, List.set_cons_zero, List.set_cons_succ])
      refine wpAnyH_one1 (i := 34) (o := { dst := some 132, op := Op.call { callee := Callee.value (Operand.func 21), args := #[Operand.tmp 131], argTypes := #[30] }, type := 3, pos := "law.go:164", after := #[{ on := 33, ground := Ground.data }, { on := 29, ground := Ground.chain }, { on := 24, ground := Ground.guard }], guard := some (24, true) }) (by kernel_rfl) rfl (fun K hK => ?_)
      go_simp
      refine (room21 (((HJJ.out.2.below b6).below b7).below b8) (RefF.below (HX.out.1.duo.r2) B8) (by omega)).mono ?_
      rintro e w9 ⟨rfl, b9⟩
      have B9 := B8.trans (b9.mono B8.size)
      refine hK.out _ _ ?_ (fun hHeld2 => ?_)
      · exact HCX.out _ B9
      clear hHeld
      have hHeld := hHeld2
      clear hHeld2
      clear hK K
      (try simp only [Act.put, List.setIfInBounds_toArray, List.set_cons_zero, List.set_cons_succ])
      refine wpAnyH_take (i := 35) (oi := { dst := some 133, op := Op.binOp BinOp.eql 3 (Operand.tmp 127) (Operand.tmp 132) 3, type := 4, pos := "law.go:164", after := #[{ on := 29, ground := Ground.data }, { on := 34, ground := Ground.data }, { on := 24, ground := Ground.guard }], guard := some (24, true) }) (v := ?_) rfl (by kernel_rfl) (by kernel_rfl) (by kernel_rfl) (fun _ _ _ h => h) (Or.inl ⟨by kernel_rfl, ?_⟩) (by assumption) ?_
      rotate_left
      · intro w hSw
        (try dsimp only at hSw)
        go_simp
        all_goals (with_reducible rfl)
      (try simp only [Act.put, List.setIfInBounds_toArray, List.set_cons_zero, List.set_cons_succ])
      refine wpAnyH_take (i := 36) (oi := { dst := some 134, op := Op.pick (Operand.tmp 122) (Operand.tmp 133) (Operand.const (Value.bool false)), type := 4, pos := "law.go:164", after := #[{ on := 24, ground := Ground.data }, { on := 35, ground := Ground.data }, { on := 10, ground := Ground.guard }], guard := some (10, false) }) (v := ?_) rfl (by kernel_rfl) (by kernel_rfl) (by kernel_rfl) (fun _ _ _ h => h) (Or.inl ⟨by kernel_rfl, ?_⟩) (by assumption) ?_
      rotate_left
      · intro w hSw
        (try dsimp only at hSw)
        go_simp
        all_goals (with_reducible rfl)
      (try simp only [Act.put, List.setIfInBounds_toArray, List.set_cons_zero, List.set_cons_succ])
      refine wpAnyH_take (i := 37) (oi := { dst := some 135, op := Op.move (Operand.tmp 134), type := 4, pos := "law.go:164", after := #[{ on := 36, ground := Ground.data }, { on := 34, ground := Ground.chain }, { on := 10, ground := Ground.guard }], guard := some (10, false) }) (v := ?_) rfl (by kernel_rfl) (by kernel_rfl) (by kernel_rfl) (fun _ _ _ h => h) (Or.inl ⟨by kernel_rfl, ?_⟩) (by assumption) ?_
      rotate_left
      · intro w hSw
        (try dsimp only at hSw)
        go_simp
        all_goals (with_reducible rfl)
      (try simp only [Act.put, List.setIfInBounds_toArray, List.set_cons_zero, List.set_cons_succ])
      refine wpAnyH_take (i := 38) (oi := { dst := some 136, op := Op.move (Operand.tmp 12), type := 24, pos := "law.go:164", after := #[{ on := 37, ground := Ground.guard }], guard := some (37, true) }) (v := ?_) rfl (by kernel_rfl) (by kernel_rfl) (by kernel_rfl) (fun _ _ _ h => h) (Or.inl ⟨by kernel_rfl, ?_⟩) (by assumption) ?_
      rotate_left
      · intro w hSw
        (try dsimp only at hSw)
        go_simp
        all_goals (with_reducible rfl)
      (try simp only [Act.put, List.setIfInBounds_toArray, List.set_cons_zero, List.set_cons_succ])
      refine wpAnyH_take (i := 39) (oi := { dst := some 137, op := Op.nilCheck (Operand.tmp 136), type := 0, pos := "law.go:164", after := #[{ on := 38, ground := Ground.data }, { on := 37, ground := Ground.guard }], guard := some (37, true) }) (v := ?_) rfl (by kernel_rfl) (by kernel_rfl) (by kernel_rfl) (fun _ _ _ h => h) (Or.inl ⟨by kernel_rfl, ?_⟩) (by assumption) ?_
      rotate_left
      · intro w hSw
        (try dsimp only at hSw)
        go_simp
        all_goals (with_reducible rfl)
      (try simp only [Act.put, List.setIfInBounds_toArray, List.set_cons_zero, List.set_cons_succ])
      refine wpAnyH_take (i := 40) (oi := { dst := some 138, op := Op.fieldAddr 32 (Operand.tmp 137) 0, type := 0, pos := "law.go:164", after := #[{ on := 39, ground := Ground.data }, { on := 37, ground := Ground.guard }], guard := some (37, true) }) (v := ?_) rfl (by kernel_rfl) (by kernel_rfl) (by kernel_rfl) (fun _ _ _ h => h) (Or.inl ⟨by kernel_rfl, ?_⟩) (by assumption) ?_
      rotate_left
      · intro w hSw
        (try dsimp only at hSw)
        go_simp
        all_goals (with_reducible rfl)
      (try simp only [Act.put, List.setIfInBounds_toArray, List.set_cons_zero, List.set_cons_succ])
      refine wpAnyH_take (i := 41) (oi := { dst := some 139, op := Op.load 27 (Operand.tmp 138), type := 27, pos := "law.go:164", after := #[{ on := 40, ground := Ground.data }, { on := 37, ground := Ground.guard }], guard := some (37, true) }) (v := ?_) rfl (by kernel_rfl) (by kernel_rfl) (by kernel_rfl) (fun _ _ _ h => h) (Or.inl ⟨by kernel_rfl, ?_⟩) (by assumption) ?_
      rotate_left
      · intro w hSw
        (try dsimp only at hSw)
        go_simp
        all_goals (with_reducible rfl)
      (try simp only [Act.put, List.setIfInBounds_toArray, List.set_cons_zero, List.set_cons_succ])
      refine wpAnyH_take (i := 43) (oi := { dst := some 141, op := Op.move (Operand.tmp 12), type := 24, pos := "law.go:164", after := #[{ on := 37, ground := Ground.guard }], guard := some (37, true) }) (v := ?_) rfl (by kernel_rfl) (by kernel_rfl) (by kernel_rfl) (fun _ _ _ h => h) (Or.inl ⟨by kernel_rfl, ?_⟩) (by assumption) ?_
      rotate_left
      · intro w hSw
        (try dsimp only at hSw)
        go_simp
        all_goals (with_reducible rfl)
      (try simp only [Act.put, List.setIfInBounds_toArray, List.set_cons_zero, List.set_cons_succ])
      refine wpAnyH_take (i := 44) (oi := { dst := some 142, op := Op.nilCheck (Operand.tmp 141), type := 0, pos := "law.go:164", after := #[{ on := 43, ground := Ground.data }, { on := 37, ground := Ground.guard }], guard := some (37, true) }) (v := ?_) rfl (by kernel_rfl) (by kernel_rfl) (by kernel_rfl) (fun _ _ _ h => h) (Or.inl ⟨by kernel_rfl, ?_⟩) (by assumption) ?_
      rotate_left
      · intro w hSw
        (try dsimp only at hSw)
        go_simp
        all_goals (with_reducible rfl)
      (try simp only [Act.put, List.setIfInBounds_toArray, List.set_cons_zero, List.set_cons_succ])
      refine wpAnyH_take (i := 45) (oi := { dst := some 143, op := Op.fieldAddr 32 (Operand.tmp 142) 2, type := 0, pos := "law.go:164", after := #[{ on := 44, ground := Ground.data }, { on := 37, ground := Ground.guard }], guard := some (37, true) }) (v := ?_) rfl (by kernel_rfl) (by kernel_rfl) (by kernel_rfl) (fun _ _ _ h => h) (Or.inl ⟨by kernel_rfl, ?_⟩) (by assumption) ?_
      rotate_left
      · intro w hSw
        (try dsimp only at hSw)
        go_simp
        all_goals (with_reducible rfl)
      (try simp only [Act.put, List.setIfInBounds_toArray, List.set_cons_zero, List.set_cons_succ])
      refine wpAnyH_take (i := 46) (oi := { dst := some 144, op := Op.load 29 (Operand.tmp 143), type := 29, pos := "law.go:164", after := #[{ on := 45, ground := Ground.data }, { on := 37, ground := Ground.guard }], guard := some (37, true) }) (v := ?_) rfl (by kernel_rfl) (by kernel_rfl) (by kernel_rfl) (fun _ _ _ h => h) (Or.inl ⟨by kernel_rfl, ?_⟩) (by assumption) ?_
      rotate_left
      · intro w hSw
        (try dsimp only at hSw)
        go_simp
        all_goals (with_reducible rfl)
      (try simp only [Act.put, List.setIfInBounds_toArray, List.set_cons_zero, List.set_cons_succ])
      refine wpAnyH_one1 (i := 42) (o := { dst := some 140, op := Op.call { callee := Callee.value (Operand.func 22), args := #[Operand.tmp 139], argTypes := #[27] }, type := 9, pos := "law.go:164", after := #[{ on := 41, ground := Ground.data }, { on := 37, ground := Ground.chain }, { on := 37, ground := Ground.guard }], guard := some (37, true) }) (by kernel_rfl) rfl (fun K hK => ?_)
      go_simp
      refine (HCT.out _ B9).mono ?_
      rintro e wq ⟨rfl, hq⟩
      subst hq
      refine hK.out _ _ ?_ (fun hHeld2 => ?_)
      · exact hHeld
      clear hHeld
      have hHeld := hHeld2
      clear hHeld2
      clear hK K
      (try simp only [Act.put, List.setIfInBounds_toArray, List.set_cons_zero, List.set_cons_succ])
      refine wpAnyH_one1 (i := 47) (o := { dst := some 145, op := Op.call { callee := Callee.value (Operand.func 23), args := #[Operand.tmp 144], argTypes := #[29] }, type := 39, pos := "law.go:164", after := #[{ on := 46, ground := Ground.data }, { on := 42, ground := Ground.chain }, { on := 37, ground := Ground.guard }], guard := some (37, true) }) (by kernel_rfl) rfl (fun K hK => ?_)
      go_simp
      refine (HVI.out _ B9).mono ?_
      rintro e wA ⟨gA, cA, rfl, hoA, bA⟩
      have BA := B9.trans (bA.mono B9.size)
      have hcvA := HCV2.out wA _ gA cA hoA
      refine hK.out _ _ ?_ (fun hHeld2 => ?_)
      · exact HCX.out _ BA
      clear hHeld
      have hHeld := hHeld2
      clear hHeld2
      clear hK K
      (try simp only [Act.put, List.setIfInBounds_toArray, List.set_cons_zero, List.set_cons_succ])
      refine wpAnyH_one1 (i := 48) (o := { dst := some 146, op := Op.convert 39 9 (Operand.tmp 145), type := 9, pos := "law.go:164", after := #[{ on := 47, ground := Ground.data }, { on := 37, ground := Ground.guard }], guard := some (37, true) }) (by kernel_rfl) rfl (fun K hK => ?_)
      go_simp
      refine hK.out _ _ ?_ (fun hHeld2 => ?_)
      · exact hHeld
      clear hHeld
      have hHeld := hHeld2
      clear hHeld2
      clear hK K
      (try simp only [Act.put, List.setIfInBounds_toArray, List.set_cons_zero, List.set_cons_succ])
      refine wpAnyH_take (i := 49) (oi := { dst := some 147, op := Op.binOp BinOp.eql 9 (Operand.tmp 140) (Operand.tmp 146) 9, type := 4, pos := "law.go:164", after := #[{ on := 42, ground := Ground.data }, { on := 48, ground := Ground.data }, { on := 37, ground := Ground.guard }], guard := some (37, true) }) (v := ?_) rfl (by kernel_rfl) (by kernel_rfl) (by kernel_rfl) (fun _ _ _ h => h) (Or.inl ⟨by kernel_rfl, ?_⟩) (by assumption) ?_
      rotate_left
      · intro w hSw
        (try dsimp only at hSw)
        go_simp
        all_goals (with_reducible rfl)
      (try simp only [Act.put, List.setIfInBounds_toArray, List.set_cons_zero, List.set_cons_succ])
      refine wpAnyH_take (i := 50) (oi := { dst := some 148, op := Op.pick (Operand.tmp 135) (Operand.tmp 147) (Operand.const (Value.bool false)), type := 4, pos := "law.go:164", after := #[{ on := 37, ground := Ground.data }, { on := 49, ground := Ground.data }, { on := 10, ground := Ground.guard }], guard := some (10, false) }) (v := ?_) rfl (by kernel_rfl) (by kernel_rfl) (by kernel_rfl) (fun _ _ _ h => h) (Or.inl ⟨by kernel_rfl, ?_⟩) (by assumption) ?_
      rotate_left
      · intro w hSw
        (try dsimp only at hSw)
        go_simp
        all_goals (with_reducible rfl)
      (try simp only [Act.put, List.setIfInBounds_toArray, List.set_cons_zero, List.set_cons_succ])
      refine wpAnyH_take (i := 51) (oi := { dst := some 149, op := Op.pick (Operand.tmp 108) (Operand.const (Value.bool true)) (Operand.tmp 148), type := 4, pos := "law.go:164", after := #[{ on := 10, ground := Ground.data }, { on := 50, ground := Ground.data }, { on := 4, ground := Ground.guard }], guard := some (4, true) }) (v := ?_) rfl (by kernel_rfl) (by kernel_rfl) (by kernel_rfl) (fun _ _ _ h => h) (Or.inl ⟨by kernel_rfl, ?_⟩) (by assumption) ?_
      rotate_left
      · intro w hSw
        (try dsimp only at hSw)
        go_simp
        all_goals (with_reducible rfl)
      (try simp only [Act.put, List.setIfInBounds_toArray, List.set_cons_zero, List.set_cons_succ])
      refine wpAnyH_take (i := 52) (oi := { dst := some 150, op := Op.pick (Operand.tmp 102) (Operand.tmp 149) (Operand.const (Value.bool false)), type := 4, pos := "law.go:164", after := #[{ on := 4, ground := Ground.data }, { on := 51, ground := Ground.data }], guard := none }) (v := ?_) rfl (by kernel_rfl) (by kernel_rfl) (by kernel_rfl) (fun _ _ _ h => h) (Or.inl ⟨by kernel_rfl, ?_⟩) (by assumption) ?_
      rotate_left
      · intro w hSw
        (try dsimp only at hSw)
        go_simp
        all_goals (with_reducible rfl)
      (try simp only [Act.put, List.setIfInBounds_toArray, List.set_cons_zero, List.set_cons_succ])
      refine wpAnyH_take (i := 53) (oi := { dst := some 10, op := Op.assign (Operand.tmp 150), type := 4, pos := "law.go:164", after := #[{ on := 52, ground := Ground.data }, { on := 47, ground := Ground.chain }, { on := 0, ground := Ground.phase }, { on := 1, ground := Ground.phase }, { on := 2, ground := Ground.phase }, { on := 3, ground := Ground.phase }, { on := 4, ground := Ground.phase }, { on := 5, ground := Ground.phase }, { on := 6, ground := Ground.phase }, { on := 7, ground := Ground.phase }, { on := 8, ground := Ground.phase }, { on := 9, ground := Ground.phase }, { on := 10, ground := Ground.phase }, { on := 11, ground := Ground.phase }, { on := 12, ground := Ground.phase }, { on := 13, ground := Ground.phase }, { on := 14, ground := Ground.phase }, { on := 15, ground := Ground.phase }, { on := 16, ground := Ground.phase }, { on := 17, ground := Ground.phase }, { on := 18, ground := Ground.phase }, { on := 19, ground := Ground.phase }, { on := 20, ground := Ground.phase }, { on := 21, ground := Ground.phase }, { on := 22, ground := Ground.phase }, { on := 23, ground := Ground.phase }, { on := 24, ground := Ground.phase }, { on := 25, ground := Ground.phase }, { on := 26, ground := Ground.phase }, { on := 27, ground := Ground.phase }, { on := 28, ground := Ground.phase }, { on := 29, ground := Ground.phase }, { on := 30, ground := Ground.phase }, { on := 31, ground := Ground.phase }, { on := 32, ground := Ground.phase }, { on := 33, ground := Ground.phase }, { on := 34, ground := Ground.phase }, { on := 35, ground := Ground.phase }, { on := 36, ground := Ground.phase }, { on := 37, ground := Ground.phase }, { on := 38, ground := Ground.phase }, { on := 39, ground := Ground.phase }, { on := 40, ground := Ground.phase }, { on := 41, ground := Ground.phase }, { on := 42, ground := Ground.phase }, { on := 43, ground := Ground.phase }, { on := 44, ground := Ground.phase }, { on := 45, ground := Ground.phase }, { on := 46, ground := Ground.phase }, { on := 47, ground := Ground.phase }, { on := 48, ground := Ground.phase }, { on := 49, ground := Ground.phase }, { on := 50, ground := Ground.phase }, { on := 51, ground := Ground.phase }, { on := 52, ground := Ground.phase }], guard := none }) (v := ?_) rfl (by kernel_rfl) (by kernel_rfl) (by kernel_rfl) (fun _ _ _ h => h) (Or.inl ⟨by kernel_rfl, ?_⟩) (by assumption) ?_
      rotate_left
      · intro w hSw
        (try dsimp only at hSw)
        go_simp
        all_goals (with_reducible rfl)
      (try simp only [Act.put, List.setIfInBounds_toArray, List.set_cons_zero, List.set_cons_succ])
      refine wpAnyH_done (by kernel_rfl) ?_ _
      refine NoPanic.normal ?_
      have HFN := Lib.hid (HB1.out.trans ((HX.out.2.trans (BA.mono sx5)).mono HB1.out.size))
      clear hHeld HX HDX HCX B6 B7 B8 B9 b6 b7 b8 b9 ho6 HJJ HBK hcvA hoA bA
      go_wp2
      go_ret
      exact ⟨rfl, HFN.out⟩
end Go.Proofs.YtnckpnbecmmcpaaGreatDoor

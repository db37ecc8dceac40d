/- nadirlaw34.world.does. -/
import Derived.Test.YtnckpnbecmmcpaaGreatDoorWO
import Derived.Deep.RegionHeld3
namespace Go.Proofs.YtnckpnbecmmcpaaGreatDoor
open Go.RowKit Go.Shelf Lib
theorem kept_trans {W V U : World} (h : Kept NoX W V) (h2 : Kept NoX V U) (hs : W.heap.size ≤ V.heap.size) : Kept NoX W U := fun k hk ho hx => by
  have h1 := h k hk ho hx
  obtain ⟨cs, t, hbk, ht⟩ := ho
  exact (h2 k (Nat.lt_of_lt_of_le hk hs) ⟨cs, t, h1.trans hbk, ht⟩ hx).trans h1
theorem St.kept {base : Nat} {W W' : World} {Wb B R n : Nat} {D D' : DiskD} {oj : Option JouD} (h : St base W Wb B R n D oj) (hd : DuoB W' base n B R D' D') (hk : Kept NoX W W') : St base W' Wb B R n D' oj := by
  obtain ⟨vj, vk, hc, hj⟩ := h.cells
  exact ⟨hd, ⟨vj, vk, hk.blk hc (by decide) (fun h => h), hj.kept hk⟩, h.wb⟩
def OJ (n : Nat) (oj : Option JouD) : Prop := ∀ J, oj = some J → JOK n J.L
theorem openedJ_ok {n : Nat} {D : DiskD} (hI : Inv n D) : OJ n (openedJ n D) := fun J h => by
  unfold openedJ at h
  split at h
  · rename_i he
    cases h
    exact openL_ok hI he
  · cases h
theorem DuoB.inv {W : World} {base n B R : Nat} {D E : DiskD} (h : DuoB W base n B R D E) : Inv n D := by
  obtain ⟨F1, F2, -, -, -, o1, -⟩ := h
  exact o1.inv
attribute [local irreducible] wpStill
set_option maxRecDepth 100000 in
set_option maxHeartbeats 16000000 in
theorem does31 {base : Nat} {W : World} {Wb B R n : Nat} {D : DiskD} {oj : Option JouD} (kind nn : Int) (vl vk : Value) (l : List ByteArray) (keep : List Int) (h : St base W Wb B R n D oj) (hb : base ≤ W.heap.size) (hE : ∀ V, Below base W V → EnvJ V) (hp : D.pend.length ≤ 1000) (hn : n ≤ 100000)
    (hok : OJ n oj) (hkd : InR kind) (hnn : InR nn) (hl : ∀ V, Below base W V → StrsAt V vl l) (hz : ∀ t ∈ l, t.size ≤ 9223372036854775807) (hk : ∀ V, Below base W V → IntsAt V vk keep) :
    Calls Tryz.prog 31 #[.pointer (some ⟨Wb, 0, none⟩), .agg #[.int .i64 kind, vl, .int .i64 nn, vk]] W fun e w' => e = .returned (.bool true) ∧ ∃ D' oj', St base w' Wb B R n D' oj' ∧ D'.pend.length ≤ D.pend.length + 4 ∧ OJ n oj' ∧ Below base W w' := by
  obtain ⟨ka, kc, rfl, hkl1, hkl2⟩ := ints_len (hk W (Below.refl _ _))
  obtain ⟨la, lc, rfl, hll1, hll2⟩ := strs_len (hl W (Below.refl _ _))
  unfold maxLen at hkl2 hll2
  have HVL := Lib.hid hl
  have HVK := Lib.hid hk
  have HEV := Lib.hid hE
  have HOK := Lib.hid hok
  have HPK := Lib.hid (fun V => pick_any kind 8 V hkd (by decide) (by decide))
  have HPN := Lib.hid (fun V => pick_any nn 5 V hnn (by decide) (by decide))
  have hpk := pickI_bd kind (n := 8) (by decide)
  have hpn := pickI_bd nn (n := 5) (by decide)
  generalize pickI kind 8 = p at HPK hpk
  generalize pickI nn 5 = q at HPN hpn
  have hwq : IntKind.i64.wrap (1 + q) = 1 + q := wrapS _ (by omega) (by omega)
  have hA0 : Below W.heap.size W (W.alloc (.cells #[.int .i64 kind, .slice la l.length lc, .int .i64 nn, .slice ka keep.length kc] 62)) := (Below.refl _ _).alloc (Nat.le_refl _) _
  have hA := hA0.mono hb
  have kA := Blk.new W #[.int .i64 kind, .slice la l.length lc, .int .i64 nn, .slice ka keep.length kc] 62
  have hst := h.below hA0
  obtain ⟨A, hAe⟩ : ∃ A, W.heap.size = A := ⟨_, rfl⟩
  rw [hAe] at kA
  have a0 := kA.cell 0
  simp only [List.getElem?_toArray, List.getElem?_cons_zero] at a0
  have hcs : ((p == 5) = true) ∨ ((p == 5) = false ∧ (p == 6) = true) ∨ ((p == 5) = false ∧ (p == 6) = false ∧ (p == 7) = true) ∨ ((p == 5) = false ∧ (p == 6) = false ∧ (p == 7) = false) := by
    cases (p == 5) <;> cases (p == 6) <;> cases (p == 7) <;> simp
  clear hl hk hE hok hkd hnn h hA0
  go_enter Tryz.func31, Tryz.ntmps31
  go_wp2_with fail
  refine (HPK.out _).mono ?_
  rintro e wq ⟨rfl, hq⟩
  subst hq
  (try rw [hAe])
  generalize W.alloc (.cells #[.int .i64 kind, .slice la l.length lc, .int .i64 nn, .slice ka keep.length kc] 62) = WA at *
  have sA := hA.size
  have sb : base ≤ WA.heap.size := Nat.le_trans hb sA
  have a1 := kA.cell 1
  have a2 := kA.cell 2
  have a3 := kA.cell 3
  simp only [List.getElem?_toArray, List.getElem?_cons_succ, List.getElem?_cons_zero] at a1 a2 a3
  have hst' := hst
  obtain ⟨vj, vk', hcW, hjk⟩ := hst'.cells
  have e0 := hcW.cell 0
  have e1 := hcW.cell 1
  have e2 := hcW.cell 2
  have e3 := hcW.cell 3
  simp only [List.getElem?_toArray, List.getElem?_cons_succ, List.getElem?_cons_zero] at e0 e1 e2 e3
  have HST := Lib.hid (And.intro hst hA)
  have HD := Lib.hid (show DuoB WA.drew base n B R D D from hst.duo.below ((Below.refl _ _).drew))
  have HCE := Lib.hid (fun (V : World) (hk : Kept NoX WA V) => show V.cell? ⟨Wb, 0, none⟩ = some (.pointer (some ⟨B, 0, none⟩)) ∧ V.cell? ⟨Wb, 2, none⟩ = some (.pointer (some ⟨R, 0, none⟩)) ∧ V.cell? ⟨A, 2, none⟩ = some (.int .i64 nn) from
    ⟨(hk.blk hcW (by decide) (fun h => h)).cell 0, (hk.blk hcW (by decide) (fun h => h)).cell 2, (hk.blk kA (by decide) (fun h => h)).cell 2⟩)
  have hJB := Lib.hid (And.intro hcW (And.intro kA hjk))
  have hKR : Kept NoX WA WA.drew := Kept.below ((Below.refl _ _).drew)
  have HKR := Lib.hid hKR
  clear hst hst' hcW hjk kA hKR
  rcases hcs with hc5 | ⟨hc5, hc6⟩ | ⟨hc5, hc6, hc7⟩ | ⟨hc5, hc6, hc7⟩
  · go_upto_region 3 with (fail)
    refine wp_region_noPanic ?_
    refine wp_region_held_drew (S := (fun w' => w'.cell? ⟨Wb, 0, none⟩ = some (.pointer (some ⟨B, 0, none⟩)) ∧ w'.cell? ⟨Wb, 2, none⟩ = some (.pointer (some ⟨R, 0, none⟩)) ∧ w'.cell? ⟨A, 2, none⟩ = some (.int .i64 nn))) (by kernel_rfl) (HCE.out _ HKR.out) (fun hHeld => ?_)
    refine wpAnyH_take (i := 0) (oi := { dst := some 11, op := Op.move (Operand.tmp 0), type := 24, pos := "law.go:103", after := #[], guard := none }) (v := ?_) rfl (by kernel_rfl) (by kernel_rfl) (by kernel_rfl) (fun _ _ _ h => h) (Or.inl ⟨by kernel_rfl, ?_⟩) (by assumption) ?_
    rotate_left
    · intro w hSw
      (try dsimp only at hSw)
      go_simp
      all_goals (with_reducible rfl)
    (try simp only [Act.put, List.setIfInBounds_toArray, List.set_cons_zero, List.set_cons_succ])
    refine wpAnyH_take (i := 1) (oi := { dst := some 12, op := Op.nilCheck (Operand.tmp 11), type := 0, pos := "law.go:103", after := #[{ on := 0, ground := Ground.data }], guard := none }) (v := ?_) rfl (by kernel_rfl) (by kernel_rfl) (by kernel_rfl) (fun _ _ _ h => h) (Or.inl ⟨by kernel_rfl, ?_⟩) (by assumption) ?_
    rotate_left
    · intro w hSw
      (try dsimp only at hSw)
      go_simp
      all_goals (with_reducible rfl)
    (try simp only [Act.put, List.setIfInBounds_toArray, List.set_cons_zero, List.set_cons_succ])
    refine wpAnyH_take (i := 2) (oi := { dst := some 13, op := Op.fieldAddr 32 (Operand.tmp 12) 0, type := 0, pos := "law.go:103", after := #[{ on := 1, ground := Ground.data }], guard := none }) (v := ?_) rfl (by kernel_rfl) (by kernel_rfl) (by kernel_rfl) (fun _ _ _ h => h) (Or.inl ⟨by kernel_rfl, ?_⟩) (by assumption) ?_
    rotate_left
    · intro w hSw
      (try dsimp only at hSw)
      go_simp
      all_goals (with_reducible rfl)
    (try simp only [Act.put, List.setIfInBounds_toArray, List.set_cons_zero, List.set_cons_succ])
    refine wpAnyH_take (i := 3) (oi := { dst := some 14, op := Op.load 27 (Operand.tmp 13), type := 27, pos := "law.go:103", after := #[{ on := 2, ground := Ground.data }], guard := none }) (v := ?_) rfl (by kernel_rfl) (by kernel_rfl) (by kernel_rfl) (fun _ _ _ h => h) (Or.inl ⟨by kernel_rfl, ?_⟩) (by assumption) ?_
    rotate_left
    · intro w hSw
      (try dsimp only at hSw)
      go_simp
      all_goals (with_reducible rfl)
    (try simp only [Act.put, List.setIfInBounds_toArray, List.set_cons_zero, List.set_cons_succ])
    refine wpAnyH_take (i := 4) (oi := { dst := some 15, op := Op.fieldAddr 62 (Operand.tmp 3) 2, type := 0, pos := "law.go:103", after := #[], guard := none }) (v := ?_) rfl (by kernel_rfl) (by kernel_rfl) (by kernel_rfl) (fun _ _ _ h => h) (Or.inl ⟨by kernel_rfl, ?_⟩) (by assumption) ?_
    rotate_left
    · intro w hSw
      (try dsimp only at hSw)
      go_simp
      all_goals (with_reducible rfl)
    (try simp only [Act.put, List.setIfInBounds_toArray, List.set_cons_zero, List.set_cons_succ])
    refine wpAnyH_take (i := 5) (oi := { dst := some 16, op := Op.load 3 (Operand.tmp 15), type := 3, pos := "law.go:103", after := #[{ on := 4, ground := Ground.data }], guard := none }) (v := ?_) rfl (by kernel_rfl) (by kernel_rfl) (by kernel_rfl) (fun _ _ _ h => h) (Or.inl ⟨by kernel_rfl, ?_⟩) (by assumption) ?_
    rotate_left
    · intro w hSw
      (try dsimp only at hSw)
      go_simp
      all_goals (with_reducible rfl)
    (try simp only [Act.put, List.setIfInBounds_toArray, List.set_cons_zero, List.set_cons_succ])
    refine wpAnyH_take (i := 9) (oi := { dst := some 20, op := Op.move (Operand.tmp 0), type := 24, pos := "law.go:103", after := #[], guard := none }) (v := ?_) rfl (by kernel_rfl) (by kernel_rfl) (by kernel_rfl) (fun _ _ _ h => h) (Or.inl ⟨by kernel_rfl, ?_⟩) (by assumption) ?_
    rotate_left
    · intro w hSw
      (try dsimp only at hSw)
      go_simp
      all_goals (with_reducible rfl)
    (try simp only [Act.put, List.setIfInBounds_toArray, List.set_cons_zero, List.set_cons_succ])
    refine wpAnyH_take (i := 10) (oi := { dst := some 21, op := Op.nilCheck (Operand.tmp 20), type := 0, pos := "law.go:103", after := #[{ on := 9, ground := Ground.data }], guard := none }) (v := ?_) rfl (by kernel_rfl) (by kernel_rfl) (by kernel_rfl) (fun _ _ _ h => h) (Or.inl ⟨by kernel_rfl, ?_⟩) (by assumption) ?_
    rotate_left
    · intro w hSw
      (try dsimp only at hSw)
      go_simp
      all_goals (with_reducible rfl)
    (try simp only [Act.put, List.setIfInBounds_toArray, List.set_cons_zero, List.set_cons_succ])
    refine wpAnyH_take (i := 11) (oi := { dst := some 22, op := Op.fieldAddr 32 (Operand.tmp 21) 2, type := 0, pos := "law.go:103", after := #[{ on := 10, ground := Ground.data }], guard := none }) (v := ?_) rfl (by kernel_rfl) (by kernel_rfl) (by kernel_rfl) (fun _ _ _ h => h) (Or.inl ⟨by kernel_rfl, ?_⟩) (by assumption) ?_
    rotate_left
    · intro w hSw
      (try dsimp only at hSw)
      go_simp
      all_goals (with_reducible rfl)
    (try simp only [Act.put, List.setIfInBounds_toArray, List.set_cons_zero, List.set_cons_succ])
    refine wpAnyH_take (i := 12) (oi := { dst := some 23, op := Op.load 29 (Operand.tmp 22), type := 29, pos := "law.go:103", after := #[{ on := 11, ground := Ground.data }], guard := none }) (v := ?_) rfl (by kernel_rfl) (by kernel_rfl) (by kernel_rfl) (fun _ _ _ h => h) (Or.inl ⟨by kernel_rfl, ?_⟩) (by assumption) ?_
    rotate_left
    · intro w hSw
      (try dsimp only at hSw)
      go_simp
      all_goals (with_reducible rfl)
    (try simp only [Act.put, List.setIfInBounds_toArray, List.set_cons_zero, List.set_cons_succ])
    refine wpAnyH_take (i := 13) (oi := { dst := some 24, op := Op.fieldAddr 62 (Operand.tmp 3) 2, type := 0, pos := "law.go:103", after := #[], guard := none }) (v := ?_) rfl (by kernel_rfl) (by kernel_rfl) (by kernel_rfl) (fun _ _ _ h => h) (Or.inl ⟨by kernel_rfl, ?_⟩) (by assumption) ?_
    rotate_left
    · intro w hSw
      (try dsimp only at hSw)
      go_simp
      all_goals (with_reducible rfl)
    (try simp only [Act.put, List.setIfInBounds_toArray, List.set_cons_zero, List.set_cons_succ])
    refine wpAnyH_take (i := 14) (oi := { dst := some 25, op := Op.load 3 (Operand.tmp 24), type := 3, pos := "law.go:103", after := #[{ on := 13, ground := Ground.data }], guard := none }) (v := ?_) rfl (by kernel_rfl) (by kernel_rfl) (by kernel_rfl) (fun _ _ _ h => h) (Or.inl ⟨by kernel_rfl, ?_⟩) (by assumption) ?_
    rotate_left
    · intro w hSw
      (try dsimp only at hSw)
      go_simp
      all_goals (with_reducible rfl)
    (try simp only [Act.put, List.setIfInBounds_toArray, List.set_cons_zero, List.set_cons_succ])
    refine wpAnyH_one1 (i := 6) (o := { dst := some 17, op := Op.call { callee := Callee.value (Operand.func 14), args := #[Operand.tmp 16, Operand.const (Value.int IntKind.i64 5)], argTypes := #[3, 3] }, type := 3, pos := "law.go:103", after := #[{ on := 5, ground := Ground.data }], guard := none }) (by kernel_rfl) rfl (fun K hK => ?_)
    go_simp
    refine (HPN.out _).mono ?_
    rintro e wq ⟨rfl, hq⟩
    subst hq
    refine hK.out _ _ ?_ (fun hHeld2 => ?_)
    · exact hHeld
    clear hHeld
    have hHeld := hHeld2
    clear hHeld2
    clear hK K
    (try simp only [Act.put, List.setIfInBounds_toArray, List.set_cons_zero, List.set_cons_succ])
    refine wpAnyH_take (i := 7) (oi := { dst := some 18, op := Op.binOp BinOp.add 3 (Operand.const (Value.int IntKind.i64 1)) (Operand.tmp 17) 3, type := 3, pos := "law.go:103", after := #[{ on := 6, ground := Ground.data }], guard := none }) (v := ?_) rfl (by kernel_rfl) (by kernel_rfl) (by kernel_rfl) (fun _ _ _ h => h) (Or.inl ⟨by kernel_rfl, ?_⟩) (by assumption) ?_
    rotate_left
    · intro w hSw
      (try dsimp only at hSw)
      go_simp
      all_goals (with_reducible rfl)
    (try simp only [Act.put, List.setIfInBounds_toArray, List.set_cons_zero, List.set_cons_succ])
    refine wpAnyH_one1 (i := 8) (o := { dst := some 19, op := Op.call { callee := Callee.value (Operand.func 29), args := #[Operand.tmp 14, Operand.tmp 18], argTypes := #[27, 3] }, type := 33, pos := "law.go:103", after := #[{ on := 3, ground := Ground.data }, { on := 7, ground := Ground.data }, { on := 6, ground := Ground.chain }], guard := none }) (by kernel_rfl) rfl (fun K hK => ?_)
    go_simp
    refine (d_cut HD.out (by exact sb) (1 + q) (by omega)).mono ?_
    rintro e w4 ⟨rfl, hd4, hk4, b4⟩
    have K4 := kept_trans HKR.out hk4 (Nat.le_refl _)
    refine hK.out _ _ ?_ (fun hHeld2 => ?_)
    · exact HCE.out _ K4
    clear hHeld
    have hHeld := hHeld2
    clear hHeld2
    clear hK K
    (try simp only [Act.put, List.setIfInBounds_toArray, List.set_cons_zero, List.set_cons_succ])
    refine wpAnyH_one1 (i := 15) (o := { dst := some 26, op := Op.call { callee := Callee.value (Operand.func 14), args := #[Operand.tmp 25, Operand.const (Value.int IntKind.i64 5)], argTypes := #[3, 3] }, type := 3, pos := "law.go:103", after := #[{ on := 14, ground := Ground.data }, { on := 8, ground := Ground.chain }], guard := none }) (by kernel_rfl) rfl (fun K hK => ?_)
    go_simp
    refine (HPN.out _).mono ?_
    rintro e wq ⟨rfl, hq⟩
    subst hq
    refine hK.out _ _ ?_ (fun hHeld2 => ?_)
    · exact hHeld
    clear hHeld
    have hHeld := hHeld2
    clear hHeld2
    clear hK K
    (try simp only [Act.put, List.setIfInBounds_toArray, List.set_cons_zero, List.set_cons_succ])
    refine wpAnyH_take (i := 16) (oi := { dst := some 27, op := Op.binOp BinOp.add 3 (Operand.const (Value.int IntKind.i64 1)) (Operand.tmp 26) 3, type := 3, pos := "law.go:103", after := #[{ on := 15, ground := Ground.data }], guard := none }) (v := ?_) rfl (by kernel_rfl) (by kernel_rfl) (by kernel_rfl) (fun _ _ _ h => h) (Or.inl ⟨by kernel_rfl, ?_⟩) (by assumption) ?_
    rotate_left
    · intro w hSw
      (try dsimp only at hSw)
      go_simp
      all_goals (with_reducible rfl)
    (try simp only [Act.put, List.setIfInBounds_toArray, List.set_cons_zero, List.set_cons_succ])
    refine wpAnyH_one1 (i := 17) (o := { dst := some 28, op := Op.call { callee := Callee.value (Operand.func 66), args := #[Operand.tmp 23, Operand.tmp 27], argTypes := #[29, 3] }, type := 33, pos := "law.go:103", after := #[{ on := 12, ground := Ground.data }, { on := 16, ground := Ground.data }, { on := 15, ground := Ground.chain }], guard := none }) (by kernel_rfl) rfl (fun K hK => ?_)
    go_simp
    refine (r_cut hd4 (Nat.le_trans sb b4.size) (1 + q) (by omega)).mono ?_
    rintro e w5 ⟨rfl, hd5, hk5, b5⟩
    have K5 := kept_trans K4 hk5 b4.size
    refine hK.out _ _ ?_ (fun hHeld2 => ?_)
    · exact HCE.out _ K5
    clear hHeld
    have hHeld := hHeld2
    clear hHeld2
    clear hK K
    (try simp only [Act.put, List.setIfInBounds_toArray, List.set_cons_zero, List.set_cons_succ])
    refine wpAnyH_take (i := 18) (oi := { dst := some 29, op := Op.binOp BinOp.eql 33 (Operand.tmp 19) (Operand.tmp 28) 33, type := 4, pos := "law.go:103", after := #[{ on := 8, ground := Ground.data }, { on := 17, ground := Ground.data }], guard := none }) (v := ?_) rfl (by kernel_rfl) (by kernel_rfl) (by kernel_rfl) (fun _ _ _ h => h) (Or.inl ⟨by kernel_rfl, ?_⟩) (by assumption) ?_
    rotate_left
    · intro w hSw
      (try dsimp only at hSw)
      go_simp
      all_goals (with_reducible rfl)
    (try simp only [Act.put, List.setIfInBounds_toArray, List.set_cons_zero, List.set_cons_succ])
    refine wpAnyH_take (i := 19) (oi := { dst := some 4, op := Op.assign (Operand.tmp 29), type := 4, pos := "law.go:103", after := #[{ on := 18, ground := Ground.data }, { on := 17, ground := Ground.chain }, { on := 0, ground := Ground.phase }, { on := 1, ground := Ground.phase }, { on := 2, ground := Ground.phase }, { on := 3, ground := Ground.phase }, { on := 4, ground := Ground.phase }, { on := 5, ground := Ground.phase }, { on := 6, ground := Ground.phase }, { on := 7, ground := Ground.phase }, { on := 8, ground := Ground.phase }, { on := 9, ground := Ground.phase }, { on := 10, ground := Ground.phase }, { on := 11, ground := Ground.phase }, { on := 12, ground := Ground.phase }, { on := 13, ground := Ground.phase }, { on := 14, ground := Ground.phase }, { on := 15, ground := Ground.phase }, { on := 16, ground := Ground.phase }, { on := 17, ground := Ground.phase }, { on := 18, ground := Ground.phase }], guard := none }) (v := ?_) rfl (by kernel_rfl) (by kernel_rfl) (by kernel_rfl) (fun _ _ _ h => h) (Or.inl ⟨by kernel_rfl, ?_⟩) (by assumption) ?_
    rotate_left
    · intro w hSw
      (try dsimp only at hSw)
      go_simp
      all_goals (with_reducible rfl)
    (try simp only [Act.put, List.setIfInBounds_toArray, List.set_cons_zero, List.set_cons_succ])
    refine wpAnyH_done (by kernel_rfl) ?_ _
    refine NoPanic.normal ?_
    have B5 : Below base WA w5 := ((Below.refl base WA).drew.trans b4).trans b5
    have HFN := Lib.hid (And.intro (HST.out.1.kept hd5 K5) (HST.out.2.trans B5))
    have hpc := cut_pend D (1 + q)
    clear hHeld hd4 hd5 hk4 hk5 b4 b5 K4 K5 B5
    go_wp2
    go_ret
    exact ⟨rfl, _, _, HFN.out.1, by omega, HOK.out, HFN.out.2⟩
  · have hmin2 : (0 : Int) ≤ min (keep.length : Int) 20 ∧ min (keep.length : Int) 20 ≤ (kc : Int) := by omega
    have hmn : (min (keep.length : Int) 20).toNat = min keep.length 20 := by omega
    obtain ⟨m, hm⟩ : ∃ m, min keep.length 20 = m := ⟨_, rfl⟩
    have HKT := Lib.hid (fun V (hb : Below base W V) => show IntsAt V (.slice ka (min (keep.length : Int) 20).toNat kc) (keep.take m) by rw [hmn, hm]; exact ints_take (HVK.out V hb) m (by omega))
    have hkt : (keep.take m).length ≤ 1000 := by rw [List.length_take]; omega
    generalize keep.take m = kl at HKT hkt
    have HBD := Lib.hid (show Below base W WA.drew from HST.out.2.trans (Below.refl base WA).drew)
    clear hmn hm
    go_wp2_with fail
    go_still_tail 7, (by kernel_rfl)
    change wpList _ _ _ _ _ WA.drew
    go_wp2_with fail
    refine (d_crash HD.out sb _ kl (HKT.out _ HBD.out) hkt nn).mono ?_
    rintro e w4 ⟨rfl, hd4, hk4, b4⟩
    have K4 := kept_trans HKR.out hk4 (Nat.le_refl _)
    have B4 := HBD.out.trans b4
    have s4 := Nat.le_trans hb B4.size
    obtain ⟨f0, f2, g2⟩ := HCE.out _ K4
    have HD4 := Lib.hid (r_crash (W := w4.drew) (Duo.below hd4 (Below.refl _ _).drew) s4 (by omega) _ kl (HKT.out _ (B4.trans (Below.refl base w4).drew)) nn)
    clear e0 e1 e2 e3 a0 a1 a2 a3
    go_wp2_with fail
    go_still_tail 7, (by kernel_rfl)
    change wpList _ _ _ _ _ w4.drew
    go_wp2_with fail
    refine HD4.out.mono ?_
    rintro e w5 ⟨rfl, hd5, hk5, b5⟩
    have K5 := kept_trans K4 (kept_trans (Kept.below ((Below.refl _ _).drew)) hk5 (Nat.le_refl _)) (Nat.le_trans (Below.refl base WA).drew.size b4.size)
    have B5 := (B4.trans (Below.refl base w4).drew).trans b5
    have hS5 := HST.out.1.kept hd5 K5
    have HO5 := Lib.hid (open17 hS5 (Nat.le_trans hb B5.size) (HEV.out _ B5) (by show ([] : List WrD).length ≤ 90000; decide) hn)
    have HI5 := Lib.hid (openedJ_ok (DuoB.inv hd5))
    have hop := open_pend n (crashD D kl nn)
    have hpz : (crashD D kl nn).pend.length = 0 := rfl
    clear hd4 hk4 b4 K4 hd5 hk5 b5 K5 hS5 HD4 f0 f2 g2
    go_wp2_with fail
    refine HO5.out.mono ?_
    rintro e w6 ⟨rfl, hS6, b6⟩
    have HFN := Lib.hid (And.intro hS6 (B5.trans b6))
    clear hS6 b6 B5
    go_wp2
    go_ret
    exact ⟨rfl, _, _, HFN.out.1, by omega, HI5.out, HFN.out.2⟩
  · have HO5 := Lib.hid (open17 HST.out.1 sb (HEV.out _ HST.out.2) (by omega) hn)
    have HI5 := Lib.hid (openedJ_ok (DuoB.inv HST.out.1.duo))
    have hop := open_pend n D
    clear e0 e1 e2 e3 a1 a2 a3
    go_wp2_with fail
    refine HO5.out.mono ?_
    rintro e w6 ⟨rfl, hS6, b6⟩
    have HFN := Lib.hid (And.intro hS6 (HST.out.2.trans b6))
    clear hS6 b6
    go_wp2
    go_ret
    exact ⟨rfl, _, _, HFN.out.1, by omega, HI5.out, HFN.out.2⟩
  · cases oj with
    | none =>
      obtain ⟨rfl, rfl⟩ := hJB.out.2.2
      have HD1 := Lib.hid (fun V (hb : Below WA.heap.size WA V) => few11 (.slice la l.length lc) l V (HVL.out V (HST.out.2.trans (hb.mono sb))) hz)
      have HCN := Lib.hid (fun (V : World) (hb : Below WA.heap.size WA V) => show V.cell? ⟨Wb, 1, none⟩ = some (.pointer none) ∧ V.cell? ⟨A, 1, none⟩ = some (.slice la l.length lc) from ⟨(hJB.out.1.below hb hJB.out.1.lt).cell 1, (hJB.out.2.1.below hb hJB.out.2.1.lt).cell 1⟩)
      have HDR := Lib.hid (show Below WA.heap.size WA WA.drew from (Below.refl _ _).drew)
      go_upto_region 12 with (fail)
      refine wp_region_noPanic ?_
      refine wp_region_held_drew (S := (fun w' => w'.cell? ⟨Wb, 1, none⟩ = some (.pointer none) ∧ w'.cell? ⟨A, 1, none⟩ = some (.slice la l.length lc))) (by kernel_rfl) (HCN.out _ HDR.out) (fun hHeld => ?_)
      refine wpAnyH_take (i := 0) (oi := { dst := some 66, op := Op.move (Operand.tmp 0), type := 24, pos := "law.go:113", after := #[], guard := none }) (v := ?_) rfl (by kernel_rfl) (by kernel_rfl) (by kernel_rfl) (fun _ _ _ h => h) (Or.inl ⟨by kernel_rfl, ?_⟩) (by assumption) ?_
      rotate_left
      · intro w hSw
        (try dsimp only at hSw)
        go_simp
        all_goals (with_reducible rfl)
      (try simp only [Act.put, List.setIfInBounds_toArray, List.set_cons_zero, List.set_cons_succ])
      refine wpAnyH_take (i := 1) (oi := { dst := some 67, op := Op.nilCheck (Operand.tmp 66), type := 0, pos := "law.go:113", after := #[{ on := 0, ground := Ground.data }], guard := none }) (v := ?_) rfl (by kernel_rfl) (by kernel_rfl) (by kernel_rfl) (fun _ _ _ h => h) (Or.inl ⟨by kernel_rfl, ?_⟩) (by assumption) ?_
      rotate_left
      · intro w hSw
        (try dsimp only at hSw)
        go_simp
        all_goals (with_reducible rfl)
      (try simp only [Act.put, List.setIfInBounds_toArray, List.set_cons_zero, List.set_cons_succ])
      refine wpAnyH_take (i := 2) (oi := { dst := some 68, op := Op.fieldAddr 32 (Operand.tmp 67) 1, type := 0, pos := "law.go:113", after := #[{ on := 1, ground := Ground.data }], guard := none }) (v := ?_) rfl (by kernel_rfl) (by kernel_rfl) (by kernel_rfl) (fun _ _ _ h => h) (Or.inl ⟨by kernel_rfl, ?_⟩) (by assumption) ?_
      rotate_left
      · intro w hSw
        (try dsimp only at hSw)
        go_simp
        all_goals (with_reducible rfl)
      (try simp only [Act.put, List.setIfInBounds_toArray, List.set_cons_zero, List.set_cons_succ])
      refine wpAnyH_take (i := 3) (oi := { dst := some 69, op := Op.load 28 (Operand.tmp 68), type := 28, pos := "law.go:113", after := #[{ on := 2, ground := Ground.data }], guard := none }) (v := ?_) rfl (by kernel_rfl) (by kernel_rfl) (by kernel_rfl) (fun _ _ _ h => h) (Or.inl ⟨by kernel_rfl, ?_⟩) (by assumption) ?_
      rotate_left
      · intro w hSw
        (try dsimp only at hSw)
        go_simp
        all_goals (with_reducible rfl)
      (try simp only [Act.put, List.setIfInBounds_toArray, List.set_cons_zero, List.set_cons_succ])
      refine wpAnyH_take (i := 4) (oi := { dst := some 70, op := Op.fieldAddr 62 (Operand.tmp 3) 1, type := 0, pos := "law.go:113", after := #[], guard := none }) (v := ?_) rfl (by kernel_rfl) (by kernel_rfl) (by kernel_rfl) (fun _ _ _ h => h) (Or.inl ⟨by kernel_rfl, ?_⟩) (by assumption) ?_
      rotate_left
      · intro w hSw
        (try dsimp only at hSw)
        go_simp
        all_goals (with_reducible rfl)
      (try simp only [Act.put, List.setIfInBounds_toArray, List.set_cons_zero, List.set_cons_succ])
      refine wpAnyH_take (i := 5) (oi := { dst := some 71, op := Op.load 22 (Operand.tmp 70), type := 22, pos := "law.go:113", after := #[{ on := 4, ground := Ground.data }], guard := none }) (v := ?_) rfl (by kernel_rfl) (by kernel_rfl) (by kernel_rfl) (fun _ _ _ h => h) (Or.inl ⟨by kernel_rfl, ?_⟩) (by assumption) ?_
      rotate_left
      · intro w hSw
        (try dsimp only at hSw)
        go_simp
        all_goals (with_reducible rfl)
      (try simp only [Act.put, List.setIfInBounds_toArray, List.set_cons_zero, List.set_cons_succ])
      refine wpAnyH_one1 (i := 6) (o := { dst := some 72, op := Op.call { callee := Callee.value (Operand.func 11), args := #[Operand.tmp 71], argTypes := #[22] }, type := 22, pos := "law.go:113", after := #[{ on := 5, ground := Ground.data }], guard := none }) (by kernel_rfl) rfl (fun K hK => ?_)
      go_simp
      refine (HD1.out _ HDR.out).mono ?_
      rintro e w4 ⟨v4, rfl, ho4, b4⟩
      have B4 := HDR.out.trans b4
      refine hK.out _ _ ?_ (fun hHeld2 => ?_)
      · exact HCN.out _ B4
      clear hHeld
      have hHeld := hHeld2
      clear hHeld2
      clear hK K
      (try simp only [Act.put, List.setIfInBounds_toArray, List.set_cons_zero, List.set_cons_succ])
      refine wpAnyH_one1 (i := 7) (o := { dst := some 73, op := Op.call { callee := Callee.value (Operand.func 10), args := #[Operand.tmp 69, Operand.tmp 72], argTypes := #[28, 22] }, type := 33, pos := "law.go:113", after := #[{ on := 3, ground := Ground.data }, { on := 6, ground := Ground.data }, { on := 6, ground := Ground.chain }], guard := none }) (by kernel_rfl) rfl (fun K hK => ?_)
      go_simp
      refine (append_nil10 _ _).mono ?_
      rintro e wq ⟨rfl, hq⟩
      subst hq
      refine hK.out _ _ ?_ (fun hHeld2 => ?_)
      · exact hHeld
      clear hHeld
      have hHeld := hHeld2
      clear hHeld2
      clear hK K
      (try simp only [Act.put, List.setIfInBounds_toArray, List.set_cons_zero, List.set_cons_succ])
      refine wpAnyH_take (i := 8) (oi := { dst := some 74, op := Op.binOp BinOp.eql 33 (Operand.tmp 73) (Operand.const (Value.int IntKind.i64 1)) 33, type := 4, pos := "law.go:113", after := #[{ on := 7, ground := Ground.data }], guard := none }) (v := ?_) rfl (by kernel_rfl) (by kernel_rfl) (by kernel_rfl) (fun _ _ _ h => h) (Or.inl ⟨by kernel_rfl, ?_⟩) (by assumption) ?_
      rotate_left
      · intro w hSw
        (try dsimp only at hSw)
        go_simp
        all_goals (with_reducible rfl)
      (try simp only [Act.put, List.setIfInBounds_toArray, List.set_cons_zero, List.set_cons_succ])
      refine wpAnyH_take (i := 9) (oi := { dst := some 4, op := Op.assign (Operand.tmp 74), type := 4, pos := "law.go:113", after := #[{ on := 8, ground := Ground.data }, { on := 7, ground := Ground.chain }, { on := 0, ground := Ground.phase }, { on := 1, ground := Ground.phase }, { on := 2, ground := Ground.phase }, { on := 3, ground := Ground.phase }, { on := 4, ground := Ground.phase }, { on := 5, ground := Ground.phase }, { on := 6, ground := Ground.phase }, { on := 7, ground := Ground.phase }, { on := 8, ground := Ground.phase }], guard := none }) (v := ?_) rfl (by kernel_rfl) (by kernel_rfl) (by kernel_rfl) (fun _ _ _ h => h) (Or.inl ⟨by kernel_rfl, ?_⟩) (by assumption) ?_
      rotate_left
      · intro w hSw
        (try dsimp only at hSw)
        go_simp
        all_goals (with_reducible rfl)
      (try simp only [Act.put, List.setIfInBounds_toArray, List.set_cons_zero, List.set_cons_succ])
      refine wpAnyH_done (by kernel_rfl) ?_ _
      refine NoPanic.normal ?_
      have HFN := Lib.hid (And.intro (HST.out.1.below B4) (HST.out.2.trans (B4.mono sb)))
      clear hHeld ho4 b4 B4
      go_wp2
      go_ret
      exact ⟨rfl, _, _, HFN.out.1, by omega, HOK.out, HFN.out.2⟩
    | some J =>
      obtain ⟨Jb, Kb, rfl, rfl, hJb, hKb, hJ, hK⟩ := hJB.out.2.2
      have hfl := fewL_len l
      have HJO := Lib.hid (HOK.out J rfl)
      have HD1 := Lib.hid (fun V (hb : Below base WA V) => few11 (.slice la l.length lc) l V (HVL.out V (HST.out.2.trans hb)) hz)
      have HJJ := Lib.hid (And.intro hJ hK)
      obtain ⟨vr, hbJ, hoJ⟩ := hJ.ex
      obtain ⟨vr2, hbK, hoK⟩ := hK.ex
      have hWJ : Wb ≠ Jb := hJB.out.1.ne hbJ (by decide)
      have hAJ : A ≠ Jb := hJB.out.2.1.ne hbJ (by decide)
      have hKJ : Kb ≠ Jb := hbK.ne hbJ (by decide)
      have h9J : ∀ (V : World) (k : Nat) (cs cs2 : Array Value), Blk V k cs 9 → Blk V Jb cs2 74 → k ≠ Jb := fun V k cs cs2 h1 h2 => h1.ne h2 (by decide)
      have HNE := Lib.hid (And.intro hWJ (And.intro hAJ hKJ))
      have HJL := Lib.hid hJb
      have HKL := Lib.hid hKb
      have HPJ := Lib.hid (fun (E : DiskD) => appJ_ok (n := n) (J := J) (D := E) (l := fewL l) HJO.out (fun t ht => Nat.le_trans (fewL_size l t ht) (by decide)))
      have HAP := Lib.hid (app_pend n J D (fewL l))
      have HCN := Lib.hid (fun (V : World) (hb : Below WA.heap.size WA V) => show V.cell? ⟨Wb, 1, none⟩ = some (.pointer (some ⟨Jb, 0, none⟩)) ∧ V.cell? ⟨Wb, 3, none⟩ = some (.pointer (some ⟨Kb, 0, none⟩)) ∧ V.cell? ⟨A, 1, none⟩ = some (.slice la l.length lc) from ⟨(hJB.out.1.below hb hJB.out.1.lt).cell 1, (hJB.out.1.below hb hJB.out.1.lt).cell 3, (hJB.out.2.1.below hb hJB.out.2.1.lt).cell 1⟩)
      have HDR := Lib.hid (show Below WA.heap.size WA WA.drew from (Below.refl _ _).drew)
      clear hJ hK hbJ hoJ hbK hoK hWJ hAJ hKJ h9J hJb hKb
      go_upto_region 13 with (fail)
      refine wp_region_noPanic ?_
      refine wp_region_held_drew (S := (fun w' => w'.cell? ⟨Wb, 1, none⟩ = some (.pointer (some ⟨Jb, 0, none⟩)) ∧ w'.cell? ⟨Wb, 3, none⟩ = some (.pointer (some ⟨Kb, 0, none⟩)) ∧ w'.cell? ⟨A, 1, none⟩ = some (.slice la l.length lc))) (by kernel_rfl) (HCN.out _ HDR.out) (fun hHeld => ?_)
      refine wpAnyH_take (i := 0) (oi := { dst := some 75, op := Op.move (Operand.tmp 0), type := 24, pos := "law.go:115", after := #[], guard := none }) (v := ?_) rfl (by kernel_rfl) (by kernel_rfl) (by kernel_rfl) (fun _ _ _ h => h) (Or.inl ⟨by kernel_rfl, ?_⟩) (by assumption) ?_
      rotate_left
      · intro w hSw
        (try dsimp only at hSw)
        go_simp
        all_goals (with_reducible rfl)
      (try simp only [Act.put, List.setIfInBounds_toArray, List.set_cons_zero, List.set_cons_succ])
      refine wpAnyH_take (i := 1) (oi := { dst := some 76, op := Op.nilCheck (Operand.tmp 75), type := 0, pos := "law.go:115", after := #[{ on := 0, ground := Ground.data }], guard := none }) (v := ?_) rfl (by kernel_rfl) (by kernel_rfl) (by kernel_rfl) (fun _ _ _ h => h) (Or.inl ⟨by kernel_rfl, ?_⟩) (by assumption) ?_
      rotate_left
      · intro w hSw
        (try dsimp only at hSw)
        go_simp
        all_goals (with_reducible rfl)
      (try simp only [Act.put, List.setIfInBounds_toArray, List.set_cons_zero, List.set_cons_succ])
      refine wpAnyH_take (i := 2) (oi := { dst := some 77, op := Op.fieldAddr 32 (Operand.tmp 76) 1, type := 0, pos := "law.go:115", after := #[{ on := 1, ground := Ground.data }], guard := none }) (v := ?_) rfl (by kernel_rfl) (by kernel_rfl) (by kernel_rfl) (fun _ _ _ h => h) (Or.inl ⟨by kernel_rfl, ?_⟩) (by assumption) ?_
      rotate_left
      · intro w hSw
        (try dsimp only at hSw)
        go_simp
        all_goals (with_reducible rfl)
      (try simp only [Act.put, List.setIfInBounds_toArray, List.set_cons_zero, List.set_cons_succ])
      refine wpAnyH_take (i := 3) (oi := { dst := some 78, op := Op.load 28 (Operand.tmp 77), type := 28, pos := "law.go:115", after := #[{ on := 2, ground := Ground.data }], guard := none }) (v := ?_) rfl (by kernel_rfl) (by kernel_rfl) (by kernel_rfl) (fun _ _ _ h => h) (Or.inl ⟨by kernel_rfl, ?_⟩) (by assumption) ?_
      rotate_left
      · intro w hSw
        (try dsimp only at hSw)
        go_simp
        all_goals (with_reducible rfl)
      (try simp only [Act.put, List.setIfInBounds_toArray, List.set_cons_zero, List.set_cons_succ])
      refine wpAnyH_take (i := 4) (oi := { dst := some 79, op := Op.fieldAddr 62 (Operand.tmp 3) 1, type := 0, pos := "law.go:115", after := #[], guard := none }) (v := ?_) rfl (by kernel_rfl) (by kernel_rfl) (by kernel_rfl) (fun _ _ _ h => h) (Or.inl ⟨by kernel_rfl, ?_⟩) (by assumption) ?_
      rotate_left
      · intro w hSw
        (try dsimp only at hSw)
        go_simp
        all_goals (with_reducible rfl)
      (try simp only [Act.put, List.setIfInBounds_toArray, List.set_cons_zero, List.set_cons_succ])
      refine wpAnyH_take (i := 5) (oi := { dst := some 80, op := Op.load 22 (Operand.tmp 79), type := 22, pos := "law.go:115", after := #[{ on := 4, ground := Ground.data }], guard := none }) (v := ?_) rfl (by kernel_rfl) (by kernel_rfl) (by kernel_rfl) (fun _ _ _ h => h) (Or.inl ⟨by kernel_rfl, ?_⟩) (by assumption) ?_
      rotate_left
      · intro w hSw
        (try dsimp only at hSw)
        go_simp
        all_goals (with_reducible rfl)
      (try simp only [Act.put, List.setIfInBounds_toArray, List.set_cons_zero, List.set_cons_succ])
      refine wpAnyH_take (i := 8) (oi := { dst := some 83, op := Op.move (Operand.tmp 0), type := 24, pos := "law.go:115", after := #[], guard := none }) (v := ?_) rfl (by kernel_rfl) (by kernel_rfl) (by kernel_rfl) (fun _ _ _ h => h) (Or.inl ⟨by kernel_rfl, ?_⟩) (by assumption) ?_
      rotate_left
      · intro w hSw
        (try dsimp only at hSw)
        go_simp
        all_goals (with_reducible rfl)
      (try simp only [Act.put, List.setIfInBounds_toArray, List.set_cons_zero, List.set_cons_succ])
      refine wpAnyH_take (i := 9) (oi := { dst := some 84, op := Op.nilCheck (Operand.tmp 83), type := 0, pos := "law.go:115", after := #[{ on := 8, ground := Ground.data }], guard := none }) (v := ?_) rfl (by kernel_rfl) (by kernel_rfl) (by kernel_rfl) (fun _ _ _ h => h) (Or.inl ⟨by kernel_rfl, ?_⟩) (by assumption) ?_
      rotate_left
      · intro w hSw
        (try dsimp only at hSw)
        go_simp
        all_goals (with_reducible rfl)
      (try simp only [Act.put, List.setIfInBounds_toArray, List.set_cons_zero, List.set_cons_succ])
      refine wpAnyH_take (i := 10) (oi := { dst := some 85, op := Op.fieldAddr 32 (Operand.tmp 84) 3, type := 0, pos := "law.go:115", after := #[{ on := 9, ground := Ground.data }], guard := none }) (v := ?_) rfl (by kernel_rfl) (by kernel_rfl) (by kernel_rfl) (fun _ _ _ h => h) (Or.inl ⟨by kernel_rfl, ?_⟩) (by assumption) ?_
      rotate_left
      · intro w hSw
        (try dsimp only at hSw)
        go_simp
        all_goals (with_reducible rfl)
      (try simp only [Act.put, List.setIfInBounds_toArray, List.set_cons_zero, List.set_cons_succ])
      refine wpAnyH_take (i := 11) (oi := { dst := some 86, op := Op.load 30 (Operand.tmp 85), type := 30, pos := "law.go:115", after := #[{ on := 10, ground := Ground.data }], guard := none }) (v := ?_) rfl (by kernel_rfl) (by kernel_rfl) (by kernel_rfl) (fun _ _ _ h => h) (Or.inl ⟨by kernel_rfl, ?_⟩) (by assumption) ?_
      rotate_left
      · intro w hSw
        (try dsimp only at hSw)
        go_simp
        all_goals (with_reducible rfl)
      (try simp only [Act.put, List.setIfInBounds_toArray, List.set_cons_zero, List.set_cons_succ])
      refine wpAnyH_take (i := 12) (oi := { dst := some 87, op := Op.fieldAddr 62 (Operand.tmp 3) 1, type := 0, pos := "law.go:115", after := #[], guard := none }) (v := ?_) rfl (by kernel_rfl) (by kernel_rfl) (by kernel_rfl) (fun _ _ _ h => h) (Or.inl ⟨by kernel_rfl, ?_⟩) (by assumption) ?_
      rotate_left
      · intro w hSw
        (try dsimp only at hSw)
        go_simp
        all_goals (with_reducible rfl)
      (try simp only [Act.put, List.setIfInBounds_toArray, List.set_cons_zero, List.set_cons_succ])
      refine wpAnyH_take (i := 13) (oi := { dst := some 88, op := Op.load 22 (Operand.tmp 87), type := 22, pos := "law.go:115", after := #[{ on := 12, ground := Ground.data }], guard := none }) (v := ?_) rfl (by kernel_rfl) (by kernel_rfl) (by kernel_rfl) (fun _ _ _ h => h) (Or.inl ⟨by kernel_rfl, ?_⟩) (by assumption) ?_
      rotate_left
      · intro w hSw
        (try dsimp only at hSw)
        go_simp
        all_goals (with_reducible rfl)
      (try simp only [Act.put, List.setIfInBounds_toArray, List.set_cons_zero, List.set_cons_succ])
      refine wpAnyH_one1 (i := 6) (o := { dst := some 81, op := Op.call { callee := Callee.value (Operand.func 11), args := #[Operand.tmp 80], argTypes := #[22] }, type := 22, pos := "law.go:115", after := #[{ on := 5, ground := Ground.data }], guard := none }) (by kernel_rfl) rfl (fun K hK => ?_)
      go_simp
      refine (HD1.out _ (HDR.out.mono sb)).mono ?_
      rintro e w4 ⟨v4, rfl, ho4, b4⟩
      have B4 := HDR.out.trans b4
      have hd4 : DuoB w4 base n B R D D := HST.out.1.duo.below B4
      have j4 := HJJ.out.1.below B4
      have k4 := HJJ.out.2.below B4
      have B4b := HST.out.2.trans (B4.mono sb)
      have s4 := Nat.le_trans hb B4b.size
      refine hK.out _ _ ?_ (fun hHeld2 => ?_)
      · exact HCN.out _ B4
      clear hHeld
      have hHeld := hHeld2
      clear hHeld2
      clear hK K
      (try simp only [Act.put, List.setIfInBounds_toArray, List.set_cons_zero, List.set_cons_succ])
      refine wpAnyH_one1 (i := 7) (o := { dst := some 82, op := Op.call { callee := Callee.value (Operand.func 10), args := #[Operand.tmp 78, Operand.tmp 81], argTypes := #[28, 22] }, type := 33, pos := "law.go:115", after := #[{ on := 3, ground := Ground.data }, { on := 6, ground := Ground.data }, { on := 6, ground := Ground.chain }], guard := none }) (by kernel_rfl) rfl (fun K hK => ?_)
      go_simp
      refine (d_append hd4 s4 j4 HJL.out (HEV.out _ B4b) (by omega) hn HJO.out v4 (fewL l) (strs_own ho4) (by omega)).mono ?_
      rintro e w5 ⟨⟨rfl, j5⟩, hd5, hk5, b5⟩
      have W5 : Blk w5 Wb _ 32 := hk5.blk (hJB.out.1.below B4 hJB.out.1.lt) (by decide) HNE.out.1
      have A5 : Blk w5 A _ 62 := hk5.blk (hJB.out.2.1.below B4 hJB.out.2.1.lt) (by decide) HNE.out.2.1
      have k5 := k4.kept hk5 HNE.out.2.2 (fun k cs hc e => by obtain ⟨vr, hbJ, -⟩ := j4.ex; exact hc.ne hbJ (by decide) e)
      have B5b := B4b.trans b5
      have s5 := Nat.le_trans hb B5b.size
      have hl5 := fun V (hv : Below w5.heap.size w5 V) => few11 (.slice la l.length lc) l V (HVL.out V (B5b.trans (hv.mono s5))) hz
      refine hK.out _ _ ?_ (fun hHeld2 => ?_)
      · exact ⟨W5.cell 1, W5.cell 3, A5.cell 1⟩
      clear hHeld
      have hHeld := hHeld2
      clear hHeld2
      clear hK K
      (try simp only [Act.put, List.setIfInBounds_toArray, List.set_cons_zero, List.set_cons_succ])
      refine wpAnyH_one1 (i := 14) (o := { dst := some 89, op := Op.call { callee := Callee.value (Operand.func 11), args := #[Operand.tmp 88], argTypes := #[22] }, type := 22, pos := "law.go:115", after := #[{ on := 13, ground := Ground.data }, { on := 7, ground := Ground.chain }], guard := none }) (by kernel_rfl) rfl (fun K hK => ?_)
      go_simp
      refine (hl5 _ (Below.refl _ _)).mono ?_
      rintro e w6 ⟨v6, rfl, ho6, b6⟩
      have hd6 : DuoB w6 base n B R (appD n J D (fewL l)) D := Duo.below hd5 b6
      have j6 := j5.below b6
      have k6 := k5.below b6
      have W6 := W5.below b6 W5.lt
      have A6 := A5.below b6 A5.lt
      have B6b := B5b.trans (b6.mono s5)
      have s6 := Nat.le_trans hb B6b.size
      refine hK.out _ _ ?_ (fun hHeld2 => ?_)
      · exact ⟨W6.cell 1, W6.cell 3, A6.cell 1⟩
      clear hHeld
      have hHeld := hHeld2
      clear hHeld2
      clear hK K
      (try simp only [Act.put, List.setIfInBounds_toArray, List.set_cons_zero, List.set_cons_succ])
      refine wpAnyH_one1 (i := 15) (o := { dst := some 90, op := Op.call { callee := Callee.value (Operand.func 12), args := #[Operand.tmp 86, Operand.tmp 89], argTypes := #[30, 22] }, type := 33, pos := "law.go:115", after := #[{ on := 11, ground := Ground.data }, { on := 14, ground := Ground.data }, { on := 14, ground := Ground.chain }], guard := none }) (by kernel_rfl) rfl (fun K hK => ?_)
      go_simp
      refine (r_append hd6 s6 k6 HKL.out (by omega) hn HJO.out v6 (fewL l) ho6 (fewL_size l) hfl).mono ?_
      rintro e w7 ⟨⟨rfl, k7⟩, hd7, hk7, b7⟩
      obtain ⟨vrk, hbK6, -⟩ := k6.ex
      obtain ⟨vrj, hbJ6, -⟩ := j6.ex
      have W7 : Blk w7 Wb _ 32 := hk7.blk W6 (by decide) (fun e => W6.ne hbK6 (by decide) e)
      have A7 : Blk w7 A _ 62 := hk7.blk A6 (by decide) (fun e => A6.ne hbK6 (by decide) e)
      have j7 := j6.kept hk7 (fun e => hbJ6.ne hbK6 (by decide) e) (fun k cs hc e => hc.ne hbK6 (by decide) e)
      have B7b := B6b.trans b7
      refine hK.out _ _ ?_ (fun hHeld2 => ?_)
      · exact ⟨W7.cell 1, W7.cell 3, A7.cell 1⟩
      clear hHeld
      have hHeld := hHeld2
      clear hHeld2
      clear hK K
      (try simp only [Act.put, List.setIfInBounds_toArray, List.set_cons_zero, List.set_cons_succ])
      refine wpAnyH_take (i := 16) (oi := { dst := some 91, op := Op.binOp BinOp.eql 33 (Operand.tmp 82) (Operand.tmp 90) 33, type := 4, pos := "law.go:115", after := #[{ on := 7, ground := Ground.data }, { on := 15, ground := Ground.data }], guard := none }) (v := ?_) rfl (by kernel_rfl) (by kernel_rfl) (by kernel_rfl) (fun _ _ _ h => h) (Or.inl ⟨by kernel_rfl, ?_⟩) (by assumption) ?_
      rotate_left
      · intro w hSw
        (try dsimp only at hSw)
        go_simp
        all_goals (with_reducible rfl)
      (try simp only [Act.put, List.setIfInBounds_toArray, List.set_cons_zero, List.set_cons_succ])
      refine wpAnyH_take (i := 17) (oi := { dst := some 4, op := Op.assign (Operand.tmp 91), type := 4, pos := "law.go:115", after := #[{ on := 16, ground := Ground.data }, { on := 15, ground := Ground.chain }, { on := 0, ground := Ground.phase }, { on := 1, ground := Ground.phase }, { on := 2, ground := Ground.phase }, { on := 3, ground := Ground.phase }, { on := 4, ground := Ground.phase }, { on := 5, ground := Ground.phase }, { on := 6, ground := Ground.phase }, { on := 7, ground := Ground.phase }, { on := 8, ground := Ground.phase }, { on := 9, ground := Ground.phase }, { on := 10, ground := Ground.phase }, { on := 11, ground := Ground.phase }, { on := 12, ground := Ground.phase }, { on := 13, ground := Ground.phase }, { on := 14, ground := Ground.phase }, { on := 15, ground := Ground.phase }, { on := 16, ground := Ground.phase }], guard := none }) (v := ?_) rfl (by kernel_rfl) (by kernel_rfl) (by kernel_rfl) (fun _ _ _ h => h) (Or.inl ⟨by kernel_rfl, ?_⟩) (by assumption) ?_
      rotate_left
      · intro w hSw
        (try dsimp only at hSw)
        go_simp
        all_goals (with_reducible rfl)
      (try simp only [Act.put, List.setIfInBounds_toArray, List.set_cons_zero, List.set_cons_succ])
      refine wpAnyH_done (by kernel_rfl) ?_ _
      refine NoPanic.normal ?_
      have HFN := Lib.hid (And.intro (show St base w7 Wb B R n (appD n J D (fewL l)) (some (appJ n J D (fewL l))) from ⟨hd7, ⟨_, _, W7, ⟨Jb, Kb, rfl, rfl, HJL.out, HKL.out, j7, k7⟩⟩, HST.out.1.wb⟩) B7b)
      have hap := HAP.out
      clear hHeld ho4 b4 B4 hd4 j4 k4 B4b hd5 hk5 b5 W5 A5 k5 B5b hl5 j5 ho6 b6 hd6 j6 k6 W6 A6 B6b k7 hd7 hk7 b7 hbK6 hbJ6 W7 A7 j7 B7b
      go_wp2
      go_ret
      exact ⟨rfl, _, _, HFN.out.1, hap, (fun J' h => by cases h; exact HPJ.out D), HFN.out.2⟩
end Go.Proofs.YtnckpnbecmmcpaaGreatDoor

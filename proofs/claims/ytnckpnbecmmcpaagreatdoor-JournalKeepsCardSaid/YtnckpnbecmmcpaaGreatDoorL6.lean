/- nadirlaw34.JournalKeeps: the walk. -/
import Derived.Test.YtnckpnbecmmcpaaGreatDoorJL
import Derived.Test.YtnckpnbecmmcpaaGreatDoorJP
namespace Go.Proofs.YtnckpnbecmmcpaaGreatDoor
open Go.RowKit Lib
set_option maxRecDepth 100000 in
set_option maxHeartbeats 16000000 in
theorem law_keeps (n : Int) (vo : Value) (ops : List OpD) (w : World) (hE : EnvJ w) (hn : InR n) (ho : OpsAt w vo ops) :
    Calls Tryz.prog 6 #[.int .i64 n, vo] w fun e w' => e = .returned (.bool true) ∧ Below w.heap.size w w' := by
  have h3 : 3 < w.heap.size := hE.1.1
  have HE := Lib.hid (fun W (hb : Below w.heap.size w W) => hE.below h3 hb)
  have hsane := Lib.hid (sane8 w hE)
  have hsz := Lib.hid (fun W => size15 n W hn)
  obtain ⟨hN1, hN2⟩ := sizeN_bd n
  generalize sizeN n = N at hsz hN1 hN2
  have hnew := Lib.hid (fun W => new_own N W hN1 (by omega))
  have hg0 := Good.new (n := N) hN1 (by omega)
  obtain ⟨oe1, ol1, g1, l1⟩ := open_good hg0 rfl
  generalize hD1 : openD N (newD N) = D1 at g1 l1
  have P1 := Lib.hid (And.intro oe1 (And.intro ol1 hD1))
  have HI := Lib.hid (KeepI.good g1)
  clear oe1 ol1 hD1 g1 l1 hg0 hn
  obtain ⟨oa, oc, rfl, hol1, hol2⟩ := ho.len
  have HO := Lib.hid ho
  unfold maxLen at hol2
  clear ho hE
  go_enter Tryz.func6, Tryz.ntmps6
  go_wp2_with fail
  refine hsane.out.mono ?_
  rintro e w1 ⟨rfl, b1⟩
  go_wp2_with fail
  refine (hsz.out _).mono ?_
  rintro e wq ⟨rfl, rfl⟩
  go_wp2_with fail
  refine (hnew.out _).mono ?_
  rintro e w2 ⟨B, rfl, h2, b2⟩
  have s2 := b2.size
  go_wp2_with fail
  have b2' := b1.trans (b2.mono b1.size)
  refine (sys_open h2 s2 (HE.out _ b2') (by show ([] : List WrD).length ≤ 90000; decide) (by omega)).mono ?_
  rw [P1.out.1, P1.out.2.1, P1.out.2.2]
  rintro e w3 ⟨⟨hcon, -⟩ | ⟨-, Jb, rfl, h3'⟩, -, b3⟩
  · exact absurd rfl hcon
  have b3' := b2.trans b3
  have HB1 := Lib.hid b1
  clear b1 b2 b2' b3 h2 s2 hsane hsz hnew P1
  go_wp2
  go_loopw [8, 10, 11] (fun u8 u10 u11 wr => ∃ (k : Nat) (Jb : Nat) (J : JouD) (D : DiskD) (sure : List ByteArray), k ≤ ops.length ∧ k ≤ 20 ∧ u11 = .int .i64 k ∧ u8 = .pointer (some ⟨Jb, 0, none⟩) ∧ RowsAt wr [(u10, sure)] ∧ SysB w1.heap.size wr Jb B N J D ∧ Hid (KeepI N J D sure) ∧ Below w1.heap.size w1 wr) (fun _ _ u11 _ => (20 - intOf u11).toNat)
  case atStart => exact ⟨0, Jb, _, _, [], by omega, by omega, rfl, rfl, (RowsAt.nil _).cons RowsAt.nilRow, h3', HI, b3'⟩
  case round =>
    clear HI h3'
    obtain ⟨k, Jb, J, D, sure, hkl, hk20, rfl, rfl, hrows, hS, hI, hBr⟩ := hrel
    rename World => wr
    have sr := hBr.size
    by_cases hkk : k < ops.length ∧ k < 20
    · obtain ⟨hkl, hk20⟩ := hkk
      have hx := List.getElem?_eq_getElem hkl
      generalize ops[k] = x at hx
      obtain ⟨ob, oo, vL, vK, rfl, c0, c1, c2, c3, hvL, hzL, hvK, hir, hiN⟩ := HO.out.get hx
      obtain ⟨xk, xL, xN, xK⟩ := x
      simp only at c0 c1 c2 c3 hvL hzL hvK hir hiN
      obtain ⟨ka, kc, rfl, hkl1, hkl2⟩ := ints_len hvK
      unfold maxLen at hkl2
      have l0 := World.block_lt_of_cell? _ _ c0
      have HCW := Lib.hid (fun W (hb : Below w1.heap.size w1 W) => show W.cell? ⟨ob, oo + k * 4, none⟩ = some (.int .i64 xk) ∧ W.cell? ⟨ob, oo + k * 4 + 1, none⟩ = some vL ∧ W.cell? ⟨ob, oo + k * 4 + 2, none⟩ = some (.int .i64 xN) ∧ W.cell? ⟨ob, oo + k * 4 + 3, none⟩ = some (.slice ka xK.length kc) from
        have hh := HB1.out.trans (hb.mono HB1.out.size)
        ⟨(hh.cell l0).trans c0, (hh.cell (p := ⟨ob, oo + k * 4 + 1, none⟩) l0).trans c1, (hh.cell (p := ⟨ob, oo + k * 4 + 2, none⟩) l0).trans c2, (hh.cell (p := ⟨ob, oo + k * 4 + 3, none⟩) l0).trans c3⟩)
      have HVL := Lib.hid (fun W (hb : Below w1.heap.size w1 W) => hvL.below (HB1.out.trans (hb.mono HB1.out.size)))
      have HVK := Lib.hid (fun W (hb : Below w1.heap.size w1 W) => hvK.below (HB1.out.trans (hb.mono HB1.out.size)))
      have HPK := Lib.hid (fun W => pick_any xk 8 W hir (by decide) (by decide))
      have HPN := Lib.hid (fun W => pick_any xN 5 W hiN (by decide) (by decide))
      have hpk := pickI_bd xk (n := 8) (by decide)
      have hpn := pickI_bd xN (n := 5) (by decide)
      generalize pickI xk 8 = p at HPK hpk
      generalize pickI xN 5 = q at HPN hpn
      have hwq : IntKind.i64.wrap (1 + q) = 1 + q := wrapS _ (by omega) (by omega)
      have hki : (0 : Int) ≤ (k : Int) ∧ (k : Int) < (ops.length : Int) := by omega
      have hpend : D.pend.length ≤ 90000 := Nat.le_trans hI.out.one (by decide)
      have HSS := Lib.hid (And.intro hS (And.intro hrows hBr))
      obtain ⟨d0, d1, d2, d3⟩ := HCW.out _ hBr
      clear c0 c1 c2 c3 hvL hvK hir hiN hS hrows l0
      have hcs : ((p == 5) = true) ∨ ((p == 5) = false ∧ ((p == 6) = true ∨ ((p == 6) = false ∧ (p == 7) = true))) ∨ ((p == 5) = false ∧ (p == 6) = false ∧ (p == 7) = false) := by
        cases (p == 5) <;> cases (p == 6) <;> cases (p == 7) <;> simp
      rcases hcs with hA | ⟨hA, hB⟩ | ⟨hA, hB, hC⟩
      · go_wp2_with fail
        refine (HPK.out _).mono ?_
        rintro e wq ⟨rfl, rfl⟩
        go_wp2_with fail
        refine (HPN.out _).mono ?_
        rintro e wq ⟨rfl, rfl⟩
        go_wp2_with fail
        refine (rs_cut HSS.out.1 HSS.out.2.1 sr (1 + q) (by omega)).mono ?_
        rintro e w4 ⟨rfl, h4, r4, b4⟩
        have HS := Lib.hid (And.intro h4 (And.intro r4 (HSS.out.2.2.trans b4)))
        have HK := Lib.hid (hI.out.cut (1 + q) (by omega) (by omega))
        clear h4 r4 b4 HSS hI d0 d1 d2 d3
        generalize cutD D (1 + q) = DX at *
        obtain ⟨aU, cU, hU, hcU1, hcU2⟩ := strs_len (HS.out.2.1.strs (p := (u10, sure)) (by simp))
        have hU : u10 = Value.slice aU (sure).length cU := hU
        subst hU
        go_wp2_with fail
        refine (sys_rec HS.out.1 (by rw [HK.out.eq]; have := HK.out.len; omega)).mono ?_
        rintro e wT ⟨vT, rfl, hoT, hT, bT⟩
        rw [HK.out.eq] at hoT
        have rT := HS.out.2.1.below bT
        have BT := HS.out.2.2.trans (bT.mono HS.out.2.2.size)
        have hvT := strs_own hoT
        obtain ⟨aT, cT, rfl, hcT1, hcT2⟩ := strs_len hvT
        have HT := Lib.hid (And.intro hT (And.intro rT BT))
        have HVT := Lib.hid hvT
        clear hT rT BT hoT bT hvT HS
        unfold maxLen at hcT2
        go_wp2_with fail
        refine (same18 _ _ _ _ wT HVT.out (HT.out.2.1.strs (p := (_, sure)) (by simp))).mono ?_
        rintro e wU ⟨rfl, bU⟩
        rw [show sameB (sure) (sure) = true from sameB_iff.2 rfl]
        have HU := Lib.hid (And.intro (HT.out.1.below bU) (And.intro (HT.out.2.1.below bU) (HT.out.2.2.trans (bU.mono HT.out.2.2.size))))
        clear bU HT
        go_wp2
        go_roundw
        case rel => exact ⟨k + 1, Jb, _, _, sure, by omega, by omega, by go_num, rfl, HU.out.2.1, HU.out.1, HK, HU.out.2.2⟩
        case measure => simp [intOf]; omega
      · obtain ⟨K, oe, ol, hKK, hlen, htake⟩ := hI.out.crash (xK.take (min xK.length 20)) xN
        have HK1 := Lib.hid (And.intro oe ol)
        have HK2 := Lib.hid htake
        have HK := Lib.hid hKK
        have hKN := hKK.len
        have hmn : (min (xK.length : Int) 20).toNat = min xK.length 20 := by omega
        have HKT := Lib.hid (fun W (hb : Below w1.heap.size w1 W) => show IntsAt W (.slice ka (min (xK.length : Int) 20).toNat kc) (xK.take (min xK.length 20)) by rw [hmn]; exact ints_take (HVK.out W hb) (min xK.length 20) (by omega))
        have hkt : (xK.take (min xK.length 20)).length ≤ 1000 := by rw [List.length_take]; omega
        have HD := Lib.hid (And.intro (HSS.out.1.below (Below.refl _ _).drew) (And.intro (HSS.out.2.1.below (Below.refl _ _).drew) (HSS.out.2.2.trans ((Below.refl _ _).drew.mono sr))))
        have d2D : wr.drew.cell? ⟨ob, oo + k * 4 + 2, none⟩ = some (.int .i64 xN) := d2
        have d3D : wr.drew.cell? ⟨ob, oo + k * 4 + 3, none⟩ = some (.slice ka xK.length kc) := d3
        have hslen := hI.out.len
        clear oe ol htake hKK hmn hI d2 d3 d1
        have hmin2 : (0 : Int) ≤ min (xK.length : Int) 20 ∧ min (xK.length : Int) 20 ≤ (kc : Int) := by omega
        rcases hB with hB | ⟨hB, hC⟩
        all_goals (
          go_upto_region 18 with (refine (HPK.out _).mono ?_; rintro e wq ⟨rfl, rfl⟩)
          refine wp_region_noPanic ?_
          refine wp_region_held_drew (S := (fun w' => w'.cell? ⟨ob, oo + k * 4 + 2, none⟩ = some (.int .i64 xN) ∧ w'.cell? ⟨ob, oo + k * 4 + 3, none⟩ = some (.slice ka xK.length kc))) (by kernel_rfl) ⟨d2D, d3D⟩ (fun hHeld => ?_)
          refine wpAnyH_take (i := 0) (oi := { dst := some 81, op := Op.move (Operand.tmp 6), type := 27, pos := "law.go:212", after := #[], guard := none }) (v := ?_) rfl (by kernel_rfl) (by kernel_rfl) (by kernel_rfl) (fun _ _ _ h => h) (Or.inl ⟨by kernel_rfl, ?_⟩) (by assumption) ?_
          rotate_left
          · intro w hSw
            (try dsimp only at hSw)
            go_simp
            all_goals (with_reducible rfl)
          (try simp only [Act.put, List.setIfInBounds_toArray, List.set_cons_zero, List.set_cons_succ])
          refine wpAnyH_take (i := 1) (oi := { dst := some 82, op := Op.move (Operand.tmp 1), type := 60, pos := "law.go:212", after := #[], guard := none }) (v := ?_) rfl (by kernel_rfl) (by kernel_rfl) (by kernel_rfl) (fun _ _ _ h => h) (Or.inl ⟨by kernel_rfl, ?_⟩) (by assumption) ?_
          rotate_left
          · intro w hSw
            (try dsimp only at hSw)
            go_simp
            all_goals (with_reducible rfl)
          (try simp only [Act.put, List.setIfInBounds_toArray, List.set_cons_zero, List.set_cons_succ])
          refine wpAnyH_take (i := 2) (oi := { dst := some 83, op := Op.move (Operand.tmp 11), type := 3, pos := "law.go:212", after := #[], guard := none }) (v := ?_) rfl (by kernel_rfl) (by kernel_rfl) (by kernel_rfl) (fun _ _ _ h => h) (Or.inl ⟨by kernel_rfl, ?_⟩) (by assumption) ?_
          rotate_left
          · intro w hSw
            (try dsimp only at hSw)
            go_simp
            all_goals (with_reducible rfl)
          (try simp only [Act.put, List.setIfInBounds_toArray, List.set_cons_zero, List.set_cons_succ])
          refine wpAnyH_take (i := 3) (oi := { dst := some 84, op := Op.indexAddr 60 (Operand.tmp 82) (Operand.tmp 83), type := 0, pos := "law.go:212", after := #[{ on := 1, ground := Ground.data }, { on := 2, ground := Ground.data }], guard := none }) (v := ?_) rfl (by kernel_rfl) (by kernel_rfl) (by kernel_rfl) (fun _ _ _ h => h) (Or.inl ⟨by kernel_rfl, ?_⟩) (by assumption) ?_
          rotate_left
          · intro w hSw
            (try dsimp only at hSw)
            go_simp
            all_goals (with_reducible rfl)
          (try simp only [Act.put, List.setIfInBounds_toArray, List.set_cons_zero, List.set_cons_succ])
          refine wpAnyH_take (i := 4) (oi := { dst := some 85, op := Op.fieldAddr 62 (Operand.tmp 84) 3, type := 0, pos := "law.go:212", after := #[{ on := 3, ground := Ground.data }], guard := none }) (v := ?_) rfl (by kernel_rfl) (by kernel_rfl) (by kernel_rfl) (fun _ _ _ h => h) (Or.inl ⟨by kernel_rfl, ?_⟩) (by assumption) ?_
          rotate_left
          · intro w hSw
            (try dsimp only at hSw)
            go_simp
            all_goals (with_reducible rfl)
          (try simp only [Act.put, List.setIfInBounds_toArray, List.set_cons_zero, List.set_cons_succ])
          refine wpAnyH_take (i := 5) (oi := { dst := some 86, op := Op.load 56 (Operand.tmp 85), type := 56, pos := "law.go:212", after := #[{ on := 4, ground := Ground.data }], guard := none }) (v := ?_) rfl (by kernel_rfl) (by kernel_rfl) (by kernel_rfl) (fun _ _ _ h => h) (Or.inl ⟨by kernel_rfl, ?_⟩) (by assumption) ?_
          rotate_left
          · intro w hSw
            (try dsimp only at hSw)
            go_simp
            all_goals (with_reducible rfl)
          (try simp only [Act.put, List.setIfInBounds_toArray, List.set_cons_zero, List.set_cons_succ])
          refine wpAnyH_take (i := 6) (oi := { dst := some 87, op := Op.move (Operand.tmp 1), type := 60, pos := "law.go:212", after := #[], guard := none }) (v := ?_) rfl (by kernel_rfl) (by kernel_rfl) (by kernel_rfl) (fun _ _ _ h => h) (Or.inl ⟨by kernel_rfl, ?_⟩) (by assumption) ?_
          rotate_left
          · intro w hSw
            (try dsimp only at hSw)
            go_simp
            all_goals (with_reducible rfl)
          (try simp only [Act.put, List.setIfInBounds_toArray, List.set_cons_zero, List.set_cons_succ])
          refine wpAnyH_take (i := 7) (oi := { dst := some 88, op := Op.move (Operand.tmp 11), type := 3, pos := "law.go:212", after := #[], guard := none }) (v := ?_) rfl (by kernel_rfl) (by kernel_rfl) (by kernel_rfl) (fun _ _ _ h => h) (Or.inl ⟨by kernel_rfl, ?_⟩) (by assumption) ?_
          rotate_left
          · intro w hSw
            (try dsimp only at hSw)
            go_simp
            all_goals (with_reducible rfl)
          (try simp only [Act.put, List.setIfInBounds_toArray, List.set_cons_zero, List.set_cons_succ])
          refine wpAnyH_take (i := 8) (oi := { dst := some 89, op := Op.indexAddr 60 (Operand.tmp 87) (Operand.tmp 88), type := 0, pos := "law.go:212", after := #[{ on := 6, ground := Ground.data }, { on := 7, ground := Ground.data }], guard := none }) (v := ?_) rfl (by kernel_rfl) (by kernel_rfl) (by kernel_rfl) (fun _ _ _ h => h) (Or.inl ⟨by kernel_rfl, ?_⟩) (by assumption) ?_
          rotate_left
          · intro w hSw
            (try dsimp only at hSw)
            go_simp
            all_goals (with_reducible rfl)
          (try simp only [Act.put, List.setIfInBounds_toArray, List.set_cons_zero, List.set_cons_succ])
          refine wpAnyH_take (i := 9) (oi := { dst := some 90, op := Op.fieldAddr 62 (Operand.tmp 89) 3, type := 0, pos := "law.go:212", after := #[{ on := 8, ground := Ground.data }], guard := none }) (v := ?_) rfl (by kernel_rfl) (by kernel_rfl) (by kernel_rfl) (fun _ _ _ h => h) (Or.inl ⟨by kernel_rfl, ?_⟩) (by assumption) ?_
          rotate_left
          · intro w hSw
            (try dsimp only at hSw)
            go_simp
            all_goals (with_reducible rfl)
          (try simp only [Act.put, List.setIfInBounds_toArray, List.set_cons_zero, List.set_cons_succ])
          refine wpAnyH_take (i := 10) (oi := { dst := some 91, op := Op.load 56 (Operand.tmp 90), type := 56, pos := "law.go:212", after := #[{ on := 9, ground := Ground.data }], guard := none }) (v := ?_) rfl (by kernel_rfl) (by kernel_rfl) (by kernel_rfl) (fun _ _ _ h => h) (Or.inl ⟨by kernel_rfl, ?_⟩) (by assumption) ?_
          rotate_left
          · intro w hSw
            (try dsimp only at hSw)
            go_simp
            all_goals (with_reducible rfl)
          (try simp only [Act.put, List.setIfInBounds_toArray, List.set_cons_zero, List.set_cons_succ])
          refine wpAnyH_take (i := 11) (oi := { dst := some 92, op := Op.call { callee := Callee.builtin Builtin.len, args := #[Operand.tmp 91], argTypes := #[56] }, type := 3, pos := "law.go:212", after := #[{ on := 10, ground := Ground.data }], guard := none }) (v := ?_) rfl (by kernel_rfl) (by kernel_rfl) (by kernel_rfl) (fun _ _ _ h => h) (Or.inl ⟨by kernel_rfl, ?_⟩) (by assumption) ?_
          rotate_left
          · intro w hSw
            (try dsimp only at hSw)
            go_simp
            all_goals (with_reducible rfl)
          (try simp only [Act.put, List.setIfInBounds_toArray, List.set_cons_zero, List.set_cons_succ])
          refine wpAnyH_take (i := 12) (oi := { dst := some 93, op := Op.call { callee := Callee.builtin Builtin.min, args := #[Operand.tmp 92, Operand.const (Value.int IntKind.i64 20)], argTypes := #[3, 3] }, type := 3, pos := "law.go:212", after := #[{ on := 11, ground := Ground.data }], guard := none }) (v := ?_) rfl (by kernel_rfl) (by kernel_rfl) (by kernel_rfl) (fun _ _ _ h => h) (Or.inl ⟨by kernel_rfl, ?_⟩) (by assumption) ?_
          rotate_left
          · intro w hSw
            (try dsimp only at hSw)
            go_simp
            all_goals (with_reducible rfl)
          (try simp only [Act.put, List.setIfInBounds_toArray, List.set_cons_zero, List.set_cons_succ])
          refine wpAnyH_take (i := 13) (oi := { dst := some 94, op := Op.slice 56 (Operand.tmp 86) none (some (Operand.tmp 93)) none, type := 56, pos := "law.go:212", after := #[{ on := 5, ground := Ground.data }, { on := 12, ground := Ground.data }], guard := none }) (v := ?_) rfl (by kernel_rfl) (by kernel_rfl) (by kernel_rfl) (fun _ _ _ h => h) (Or.inl ⟨by kernel_rfl, ?_⟩) (by assumption) ?_
          rotate_left
          · intro w hSw
            (try dsimp only at hSw)
            go_simp
            all_goals (with_reducible rfl)
          (try simp only [Act.put, List.setIfInBounds_toArray, List.set_cons_zero, List.set_cons_succ])
          refine wpAnyH_take (i := 14) (oi := { dst := some 95, op := Op.move (Operand.tmp 1), type := 60, pos := "law.go:212", after := #[], guard := none }) (v := ?_) rfl (by kernel_rfl) (by kernel_rfl) (by kernel_rfl) (fun _ _ _ h => h) (Or.inl ⟨by kernel_rfl, ?_⟩) (by assumption) ?_
          rotate_left
          · intro w hSw
            (try dsimp only at hSw)
            go_simp
            all_goals (with_reducible rfl)
          (try simp only [Act.put, List.setIfInBounds_toArray, List.set_cons_zero, List.set_cons_succ])
          refine wpAnyH_take (i := 15) (oi := { dst := some 96, op := Op.move (Operand.tmp 11), type := 3, pos := "law.go:212", after := #[], guard := none }) (v := ?_) rfl (by kernel_rfl) (by kernel_rfl) (by kernel_rfl) (fun _ _ _ h => h) (Or.inl ⟨by kernel_rfl, ?_⟩) (by assumption) ?_
          rotate_left
          · intro w hSw
            (try dsimp only at hSw)
            go_simp
            all_goals (with_reducible rfl)
          (try simp only [Act.put, List.setIfInBounds_toArray, List.set_cons_zero, List.set_cons_succ])
          refine wpAnyH_take (i := 16) (oi := { dst := some 97, op := Op.indexAddr 60 (Operand.tmp 95) (Operand.tmp 96), type := 0, pos := "law.go:212", after := #[{ on := 14, ground := Ground.data }, { on := 15, ground := Ground.data }], guard := none }) (v := ?_) rfl (by kernel_rfl) (by kernel_rfl) (by kernel_rfl) (fun _ _ _ h => h) (Or.inl ⟨by kernel_rfl, ?_⟩) (by assumption) ?_
          rotate_left
          · intro w hSw
            (try dsimp only at hSw)
            go_simp
            all_goals (with_reducible rfl)
          (try simp only [Act.put, List.setIfInBounds_toArray, List.set_cons_zero, List.set_cons_succ])
          refine wpAnyH_take (i := 17) (oi := { dst := some 98, op := Op.fieldAddr 62 (Operand.tmp 97) 2, type := 0, pos := "law.go:212", after := #[{ on := 16, ground := Ground.data }], guard := none }) (v := ?_) rfl (by kernel_rfl) (by kernel_rfl) (by kernel_rfl) (fun _ _ _ h => h) (Or.inl ⟨by kernel_rfl, ?_⟩) (by assumption) ?_
          rotate_left
          · intro w hSw
            (try dsimp only at hSw)
            go_simp
            all_goals (with_reducible rfl)
          (try simp only [Act.put, List.setIfInBounds_toArray, List.set_cons_zero, List.set_cons_succ])
          refine wpAnyH_take (i := 18) (oi := { dst := some 99, op := Op.load 3 (Operand.tmp 98), type := 3, pos := "law.go:212", after := #[{ on := 17, ground := Ground.data }], guard := none }) (v := ?_) rfl (by kernel_rfl) (by kernel_rfl) (by kernel_rfl) (fun _ _ _ h => h) (Or.inl ⟨by kernel_rfl, ?_⟩) (by assumption) ?_
          rotate_left
          · intro w hSw
            (try dsimp only at hSw)
            go_simp
            all_goals (with_reducible rfl)
          (try simp only [Act.put, List.setIfInBounds_toArray, List.set_cons_zero, List.set_cons_succ])
          refine wpAnyH_one1 (i := 19) (o := { dst := some 100, op := Op.call { callee := Callee.value (Operand.func 30), args := #[Operand.tmp 81, Operand.tmp 94, Operand.tmp 99], argTypes := #[27, 56, 3] }, type := 33, pos := "law.go:212", after := #[{ on := 0, ground := Ground.data }, { on := 13, ground := Ground.data }, { on := 18, ground := Ground.data }], guard := none }) (by kernel_rfl) rfl (fun K hK => ?_)
          go_simp
          refine (rs_crash HD.out.1 HD.out.2.1 (by exact sr) _ _ (HKT.out _ HD.out.2.2) hkt xN).mono ?_
          rintro e w4 ⟨rfl, h4, r4, b4⟩
          have d2' := (HCW.out _ (HD.out.2.2.trans b4)).2.2.1
          have d3' := (HCW.out _ (HD.out.2.2.trans b4)).2.2.2
          refine hK.out _ _ ?_ (fun hHeld2 => ?_)
          · exact ⟨d2', d3'⟩
          clear hHeld
          have hHeld := hHeld2
          clear hHeld2
          clear hK K
          (try simp only [Act.put, List.setIfInBounds_toArray, List.set_cons_zero, List.set_cons_succ])
          refine wpAnyH_done (by kernel_rfl) ?_ _
          refine NoPanic.normal ?_
          clear hHeld
          have B4 := HD.out.2.2.trans b4
          have s4 := B4.size
          clear d2' d3'
          go_wp2_with fail
          refine (rs_reopen h4 r4 s4 (HE.out _ (HB1.out.trans (B4.mono HB1.out.size))) (by show ([] : List WrD).length ≤ 90000; decide) (by omega)).mono ?_
          unfold Opened
          rw [HK1.out.1, HK1.out.2]
          rintro e w5 ⟨⟨hcon, -⟩ | ⟨-, Kb, rfl, hKb, k5⟩, h5, r5, b5⟩
          · exact absurd rfl hcon
          have B5 := B4.trans b5
          have s5 := B5.size
          have hS5 : SysB w1.heap.size w5 Kb B N ⟨K, false⟩ (openD N (crashD D (xK.take (min xK.length 20)) xN)) := ⟨h5.own, k5.mono (Nat.zero_le _), by omega⟩
          clear h5 k5 b5 h4 r4 b4 HD
          generalize openD N (crashD D (xK.take (min xK.length 20)) xN) = DX at *
          obtain ⟨aS, cS, hS0, hcS1, hcS2⟩ := strs_len (r5.strs (p := (u10, sure)) (by simp))
          have hS0 : u10 = Value.slice aS sure.length cS := hS0
          subst hS0
          go_wp2_with fail
          refine (sys_records hS5 (by show K.length ≤ _; omega)).mono ?_
          rintro e w6 ⟨v6, rfl, hv6, h6, b6⟩
          have r6 := r5.below b6
          have B6 := B5.trans (b6.mono s5)
          have s6 := B6.size
          have hv6 : StrsAt w6 v6 K := hv6
          obtain ⟨a6, c6, rfl, -⟩ := strs_len hv6
          clear hv6 hS5 r5 b6 B5
          go_wp2_with fail
          refine (sys_records h6 (by show K.length ≤ _; omega)).mono ?_
          rintro e w7 ⟨v7, rfl, hv7, h7, b7⟩
          have r7 := r6.below b7
          have B7 := B6.trans (b7.mono s6)
          have s7 := B7.size
          have hv7 : StrsAt w7 v7 K := hv7
          obtain ⟨a7, c7, rfl, hc71, hc72⟩ := strs_len hv7
          unfold maxLen at hc72
          have ht7 := strs_take hv7 sure.length hlen
          rw [HK2.out] at ht7
          have HT7 := Lib.hid ht7
          clear hv7 ht7 h6 r6 b7 B6
          go_wp2_with fail
          refine (same18 _ _ _ _ w7 HT7.out (r7.strs (p := (_, sure)) (by simp))).mono ?_
          rintro e w8 ⟨rfl, b8⟩
          rw [show sameB sure sure = true from sameB_iff.2 rfl]
          have r8 := r7.below b8
          have h8 := h7.below b8
          have B8 := B7.trans (b8.mono s7)
          have s8 := B8.size
          clear h7 r7 b8 B7 HT7
          go_wp2_with fail
          refine (sys_rec h8 (by show K.length ≤ _; omega)).mono ?_
          rintro e w9 ⟨v9, rfl, ho9, h9, b9⟩
          have ho9 : w9.ownsRow w8.heap.size 9 1 v9 K.length (K.map Value.string) := ho9
          have HS := Lib.hid (And.intro h9 (And.intro ((RowsAt.nil w9).cons ho9) (B8.trans (b9.mono s8))))
          clear h8 r8 B8 b9 ho9 h9
          obtain ⟨aU, cU, hU, hcU1, hcU2⟩ := strs_len (HS.out.2.1.strs (p := (v9, K)) (by simp))
          have hU : v9 = Value.slice aU (K).length cU := hU
          subst hU
          go_wp2_with fail
          refine (sys_rec HS.out.1 (by rw [HK.out.eq]; have := HK.out.len; omega)).mono ?_
          rintro e wT ⟨vT, rfl, hoT, hT, bT⟩
          rw [HK.out.eq] at hoT
          have rT := HS.out.2.1.below bT
          have BT := HS.out.2.2.trans (bT.mono HS.out.2.2.size)
          have hvT := strs_own hoT
          obtain ⟨aT, cT, rfl, hcT1, hcT2⟩ := strs_len hvT
          have HT := Lib.hid (And.intro hT (And.intro rT BT))
          have HVT := Lib.hid hvT
          clear hT rT BT hoT bT hvT HS
          unfold maxLen at hcT2
          go_wp2_with fail
          refine (same18 _ _ _ _ wT HVT.out (HT.out.2.1.strs (p := (_, K)) (by simp))).mono ?_
          rintro e wU ⟨rfl, bU⟩
          rw [show sameB (K) (K) = true from sameB_iff.2 rfl]
          have HU := Lib.hid (And.intro (HT.out.1.below bU) (And.intro (HT.out.2.1.below bU) (HT.out.2.2.trans (bU.mono HT.out.2.2.size))))
          clear bU HT
          go_wp2
          go_roundw
          case rel => exact ⟨k + 1, Kb, _, _, K, by omega, by omega, by go_num, rfl, HU.out.2.1, HU.out.1, HK, HU.out.2.2⟩
          case measure => simp [intOf]; omega)
      · go_wp2_with fail
        refine (HPK.out _).mono ?_
        rintro e wq ⟨rfl, rfl⟩
        go_wp2_with fail
        refine (sys_rec HSS.out.1 (by rw [hI.out.eq]; have := hI.out.len; omega)).mono ?_
        rintro e wA ⟨vA, rfl, hoA, hA', bA⟩
        rw [hI.out.eq] at hoA
        have rA := (HSS.out.2.1.below bA).cons hoA
        have BA := HSS.out.2.2.trans (bA.mono sr)
        have sA := BA.size
        obtain ⟨e0, e1, e2, e3⟩ := HCW.out _ BA
        clear d0 d1 d2 d3 hoA bA HSS
        have hfl := fewL_len xL
        have HFS := Lib.hid (fun t ht => Nat.le_trans (fewL_size xL t ht) (show 100 ≤ 65536 by decide))
        have hslen := hI.out.len
        go_wp2_with fail
        refine (few11 vL xL wA (HVL.out _ BA) hzL).mono ?_
        rintro e w5 ⟨v5, rfl, ho5, b5⟩
        have s5 := b5.size
        have h5 := hA'.below b5
        have r5 := rA.below b5
        have B5 := BA.trans (b5.mono sA)
        clear hA' rA e0 e1 e2 e3
        go_wp2_with fail
        refine (rs_append h5 r5 B5.size (HE.out _ (HB1.out.trans (B5.mono HB1.out.size))) hpend (by omega) (by rw [hI.out.eq]; exact hI.out.fit) (by rw [hI.out.eq]; exact hI.out.short) v5 (fewL xL) (strs_own ho5) (by omega)).mono ?_
        rcases hI.out.app HFS.out with ⟨E1, HK⟩ | ⟨E1, HK⟩
        · have HK := Lib.hid HK
          rw [E1]
          rintro e wD ⟨rfl, h6, r6, b6⟩
          have BD := B5.trans b6
          have sD := BD.size
          obtain ⟨bs, hoW⟩ := r6 (vA, sure) (by simp)
          have cD := (HCW.out _ BD).2.1
          have HLT := Lib.hid (World.block_lt_of_cell? _ _ cD)
          have HCL := Lib.hid cD
          have HCL0 := Lib.hid (show wD.drew.cell? ⟨ob, oo + k * 4 + 1, none⟩ = some vL from cD)
          have HWAS := Lib.hid (fun W (hb : Below wD.heap.size wD W) => owned_below hoW hb)
          have HFEW := Lib.hid (fun W (hb : Below wD.heap.size wD W) => few11 vL xL W ((HVL.out _ BD).below hb) hzL)
          have HFL := Lib.hid (show sure.length + (fewL xL).length ≤ 10000000 by omega)
          have HDD := Lib.hid (And.intro h6 BD)
          clear h6 r6 b6 BD hoW cD h5 r5 B5 ho5 b5 BA E1 hI
          generalize appD N J D (fewL xL) = DX at *
          generalize appJ N J D (fewL xL) = JX at *
          go_upto_region 13 with (fail)
          refine wp_region_noPanic ?_
          refine wp_region_held_drew (S := (fun w' => Below wD.heap.size wD w' ∧ w'.cell? ⟨ob, oo + k * 4 + 1, none⟩ = some vL)) (by kernel_rfl) ⟨(Below.refl _ _).drew, HCL0.out⟩ (fun hHeld => ?_)
          refine wpAnyH_take (i := 1) (oi := { dst := some 58, op := Op.move (Operand.tmp 14), type := 22, pos := "law.go:222", after := #[], guard := none }) (v := ?_) rfl (by kernel_rfl) (by kernel_rfl) (by kernel_rfl) (fun _ _ _ h => h) (Or.inl ⟨by kernel_rfl, ?_⟩) (by assumption) ?_
          rotate_left
          · intro w hSw
            (try dsimp only at hSw)
            go_simp
            all_goals (with_reducible rfl)
          (try simp only [Act.put, List.setIfInBounds_toArray, List.set_cons_zero, List.set_cons_succ])
          refine wpAnyH_take (i := 3) (oi := { dst := some 60, op := Op.move (Operand.tmp 1), type := 60, pos := "law.go:222", after := #[], guard := none }) (v := ?_) rfl (by kernel_rfl) (by kernel_rfl) (by kernel_rfl) (fun _ _ _ h => h) (Or.inl ⟨by kernel_rfl, ?_⟩) (by assumption) ?_
          rotate_left
          · intro w hSw
            (try dsimp only at hSw)
            go_simp
            all_goals (with_reducible rfl)
          (try simp only [Act.put, List.setIfInBounds_toArray, List.set_cons_zero, List.set_cons_succ])
          refine wpAnyH_take (i := 4) (oi := { dst := some 61, op := Op.move (Operand.tmp 11), type := 3, pos := "law.go:222", after := #[], guard := none }) (v := ?_) rfl (by kernel_rfl) (by kernel_rfl) (by kernel_rfl) (fun _ _ _ h => h) (Or.inl ⟨by kernel_rfl, ?_⟩) (by assumption) ?_
          rotate_left
          · intro w hSw
            (try dsimp only at hSw)
            go_simp
            all_goals (with_reducible rfl)
          (try simp only [Act.put, List.setIfInBounds_toArray, List.set_cons_zero, List.set_cons_succ])
          refine wpAnyH_take (i := 5) (oi := { dst := some 62, op := Op.indexAddr 60 (Operand.tmp 60) (Operand.tmp 61), type := 0, pos := "law.go:222", after := #[{ on := 3, ground := Ground.data }, { on := 4, ground := Ground.data }], guard := none }) (v := ?_) rfl (by kernel_rfl) (by kernel_rfl) (by kernel_rfl) (fun _ _ _ h => h) (Or.inl ⟨by kernel_rfl, ?_⟩) (by assumption) ?_
          rotate_left
          · intro w hSw
            (try dsimp only at hSw)
            go_simp
            all_goals (with_reducible rfl)
          (try simp only [Act.put, List.setIfInBounds_toArray, List.set_cons_zero, List.set_cons_succ])
          refine wpAnyH_take (i := 6) (oi := { dst := some 63, op := Op.fieldAddr 62 (Operand.tmp 62) 1, type := 0, pos := "law.go:222", after := #[{ on := 5, ground := Ground.data }], guard := none }) (v := ?_) rfl (by kernel_rfl) (by kernel_rfl) (by kernel_rfl) (fun _ _ _ h => h) (Or.inl ⟨by kernel_rfl, ?_⟩) (by assumption) ?_
          rotate_left
          · intro w hSw
            (try dsimp only at hSw)
            go_simp
            all_goals (with_reducible rfl)
          (try simp only [Act.put, List.setIfInBounds_toArray, List.set_cons_zero, List.set_cons_succ])
          refine wpAnyH_take (i := 7) (oi := { dst := some 64, op := Op.load 22 (Operand.tmp 63), type := 22, pos := "law.go:222", after := #[{ on := 6, ground := Ground.data }], guard := none }) (v := ?_) rfl (by kernel_rfl) (by kernel_rfl) (by kernel_rfl) (fun _ _ _ h => h) (Or.inl ⟨by kernel_rfl, ?_⟩) (by assumption) ?_
          rotate_left
          · intro w hSw
            (try dsimp only at hSw)
            go_simp
            all_goals (with_reducible rfl)
          (try simp only [Act.put, List.setIfInBounds_toArray, List.set_cons_zero, List.set_cons_succ])
          refine wpAnyH_one1 (i := 0) (o := { dst := some 57, op := Op.buildSlice 22 0 #[], type := 22, pos := "law.go:222", after := #[], guard := none }) (by kernel_rfl) rfl (fun K hK => ?_)
          go_simp
          refine hK.out _ _ ?_ (fun hHeld2 => ?_)
          · exact ⟨hHeld.1.alloc hHeld.1.size _, ((hHeld.1.alloc hHeld.1.size _).cell HLT.out).trans HCL.out⟩
          clear hHeld
          have hHeld := hHeld2
          clear hHeld2
          clear hK K
          (try simp only [Act.put, List.setIfInBounds_toArray, List.set_cons_zero, List.set_cons_succ])
          refine wpAnyH_one1 (i := 2) (o := { dst := some 59, op := Op.call { callee := Callee.builtin Builtin.append, args := #[Operand.tmp 57, Operand.tmp 58], argTypes := #[22, 22] }, type := 22, pos := "law.go:222", after := #[{ on := 0, ground := Ground.data }, { on := 1, ground := Ground.data }], guard := none }) (by kernel_rfl) rfl (fun K hK => ?_)
          have hbA := hHeld.1
          refine step_cat rfl (.tmp 57) (.tmp 58) rfl wD.heap.size _ (l := []) (own_emptyS (Blk.new _ _ 9) (Nat.le_refl _)) (HWAS.out _ hbA) rfl rfl (by have := HFL.out; simp only [List.length_nil, Nat.zero_add]; omega) (by exact hbA.size) ?_
          intro v1 x1 ho1 hg1
          rw [List.nil_append] at ho1
          have hb1 := hbA.grown hg1 (by exact hbA.size) (fun k hk => by cases hk; exact Nat.le_refl _)
          clear hg1 hbA
          refine hK.out _ _ ?_ (fun hHeld2 => ?_)
          · exact ⟨hb1, (hb1.cell HLT.out).trans HCL.out⟩
          clear hHeld
          have hHeld := hHeld2
          clear hHeld2
          clear hK K
          (try simp only [Act.put, List.setIfInBounds_toArray, List.set_cons_zero, List.set_cons_succ])
          refine wpAnyH_one1 (i := 8) (o := { dst := some 65, op := Op.call { callee := Callee.value (Operand.func 11), args := #[Operand.tmp 64], argTypes := #[22] }, type := 22, pos := "law.go:222", after := #[{ on := 7, ground := Ground.data }, { on := 2, ground := Ground.chain }], guard := none }) (by kernel_rfl) rfl (fun K hK => ?_)
          go_simp
          go_at_call 11
          refine (HFEW.out _ hHeld.1).mono ?_
          rintro e x2 ⟨v2, rfl, ho2, hb2⟩
          have hb2' := hb1.trans (hb2.mono hb1.size)
          have ho1' := owned_below ho1 hb2
          refine hK.out _ _ ?_ (fun hHeld2 => ?_)
          · exact ⟨hb2', (hb2'.cell HLT.out).trans HCL.out⟩
          clear hHeld
          have hHeld := hHeld2
          clear hHeld2
          clear hK K
          (try simp only [Act.put, List.setIfInBounds_toArray, List.set_cons_zero, List.set_cons_succ])
          refine wpAnyH_one1 (i := 9) (o := { dst := some 66, op := Op.call { callee := Callee.builtin Builtin.append, args := #[Operand.tmp 59, Operand.tmp 65], argTypes := #[22, 22] }, type := 22, pos := "law.go:222", after := #[{ on := 2, ground := Ground.data }, { on := 8, ground := Ground.data }, { on := 8, ground := Ground.chain }], guard := none }) (by kernel_rfl) rfl (fun K hK => ?_)
          have hbB := hHeld.1
          refine step_cat rfl (.tmp 59) (.tmp 65) rfl wD.heap.size _ ho1' ho2 rfl rfl (by have := HFL.out; omega) hbB.size ?_
          intro v3 x3 ho3 hg3
          have hb3 := hbB.grown hg3 hbB.size (fun k hk => (owned_block ho1' hk).elim fun _ q => q.2)
          clear hg3 hbB
          refine hK.out _ _ ?_ (fun hHeld2 => ?_)
          · exact ⟨hb3, (hb3.cell HLT.out).trans HCL.out⟩
          clear hHeld
          have hHeld := hHeld2
          clear hHeld2
          clear hK K
          (try simp only [Act.put, List.setIfInBounds_toArray, List.set_cons_zero, List.set_cons_succ])
          refine wpAnyH_take (i := 10) (oi := { dst := some 10, op := Op.assign (Operand.tmp 66), type := 22, pos := "law.go:222", after := #[{ on := 9, ground := Ground.data }, { on := 9, ground := Ground.chain }, { on := 0, ground := Ground.phase }, { on := 1, ground := Ground.phase }, { on := 2, ground := Ground.phase }, { on := 3, ground := Ground.phase }, { on := 4, ground := Ground.phase }, { on := 5, ground := Ground.phase }, { on := 6, ground := Ground.phase }, { on := 7, ground := Ground.phase }, { on := 8, ground := Ground.phase }, { on := 9, ground := Ground.phase }], guard := none }) (v := ?_) rfl (by kernel_rfl) (by kernel_rfl) (by kernel_rfl) (fun _ _ _ h => h) (Or.inl ⟨by kernel_rfl, ?_⟩) (by assumption) ?_
          rotate_left
          · intro w hSw
            (try dsimp only at hSw)
            go_simp
            all_goals (with_reducible rfl)
          (try simp only [Act.put, List.setIfInBounds_toArray, List.set_cons_zero, List.set_cons_succ])
          refine wpAnyH_done (by kernel_rfl) ?_ _
          refine NoPanic.normal ?_
          clear hHeld
          have HS := Lib.hid (And.intro (HDD.out.1.below hb3) (And.intro ((RowsAt.nil x3).cons ho3) (HDD.out.2.trans (hb3.mono sD))))
          clear hb3 ho3 HDD HWAS HFEW HLT HCL HCL0 ho1 ho2 hb1 hb2 hb2' ho1' HFL
          generalize sure ++ fewL xL = su at *
          obtain ⟨aU, cU, hU, hcU1, hcU2⟩ := strs_len (HS.out.2.1.strs (p := (v3, su)) (by simp))
          have hU : v3 = Value.slice aU (su).length cU := hU
          subst hU
          go_wp2_with fail
          refine (sys_rec HS.out.1 (by rw [HK.out.eq]; have := HK.out.len; omega)).mono ?_
          rintro e wT ⟨vT, rfl, hoT, hT, bT⟩
          rw [HK.out.eq] at hoT
          have rT := HS.out.2.1.below bT
          have BT := HS.out.2.2.trans (bT.mono HS.out.2.2.size)
          have hvT := strs_own hoT
          obtain ⟨aT, cT, rfl, hcT1, hcT2⟩ := strs_len hvT
          have HT := Lib.hid (And.intro hT (And.intro rT BT))
          have HVT := Lib.hid hvT
          clear hT rT BT hoT bT hvT HS
          unfold maxLen at hcT2
          go_wp2_with fail
          refine (same18 _ _ _ _ wT HVT.out (HT.out.2.1.strs (p := (_, su)) (by simp))).mono ?_
          rintro e wU ⟨rfl, bU⟩
          rw [show sameB (su) (su) = true from sameB_iff.2 rfl]
          have HU := Lib.hid (And.intro (HT.out.1.below bU) (And.intro (HT.out.2.1.below bU) (HT.out.2.2.trans (bU.mono HT.out.2.2.size))))
          clear bU HT
          go_wp2
          go_roundw
          case rel => exact ⟨k + 1, Jb, _, _, su, by omega, by omega, by go_num, rfl, HU.out.2.1, HU.out.1, HK, HU.out.2.2⟩
          case measure => simp [intOf]; omega
        · have HK := Lib.hid HK
          rcases E1 with E1 | E1 | E1
          all_goals (
            rw [E1]
            rintro e wD ⟨rfl, h6, r6, b6⟩
            have HS := Lib.hid (And.intro h6 (And.intro (r6.sub (ts := [(u10, sure)]) (by simp)) (B5.trans b6)))
            clear h6 r6 b6 h5 r5 B5 ho5 b5 BA E1 hI
            generalize appD N J D (fewL xL) = DX at *
            generalize appJ N J D (fewL xL) = JX at *
            obtain ⟨aU, cU, hU, hcU1, hcU2⟩ := strs_len (HS.out.2.1.strs (p := (u10, sure)) (by simp))
            have hU : u10 = Value.slice aU (sure).length cU := hU
            subst hU
            go_wp2_with fail
            refine (sys_rec HS.out.1 (by rw [HK.out.eq]; have := HK.out.len; omega)).mono ?_
            rintro e wT ⟨vT, rfl, hoT, hT, bT⟩
            rw [HK.out.eq] at hoT
            have rT := HS.out.2.1.below bT
            have BT := HS.out.2.2.trans (bT.mono HS.out.2.2.size)
            have hvT := strs_own hoT
            obtain ⟨aT, cT, rfl, hcT1, hcT2⟩ := strs_len hvT
            have HT := Lib.hid (And.intro hT (And.intro rT BT))
            have HVT := Lib.hid hvT
            clear hT rT BT hoT bT hvT HS
            unfold maxLen at hcT2
            go_wp2_with fail
            refine (same18 _ _ _ _ wT HVT.out (HT.out.2.1.strs (p := (_, sure)) (by simp))).mono ?_
            rintro e wU ⟨rfl, bU⟩
            rw [show sameB (sure) (sure) = true from sameB_iff.2 rfl]
            have HU := Lib.hid (And.intro (HT.out.1.below bU) (And.intro (HT.out.2.1.below bU) (HT.out.2.2.trans (bU.mono HT.out.2.2.size))))
            clear bU HT
            go_wp2
            go_roundw
            case rel => exact ⟨k + 1, Jb, _, _, sure, by omega, by omega, by go_num, rfl, HU.out.2.1, HU.out.1, HK, HU.out.2.2⟩
            case measure => simp [intOf]; omega)
    · have HSS := Lib.hid hBr
      clear hrows hS hI hBr
      go_wp2
      all_goals (
        go_ret
        exact ⟨rfl, HB1.out.trans (HSS.out.mono HB1.out.size)⟩)
end Go.Proofs.YtnckpnbecmmcpaaGreatDoor

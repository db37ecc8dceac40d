/- nadirlaw34.JournalSurvives: the walk. -/
import Derived.Test.YtnckpnbecmmcpaaGreatDoorJL
import Derived.Test.YtnckpnbecmmcpaaGreatDoorJN
namespace Go.Proofs.YtnckpnbecmmcpaaGreatDoor
open Go.RowKit Lib
set_option maxRecDepth 100000 in
set_option maxHeartbeats 8000000 in
theorem law_survives (n cut torn : Int) (vg vk : Value) (groups : List (List ByteArray)) (keep : List Int) (w : World) (hE : EnvJ w) (hn : InR n) (hc : InR cut) (hg : GrpsAt w vg groups) (hk : IntsAt w vk keep) :
    Calls Tryz.prog 5 #[.int .i64 n, vg, .int .i64 cut, vk, .int .i64 torn] w fun e w' => e = .returned (.bool true) ∧ Below w.heap.size w w' := by
  have h3 : 3 < w.heap.size := hE.1.1
  have HE := Lib.hid (fun W (hb : Below w.heap.size w W) => hE.below h3 hb)
  have hsane := Lib.hid (sane8 w hE)
  have hsz := Lib.hid (fun W => size15 n W hn)
  obtain ⟨hN1, hN2⟩ := sizeN_bd n
  have hpc := Lib.hid (fun W => pick_any cut 3 W hc (by decide) (by decide))
  have hpcb := pickI_bd cut (n := 3) (by decide)
  generalize pickI cut 3 = pc at hpc hpcb
  have hwpc : IntKind.i64.wrap (1 + pc) = 1 + pc := wrapS _ (by omega) (by omega)
  generalize sizeN n = N at hsz hN1 hN2
  have hnew := Lib.hid (fun W => new_own N W hN1 (by omega))
  have hg0 := Good.new (n := N) hN1 (by omega)
  obtain ⟨oe1, ol1, g1, l1⟩ := open_good hg0 rfl
  generalize hD1 : openD N (newD N) = D1 at g1 l1
  have P1 := Lib.hid (And.intro oe1 (And.intro ol1 hD1))
  have G1 := Lib.hid (And.intro g1 l1)
  have hinit : SurvI N 0 (min groups.length 8) ⟨[], false⟩ D1 [] [] := .inl ⟨rfl, g1, rfl, rfl, fun _ => l1⟩
  have HI := Lib.hid hinit
  clear oe1 ol1 hD1 g1 l1 hg0 hinit hn hc
  obtain ⟨ga, gc, rfl, hgl1, hgl2⟩ := hg.len
  have HG := Lib.hid hg
  obtain ⟨ka, kc, rfl, hkl1, hkl2⟩ := ints_len hk
  have HK := Lib.hid hk
  unfold maxLen at hgl2 hkl2
  clear hg hk hE
  go_enter Tryz.func5, Tryz.ntmps5
  go_wp2_with fail
  refine hsane.out.mono ?_
  rintro e w1 ⟨rfl, b1⟩
  go_wp2_with fail
  refine (hsz.out _).mono ?_
  rintro e wq ⟨rfl, rfl⟩
  go_wp2_with fail
  refine (hnew.out _).mono ?_
  rintro e w2 ⟨B, rfl, h2, b2⟩
  have s2 := b2.size
  go_wp2_with fail
  have b2' := b1.trans (b2.mono b1.size)
  refine (sys_open h2 s2 (HE.out _ b2') (by show ([] : List WrD).length ≤ 90000; decide) (by omega)).mono ?_
  rw [P1.out.1, P1.out.2.1, P1.out.2.2]
  rintro e w3 ⟨⟨hcon, -⟩ | ⟨-, Jb, rfl, h3'⟩, -, b3⟩
  · exact absurd rfl hcon
  have b3' := b2.trans b3
  have HB1 := Lib.hid b1
  clear b1 b2 b2' b3 h2 s2 hsane hsz hnew P1
  go_wp2
  go_loopw [16, 17, 18] (fun u16 u17 u18 wr => ∃ (k : Nat) (J : JouD) (D : DiskD) (was want : List ByteArray), k ≤ groups.length ∧ k ≤ 8 ∧ u18 = .int .i64 k ∧ RowsAt wr [(u16, was), (u17, want)] ∧ SysB w1.heap.size wr Jb B N J D ∧ Hid (SurvI N k (min groups.length 8) J D was want) ∧ Below w1.heap.size w1 wr) (fun _ _ u18 _ => (8 - intOf u18).toNat)
  case atStart => exact ⟨0, _, _, [], [], by omega, by omega, rfl, (RowsAt.nil _).cons RowsAt.nilRow |>.cons RowsAt.nilRow, h3', HI, b3'⟩
  case round =>
    obtain ⟨k, J, D, was, want, hkl, hk8, rfl, hrows, hS, hI, hBr⟩ := hrel
    rename World => wr
    have sr := hBr.size
    by_cases hkk : k < groups.length ∧ k < 8
    · obtain ⟨hkl, hk8⟩ := hkk
      obtain ⟨hbr, hG, e1, e2, hleft⟩ | ⟨hcon, -⟩ := hI.out
      rotate_left
      · omega
      obtain ⟨L, br⟩ := J
      simp only at hbr hG e1 e2
      subst hbr e1 e2
      have hleft := hleft (by omega)
      have hLn := hG.len
      have HGD := Lib.hid (And.intro hG hleft)
      clear hI hG hleft hrows
      have hx := List.getElem?_eq_getElem hkl
      generalize groups[k] = g at hx
      have hBw := HB1.out.trans (hBr.mono HB1.out.size)
      obtain ⟨gb, go, vq, rfl, cg0, hvq0, hgs⟩ := HG.out.get hx
      have HCW := Lib.hid (fun W (hb : Below w1.heap.size w1 W) => ((HB1.out.trans (hb.mono HB1.out.size)).cell (World.block_lt_of_cell? _ _ cg0)).trans cg0)
      have HVQ := Lib.hid (fun W (hb : Below w1.heap.size w1 W) => hvq0.below (HB1.out.trans (hb.mono HB1.out.size)))
      have HFS := Lib.hid (fun t ht => Nat.le_trans (fewL_size g t ht) (show 100 ≤ 65536 by decide))
      have cg := HCW.out _ hBr
      have hvq := HVQ.out _ hBr
      clear cg0 hvq0
      have hfl := fewL_len g
      have hki : (0 : Int) ≤ (k : Int) ∧ (k : Int) < (groups.length : Int) := by omega
      go_wp2_with fail
      refine (sys_rec hS (by show want.length ≤ _; omega)).mono ?_
      rintro e wA ⟨vA, rfl, hoA, hA, bA⟩
      have hoA : wA.ownsRow wr.heap.size 9 1 vA want.length (want.map Value.string) := hoA
      have sA := bA.size
      have cgA := (bA.cell (World.block_lt_of_cell? _ _ cg)).trans cg
      have HLT := Lib.hid (World.block_lt_of_cell? _ _ cgA)
      have HCL := Lib.hid cgA
      have HCL0 := Lib.hid (show wA.drew.cell? ⟨gb, go + k, none⟩ = some vq from cgA)
      have HWAS := Lib.hid (fun W (hb : Below wA.heap.size wA W) => owned_below hoA hb)
      have HFEW := Lib.hid (fun W (hb : Below wA.heap.size wA W) => few11 vq g W ((hvq.below bA).below hb) hgs)
      have HFL := Lib.hid (show want.length + (fewL g).length ≤ 10000000 by omega)
      have hBA := hBr.trans (bA.mono sr)
      have HAA := Lib.hid (And.intro hA hBA)
      clear cg cgA hoA hA hBA bA hS hvq
      go_upto_region 12 with (fail)
      refine wp_region_noPanic ?_
      refine wp_region_held_drew (S := (fun w' => Below wA.heap.size wA w' ∧ w'.cell? ⟨gb, go + k, none⟩ = some vq)) (by kernel_rfl) ⟨(Below.refl _ _).drew, HCL0.out⟩ (fun hHeld => ?_)
      refine wpAnyH_take (i := 1) (oi := { dst := some 50, op := Op.move (Operand.tmp 16), type := 22, pos := "law.go:179", after := #[], guard := none }) (v := ?_) rfl (by kernel_rfl) (by kernel_rfl) (by kernel_rfl) (fun _ _ _ h => h) (Or.inl ⟨by kernel_rfl, ?_⟩) (by assumption) ?_
      rotate_left
      · intro w hSw
        (try dsimp only at hSw)
        go_simp
        all_goals (with_reducible rfl)
      (try simp only [Act.put, List.setIfInBounds_toArray, List.set_cons_zero, List.set_cons_succ])
      refine wpAnyH_take (i := 3) (oi := { dst := some 52, op := Op.move (Operand.tmp 1), type := 48, pos := "law.go:179", after := #[], guard := none }) (v := ?_) rfl (by kernel_rfl) (by kernel_rfl) (by kernel_rfl) (fun _ _ _ h => h) (Or.inl ⟨by kernel_rfl, ?_⟩) (by assumption) ?_
      rotate_left
      · intro w hSw
        (try dsimp only at hSw)
        go_simp
        all_goals (with_reducible rfl)
      (try simp only [Act.put, List.setIfInBounds_toArray, List.set_cons_zero, List.set_cons_succ])
      refine wpAnyH_take (i := 4) (oi := { dst := some 53, op := Op.move (Operand.tmp 18), type := 3, pos := "law.go:179", after := #[], guard := none }) (v := ?_) rfl (by kernel_rfl) (by kernel_rfl) (by kernel_rfl) (fun _ _ _ h => h) (Or.inl ⟨by kernel_rfl, ?_⟩) (by assumption) ?_
      rotate_left
      · intro w hSw
        (try dsimp only at hSw)
        go_simp
        all_goals (with_reducible rfl)
      (try simp only [Act.put, List.setIfInBounds_toArray, List.set_cons_zero, List.set_cons_succ])
      refine wpAnyH_take (i := 5) (oi := { dst := some 54, op := Op.indexAddr 48 (Operand.tmp 52) (Operand.tmp 53), type := 0, pos := "law.go:179", after := #[{ on := 3, ground := Ground.data }, { on := 4, ground := Ground.data }], guard := none }) (v := ?_) rfl (by kernel_rfl) (by kernel_rfl) (by kernel_rfl) (fun _ _ _ h => h) (Or.inl ⟨by kernel_rfl, ?_⟩) (by assumption) ?_
      rotate_left
      · intro w hSw
        (try dsimp only at hSw)
        go_simp
        all_goals (with_reducible rfl)
      (try simp only [Act.put, List.setIfInBounds_toArray, List.set_cons_zero, List.set_cons_succ])
      refine wpAnyH_take (i := 6) (oi := { dst := some 55, op := Op.load 22 (Operand.tmp 54), type := 22, pos := "law.go:179", after := #[{ on := 5, ground := Ground.data }], guard := none }) (v := ?_) rfl (by kernel_rfl) (by kernel_rfl) (by kernel_rfl) (fun _ _ _ h => h) (Or.inl ⟨by kernel_rfl, ?_⟩) (by assumption) ?_
      rotate_left
      · intro w hSw
        (try dsimp only at hSw)
        go_simp
        all_goals (with_reducible rfl)
      (try simp only [Act.put, List.setIfInBounds_toArray, List.set_cons_zero, List.set_cons_succ])
      refine wpAnyH_one1 (i := 0) (o := { dst := some 49, op := Op.buildSlice 22 0 #[], type := 22, pos := "law.go:179", after := #[], guard := none }) (by kernel_rfl) rfl (fun K hK => ?_)
      go_simp
      refine hK.out _ _ ?_ (fun hHeld2 => ?_)
      · exact ⟨hHeld.1.alloc hHeld.1.size _, ((hHeld.1.alloc hHeld.1.size _).cell HLT.out).trans HCL.out⟩
      clear hHeld
      have hHeld := hHeld2
      clear hHeld2
      clear hK K
      (try simp only [Act.put, List.setIfInBounds_toArray, List.set_cons_zero, List.set_cons_succ])
      refine wpAnyH_one1 (i := 2) (o := { dst := some 51, op := Op.call { callee := Callee.builtin Builtin.append, args := #[Operand.tmp 49, Operand.tmp 50], argTypes := #[22, 22] }, type := 22, pos := "law.go:179", after := #[{ on := 0, ground := Ground.data }, { on := 1, ground := Ground.data }], guard := none }) (by kernel_rfl) rfl (fun K hK => ?_)
      have hbA := hHeld.1
      refine step_cat rfl (.tmp 49) (.tmp 50) rfl wA.heap.size _ (l := []) (own_emptyS (Blk.new _ _ 9) (Nat.le_refl _)) (HWAS.out _ hbA) rfl rfl (by have := HFL.out; simp only [List.length_nil, Nat.zero_add]; omega) (by exact hbA.size) ?_
      intro v1 x1 ho1 hg1
      rw [List.nil_append] at ho1
      have hb1 := hbA.grown hg1 (by exact hbA.size) (fun k hk => by cases hk; exact Nat.le_refl _)
      clear hg1 hbA
      refine hK.out _ _ ?_ (fun hHeld2 => ?_)
      · exact ⟨hb1, (hb1.cell HLT.out).trans HCL.out⟩
      clear hHeld
      have hHeld := hHeld2
      clear hHeld2
      clear hK K
      (try simp only [Act.put, List.setIfInBounds_toArray, List.set_cons_zero, List.set_cons_succ])
      refine wpAnyH_one1 (i := 7) (o := { dst := some 56, op := Op.call { callee := Callee.value (Operand.func 11), args := #[Operand.tmp 55], argTypes := #[22] }, type := 22, pos := "law.go:179", after := #[{ on := 6, ground := Ground.data }, { on := 2, ground := Ground.chain }], guard := none }) (by kernel_rfl) rfl (fun K hK => ?_)
      go_simp
      go_at_call 11
      refine (HFEW.out _ hHeld.1).mono ?_
      rintro e x2 ⟨v2, rfl, ho2, hb2⟩
      have hb2' := hb1.trans (hb2.mono hb1.size)
      have ho1' := owned_below ho1 hb2
      refine hK.out _ _ ?_ (fun hHeld2 => ?_)
      · exact ⟨hb2', (hb2'.cell HLT.out).trans HCL.out⟩
      clear hHeld
      have hHeld := hHeld2
      clear hHeld2
      clear hK K
      (try simp only [Act.put, List.setIfInBounds_toArray, List.set_cons_zero, List.set_cons_succ])
      refine wpAnyH_one1 (i := 8) (o := { dst := some 57, op := Op.call { callee := Callee.builtin Builtin.append, args := #[Operand.tmp 51, Operand.tmp 56], argTypes := #[22, 22] }, type := 22, pos := "law.go:179", after := #[{ on := 2, ground := Ground.data }, { on := 7, ground := Ground.data }, { on := 7, ground := Ground.chain }], guard := none }) (by kernel_rfl) rfl (fun K hK => ?_)
      have hbB := hHeld.1
      refine step_cat rfl (.tmp 51) (.tmp 56) rfl wA.heap.size _ ho1' ho2 rfl rfl (by have := HFL.out; omega) hbB.size ?_
      intro v3 x3 ho3 hg3
      have hb3 := hbB.grown hg3 hbB.size (fun k hk => (owned_block ho1' hk).elim fun _ q => q.2)
      clear hg3 hbB
      refine hK.out _ _ ?_ (fun hHeld2 => ?_)
      · exact ⟨hb3, (hb3.cell HLT.out).trans HCL.out⟩
      clear hHeld
      have hHeld := hHeld2
      clear hHeld2
      clear hK K
      (try simp only [Act.put, List.setIfInBounds_toArray, List.set_cons_zero, List.set_cons_succ])
      refine wpAnyH_take (i := 9) (oi := { dst := some 17, op := Op.assign (Operand.tmp 57), type := 22, pos := "law.go:179", after := #[{ on := 8, ground := Ground.data }, { on := 8, ground := Ground.chain }, { on := 0, ground := Ground.phase }, { on := 1, ground := Ground.phase }, { on := 2, ground := Ground.phase }, { on := 3, ground := Ground.phase }, { on := 4, ground := Ground.phase }, { on := 5, ground := Ground.phase }, { on := 6, ground := Ground.phase }, { on := 7, ground := Ground.phase }, { on := 8, ground := Ground.phase }], guard := none }) (v := ?_) rfl (by kernel_rfl) (by kernel_rfl) (by kernel_rfl) (fun _ _ _ h => h) (Or.inl ⟨by kernel_rfl, ?_⟩) (by assumption) ?_
      rotate_left
      · intro w hSw
        (try dsimp only at hSw)
        go_simp
        all_goals (with_reducible rfl)
      (try simp only [Act.put, List.setIfInBounds_toArray, List.set_cons_zero, List.set_cons_succ])
      refine wpAnyH_done (by kernel_rfl) ?_ _
      refine NoPanic.normal ?_
      clear hHeld
      have ho3 : x3.ownsRow wA.heap.size 9 1 v3 (want ++ fewL g).length ((want ++ fewL g).map Value.string) := ho3
      obtain ⟨a3, c3, rfl, hl3⟩ := strs_len (strs_own ho3)
      have HR3 := Lib.hid ((RowsAt.nil _).cons ho3 |>.cons (HWAS.out _ hb3))
      have HS3 := Lib.hid (HAA.out.1.below hb3)
      have HB3 := Lib.hid (HAA.out.2.trans (hb3.mono HAA.out.2.size))
      have c3x := (hb3.cell HLT.out).trans HCL.out
      clear hb3 ho3 HAA HWAS HFEW HLT HCL HCL0
      have hcs : (((k : Int) == (groups.length : Int) - 1) = true ∧ k + 1 = min groups.length 8) ∨ (((k : Int) == (groups.length : Int) - 1) = false ∧ ((k : Int) == 7) = true ∧ k + 1 = min groups.length 8) ∨ (((k : Int) == (groups.length : Int) - 1) = false ∧ ((k : Int) == 7) = false ∧ k + 1 < min groups.length 8) := by
        by_cases h1 : k + 1 = groups.length
        · left; exact ⟨beq_iff_eq.2 (by omega), by omega⟩
        · have h2 : ((k : Int) == (groups.length : Int) - 1) = false := by rw [beq_eq_false_iff_ne]; omega
          by_cases h3 : k = 7
          · right; left; exact ⟨h2, beq_iff_eq.2 (by omega), by omega⟩
          · right; right; exact ⟨h2, by rw [beq_eq_false_iff_ne]; omega, by omega⟩
      rcases hcs with ⟨hA, hm⟩ | ⟨hA, hB, hm⟩ | ⟨hA, hB, hm⟩
      · have HM := Lib.hid hm
        go_wp2_with fail
        refine (hpc.out _).mono ?_
        rintro e wq ⟨rfl, rfl⟩
        go_wp2_with fail
        refine (rs_cut HS3.out HR3.out HB3.out.size (1 + pc) (by omega)).mono ?_
        rintro e w4 ⟨rfl, h4, r4, b4⟩
        have HS4 := Lib.hid h4
        have HR4 := Lib.hid r4
        have HB4 := Lib.hid (HB3.out.trans b4)
        have c4x := HCW.out _ HB4.out
        have HGX := Lib.hid (HGD.out.1.cut (1 + pc) (by omega) (by omega))
        clear h4 r4 b4 c3x HGD HR3 HS3
        generalize cutD D (1 + pc) = DX at *
        rcases app_good HGX.out HFS.out with ⟨E1, E2, GG⟩ | ⟨E1, E2, E3⟩ | ⟨E1, E2, GG⟩
        · have GG := Lib.hid GG
          go_wp2_with fail
          refine (few11 vq g w4 (HVQ.out _ HB4.out) hgs).mono ?_
          rintro e w5 ⟨v5, rfl, ho5, b5⟩
          have s5 := b5.size
          have h5 := HS4.out.below b5
          have r5 := HR4.out.below b5
          have B5 := HB4.out.trans (b5.mono HB4.out.size)
          go_wp2_with fail
          refine (rs_append h5 r5 B5.size (HE.out _ (HB1.out.trans (B5.mono HB1.out.size))) (by rw [HGX.out.pend]; decide) (by omega) HGX.out.full.2.1 HGX.out.full.1 v5 (fewL g) (strs_own ho5) (by omega)).mono ?_
          rw [E1, E2]
          rintro e w6 ⟨rfl, h6, r6, b6⟩
          have B6 := B5.trans b6
          generalize appD N ⟨want, false⟩ DX (fewL g) = DY at *
          have HX := Lib.hid (And.intro h6 (And.intro r6 B6))
          clear h6 r6 B6 r5 h5 b5 b6 ho5 s5 B5 HGX
          go_wp2
          go_roundw
          case rel => exact ⟨k + 1, _, _, want ++ fewL g, want ++ fewL g, by omega, by omega, by go_num, HX.out.2.1.sub (by simp), HX.out.1, Lib.hid (.inl ⟨rfl, GG.out, rfl, rfl, fun hc => absurd hc (by omega)⟩), HX.out.2.2⟩
          case measure => simp [intOf]; omega
        · have GG := Lib.hid HGX.out
          go_wp2_with fail
          refine (few11 vq g w4 (HVQ.out _ HB4.out) hgs).mono ?_
          rintro e w5 ⟨v5, rfl, ho5, b5⟩
          have s5 := b5.size
          have h5 := HS4.out.below b5
          have r5 := HR4.out.below b5
          have B5 := HB4.out.trans (b5.mono HB4.out.size)
          go_wp2_with fail
          refine (rs_append h5 r5 B5.size (HE.out _ (HB1.out.trans (B5.mono HB1.out.size))) (by rw [HGX.out.pend]; decide) (by omega) HGX.out.full.2.1 HGX.out.full.1 v5 (fewL g) (strs_own ho5) (by omega)).mono ?_
          rw [E1, E2]
          rintro e w6 ⟨rfl, h6, r6, b6⟩
          have B6 := B5.trans b6
          rw [E3] at h6
          have HX := Lib.hid (And.intro h6 (And.intro r6 B6))
          clear h6 r6 B6 r5 h5 b5 b6 ho5 s5 B5 HGX
          go_wp2
          go_roundw
          case rel => exact ⟨k + 1, _, _, want, want, by omega, by omega, by go_num, HX.out.2.1.sub (by simp), HX.out.1, Lib.hid (.inl ⟨rfl, GG.out, rfl, rfl, fun hc => absurd hc (by omega)⟩), HX.out.2.2⟩
          case measure => simp [intOf]; omega
        · have GG := Lib.hid GG
          go_wp2_with fail
          refine (few11 vq g w4 (HVQ.out _ HB4.out) hgs).mono ?_
          rintro e w5 ⟨v5, rfl, ho5, b5⟩
          have s5 := b5.size
          have h5 := HS4.out.below b5
          have r5 := HR4.out.below b5
          have B5 := HB4.out.trans (b5.mono HB4.out.size)
          go_wp2_with fail
          refine (rs_append h5 r5 B5.size (HE.out _ (HB1.out.trans (B5.mono HB1.out.size))) (by rw [HGX.out.pend]; decide) (by omega) HGX.out.full.2.1 HGX.out.full.1 v5 (fewL g) (strs_own ho5) (by omega)).mono ?_
          rw [E1, E2]
          rintro e w6 ⟨rfl, h6, r6, b6⟩
          have B6 := B5.trans b6
          generalize appD N ⟨want, false⟩ DX (fewL g) = DY at *
          have HX := Lib.hid (And.intro h6 (And.intro r6 B6))
          clear h6 r6 B6 r5 h5 b5 b6 ho5 s5 B5 HGX
          go_wp2
          go_roundw
          case rel => exact ⟨k + 1, _, _, want, want ++ fewL g, by omega, by omega, by go_num, HX.out.2.1.sub (by simp), HX.out.1, Lib.hid (.inr ⟨by omega, rfl, GG.out⟩), HX.out.2.2⟩
          case measure => simp [intOf]; omega
      · have HM := Lib.hid hm
        go_wp2_with fail
        refine (hpc.out _).mono ?_
        rintro e wq ⟨rfl, rfl⟩
        go_wp2_with fail
        refine (rs_cut HS3.out HR3.out HB3.out.size (1 + pc) (by omega)).mono ?_
        rintro e w4 ⟨rfl, h4, r4, b4⟩
        have HS4 := Lib.hid h4
        have HR4 := Lib.hid r4
        have HB4 := Lib.hid (HB3.out.trans b4)
        have c4x := HCW.out _ HB4.out
        have HGX := Lib.hid (HGD.out.1.cut (1 + pc) (by omega) (by omega))
        clear h4 r4 b4 c3x HGD HR3 HS3
        generalize cutD D (1 + pc) = DX at *
        rcases app_good HGX.out HFS.out with ⟨E1, E2, GG⟩ | ⟨E1, E2, E3⟩ | ⟨E1, E2, GG⟩
        · have GG := Lib.hid GG
          go_wp2_with fail
          refine (few11 vq g w4 (HVQ.out _ HB4.out) hgs).mono ?_
          rintro e w5 ⟨v5, rfl, ho5, b5⟩
          have s5 := b5.size
          have h5 := HS4.out.below b5
          have r5 := HR4.out.below b5
          have B5 := HB4.out.trans (b5.mono HB4.out.size)
          go_wp2_with fail
          refine (rs_append h5 r5 B5.size (HE.out _ (HB1.out.trans (B5.mono HB1.out.size))) (by rw [HGX.out.pend]; decide) (by omega) HGX.out.full.2.1 HGX.out.full.1 v5 (fewL g) (strs_own ho5) (by omega)).mono ?_
          rw [E1, E2]
          rintro e w6 ⟨rfl, h6, r6, b6⟩
          have B6 := B5.trans b6
          generalize appD N ⟨want, false⟩ DX (fewL g) = DY at *
          have HX := Lib.hid (And.intro h6 (And.intro r6 B6))
          clear h6 r6 B6 r5 h5 b5 b6 ho5 s5 B5 HGX
          go_wp2
          go_roundw
          case rel => exact ⟨k + 1, _, _, want ++ fewL g, want ++ fewL g, by omega, by omega, by go_num, HX.out.2.1.sub (by simp), HX.out.1, Lib.hid (.inl ⟨rfl, GG.out, rfl, rfl, fun hc => absurd hc (by omega)⟩), HX.out.2.2⟩
          case measure => simp [intOf]; omega
        · have GG := Lib.hid HGX.out
          go_wp2_with fail
          refine (few11 vq g w4 (HVQ.out _ HB4.out) hgs).mono ?_
          rintro e w5 ⟨v5, rfl, ho5, b5⟩
          have s5 := b5.size
          have h5 := HS4.out.below b5
          have r5 := HR4.out.below b5
          have B5 := HB4.out.trans (b5.mono HB4.out.size)
          go_wp2_with fail
          refine (rs_append h5 r5 B5.size (HE.out _ (HB1.out.trans (B5.mono HB1.out.size))) (by rw [HGX.out.pend]; decide) (by omega) HGX.out.full.2.1 HGX.out.full.1 v5 (fewL g) (strs_own ho5) (by omega)).mono ?_
          rw [E1, E2]
          rintro e w6 ⟨rfl, h6, r6, b6⟩
          have B6 := B5.trans b6
          rw [E3] at h6
          have HX := Lib.hid (And.intro h6 (And.intro r6 B6))
          clear h6 r6 B6 r5 h5 b5 b6 ho5 s5 B5 HGX
          go_wp2
          go_roundw
          case rel => exact ⟨k + 1, _, _, want, want, by omega, by omega, by go_num, HX.out.2.1.sub (by simp), HX.out.1, Lib.hid (.inl ⟨rfl, GG.out, rfl, rfl, fun hc => absurd hc (by omega)⟩), HX.out.2.2⟩
          case measure => simp [intOf]; omega
        · have GG := Lib.hid GG
          go_wp2_with fail
          refine (few11 vq g w4 (HVQ.out _ HB4.out) hgs).mono ?_
          rintro e w5 ⟨v5, rfl, ho5, b5⟩
          have s5 := b5.size
          have h5 := HS4.out.below b5
          have r5 := HR4.out.below b5
          have B5 := HB4.out.trans (b5.mono HB4.out.size)
          go_wp2_with fail
          refine (rs_append h5 r5 B5.size (HE.out _ (HB1.out.trans (B5.mono HB1.out.size))) (by rw [HGX.out.pend]; decide) (by omega) HGX.out.full.2.1 HGX.out.full.1 v5 (fewL g) (strs_own ho5) (by omega)).mono ?_
          rw [E1, E2]
          rintro e w6 ⟨rfl, h6, r6, b6⟩
          have B6 := B5.trans b6
          generalize appD N ⟨want, false⟩ DX (fewL g) = DY at *
          have HX := Lib.hid (And.intro h6 (And.intro r6 B6))
          clear h6 r6 B6 r5 h5 b5 b6 ho5 s5 B5 HGX
          go_wp2
          go_roundw
          case rel => exact ⟨k + 1, _, _, want, want ++ fewL g, by omega, by omega, by go_num, HX.out.2.1.sub (by simp), HX.out.1, Lib.hid (.inr ⟨by omega, rfl, GG.out⟩), HX.out.2.2⟩
          case measure => simp [intOf]; omega
      · have HM := Lib.hid hm
        have HGX := Lib.hid HGD.out.1
        have LX := HGD.out.2
        rcases app_on HGX.out LX HFS.out with ⟨-, E1, E2, GG, LL⟩ | ⟨-, E1, E2, E3⟩
        · have GG := Lib.hid GG
          go_wp2_with fail
          refine (few11 vq g x3 (HVQ.out _ HB3.out) hgs).mono ?_
          rintro e w5 ⟨v5, rfl, ho5, b5⟩
          have s5 := b5.size
          have h5 := HS3.out.below b5
          have r5 := HR3.out.below b5
          have B5 := HB3.out.trans (b5.mono HB3.out.size)
          go_wp2_with fail
          refine (rs_append h5 r5 B5.size (HE.out _ (HB1.out.trans (B5.mono HB1.out.size))) (by rw [HGX.out.pend]; decide) (by omega) HGX.out.full.2.1 HGX.out.full.1 v5 (fewL g) (strs_own ho5) (by omega)).mono ?_
          rw [E1, E2]
          rintro e w6 ⟨rfl, h6, r6, b6⟩
          have B6 := B5.trans b6
          generalize appD N ⟨want, false⟩ D (fewL g) = DY at *
          have HX := Lib.hid (And.intro h6 (And.intro r6 B6))
          clear h6 r6 B6 r5 h5 b5 b6 ho5 s5 B5 HGX
          go_wp2
          go_roundw
          case rel => exact ⟨k + 1, _, _, want ++ fewL g, want ++ fewL g, by omega, by omega, by go_num, HX.out.2.1.sub (by simp), HX.out.1, Lib.hid (.inl ⟨rfl, GG.out, rfl, rfl, fun hc => LL⟩), HX.out.2.2⟩
          case measure => simp [intOf]; omega
        · have GG := Lib.hid HGX.out
          have LL := LX
          go_wp2_with fail
          refine (few11 vq g x3 (HVQ.out _ HB3.out) hgs).mono ?_
          rintro e w5 ⟨v5, rfl, ho5, b5⟩
          have s5 := b5.size
          have h5 := HS3.out.below b5
          have r5 := HR3.out.below b5
          have B5 := HB3.out.trans (b5.mono HB3.out.size)
          go_wp2_with fail
          refine (rs_append h5 r5 B5.size (HE.out _ (HB1.out.trans (B5.mono HB1.out.size))) (by rw [HGX.out.pend]; decide) (by omega) HGX.out.full.2.1 HGX.out.full.1 v5 (fewL g) (strs_own ho5) (by omega)).mono ?_
          rw [E1, E2]
          rintro e w6 ⟨rfl, h6, r6, b6⟩
          have B6 := B5.trans b6
          rw [E3] at h6
          have HX := Lib.hid (And.intro h6 (And.intro r6 B6))
          clear h6 r6 B6 r5 h5 b5 b6 ho5 s5 B5 HGX
          go_wp2
          go_roundw
          case rel => exact ⟨k + 1, _, _, want, want, by omega, by omega, by go_num, HX.out.2.1.sub (by simp), HX.out.1, Lib.hid (.inl ⟨rfl, GG.out, rfl, rfl, fun hc => LL⟩), HX.out.2.2⟩
          case measure => simp [intOf]; omega
    · have hm : k = min groups.length 8 := by omega
      obtain ⟨K, hK, oe, ol, og⟩ := hI.out.crash (keep.take (min keep.length 20)) torn
      have hpl : D.pend.length ≤ 90000 := hI.out.pend
      have hKN := og.len
      have HK1 := Lib.hid (And.intro oe ol)
      have HK2 := Lib.hid hK
      have hmn : (min (keep.length : Int) 20).toNat = min keep.length 20 := by omega
      have hKT := Lib.hid (fun W (hb : Below w1.heap.size w1 W) => show IntsAt W (.slice ka (min (keep.length : Int) 20).toNat kc) (keep.take (min keep.length 20)) by rw [hmn]; exact (ints_take HK.out (min keep.length 20) (by omega)).below (HB1.out.trans (hb.mono HB1.out.size)))
      have hkt : (keep.take (min keep.length 20)).length ≤ 1000 := by rw [List.length_take]; omega
      have HSS := Lib.hid (And.intro hS (And.intro hrows hBr))
      clear hI oe ol og hK hS hrows hBr hm hmn
      go_wp2_with fail
      all_goals (
        refine (rs_crash HSS.out.1 HSS.out.2.1 sr _ _ (hKT.out _ HSS.out.2.2) hkt torn).mono ?_
        rintro e w4 ⟨rfl, h4, r4, b4⟩
        have B4 := HSS.out.2.2.trans b4
        have s4 := B4.size
        go_wp2_with fail
        refine (rs_reopen h4 r4 s4 (HE.out _ (HB1.out.trans (B4.mono HB1.out.size))) (by show ([] : List WrD).length ≤ 90000; decide) (by omega)).mono ?_
        unfold Opened
        rw [HK1.out.1, HK1.out.2]
        rintro e w5 ⟨⟨hcon, -⟩ | ⟨-, Kb, rfl, hKb, k5⟩, h5, r5, b5⟩
        · exact absurd rfl hcon
        have B5 := B4.trans b5
        have s5 := B5.size
        have hS5 : SysB w1.heap.size w5 Kb B N ⟨K, false⟩ (openD N (crashD D (keep.take (min keep.length 20)) torn)) := ⟨h5.own, k5.mono (Nat.zero_le _), by omega⟩
        clear h5 k5 b5 h4 r4 b4
        go_wp2_with fail
        refine (sys_records hS5 (by show K.length ≤ _; omega)).mono ?_
        rintro e w6 ⟨v6, rfl, hv6, h6, b6⟩
        have r6 := r5.below b6
        have B6 := B5.trans (b6.mono s5)
        have s6 := B6.size
        have hv6 : StrsAt w6 v6 K := hv6
        obtain ⟨a6, c6, rfl, -⟩ := strs_len hv6
        go_wp2_with fail
        refine (same18 _ _ _ _ w6 hv6 (r6.strs (p := (u16, was)) (by simp))).mono ?_
        rintro e w7 ⟨rfl, b7⟩
        have r7 := r6.below b7
        have h7 := h6.below b7
        have B7 := B6.trans (b7.mono s6)
        have s7 := B7.size
        have hfin := HB1.out.trans (B7.mono HB1.out.size)
        clear r5 r6 h6 b7 hv6 hS5 b6
        cases hq : sameB K was with
        | true =>
          clear HK2
          go_wp2_with fail
          go_ret
          exact ⟨rfl, hfin⟩
        | false =>
          have hKw : K = want := by
            rcases HK2.out with h | h
            · rw [sameB_iff.2 h] at hq; cases hq
            · exact h
          have hq2 := Lib.hid (sameB_iff.2 hKw)
          clear hKw hfin
          go_wp2_with fail
          refine (sys_records h7 (by show K.length ≤ _; omega)).mono ?_
          rintro e w8 ⟨v8, rfl, hv8, h8, b8⟩
          have r8 := r7.below b8
          have B8 := B7.trans (b8.mono s7)
          have s8 := B8.size
          have hv8 : StrsAt w8 v8 K := hv8
          obtain ⟨a8, c8, rfl, -⟩ := strs_len hv8
          go_wp2_with fail
          refine (same18 _ _ _ _ w8 hv8 (r8.strs (p := (u17, want)) (by simp))).mono ?_
          rintro e w9 ⟨rfl, b9⟩
          have B9 := B8.trans (b9.mono s8)
          have hfin := HB1.out.trans (B9.mono HB1.out.size)
          rw [hq2.out]
          go_wp2_with fail
          go_ret
          exact ⟨rfl, hfin⟩)
end Go.Proofs.YtnckpnbecmmcpaaGreatDoor

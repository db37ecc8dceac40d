/- nadirlaw34.JournalDamaged: the walk. -/
import Derived.Test.YtnckpnbecmmcpaaGreatDoorJL
import Derived.Test.YtnckpnbecmmcpaaGreatDoorJP
import Derived.Test.YtnckpnbecmmcpaaGreatDoorJS
namespace Go.Proofs.YtnckpnbecmmcpaaGreatDoor
open Go.RowKit Lib
set_option maxRecDepth 100000 in
set_option maxHeartbeats 16000000 in
theorem law_damaged (at_ : Int) (cb : UInt8) (vg : Value) (groups : List (List ByteArray)) (w : World) (hE : EnvJ w) (ha : InR at_) (hg : GrpsAt w vg groups) :
    Calls Tryz.prog 4 #[vg, .int .i64 at_, .int .u8 (cb.toNat : Int)] w fun e w' => e = .returned (.bool true) ∧ Below w.heap.size w w' := by
  have h3 : 3 < w.heap.size := hE.1.1
  have HE := Lib.hid (fun W (hb : Below w.heap.size w W) => hE.below h3 hb)
  have hsane := Lib.hid (sane8 w hE)
  have hnew := Lib.hid (fun W => new_own 6000 W (by decide) (by decide))
  have hg0 := Good.new (n := 6000) (by decide) (by decide)
  obtain ⟨oe1, ol1, g1, l1⟩ := open_good hg0 rfl
  generalize hD1 : openD 6000 (newD 6000) = D1 at g1 l1
  have P1 := Lib.hid (And.intro oe1 (And.intro ol1 hD1))
  have HI := Lib.hid (DamI.mk (k := 0) g1 l1 (Nat.le_refl 0))
  clear oe1 ol1 hD1 g1 l1 hg0
  obtain ⟨ga, gc, rfl, hgl1, hgl2⟩ := hg.len
  have HG := Lib.hid hg
  unfold maxLen at hgl2
  clear hg hE
  have hcv : ∀ V : World, (convert 39 9 (.slice (some ⟨V.heap.size, 0, none⟩) 1 1)).run Tryz.prog (V.alloc (.cells #[.int .u8 (cb.toNat : Int)] 5)) = .ok (.string ⟨#[cb]⟩) (V.alloc (.cells #[.int .u8 (cb.toNat : Int)] 5)) := fun V => conv_all (b := [cb]) (n := 1) (Blk.new V _ 5) rfl
  have hcb : (0 : Int) ≤ (cb.toNat : Int) ∧ (cb.toNat : Int) < 256 := ⟨by omega, by have := cb.toNat_lt; omega⟩
  go_enter Tryz.func4, Tryz.ntmps4
  go_wp2_with fail
  refine hsane.out.mono ?_
  rintro e w1 ⟨rfl, b1⟩
  go_wp2_with fail
  refine (hnew.out _).mono ?_
  rintro e w2 ⟨B, rfl, h2, b2⟩
  have s2 := b2.size
  go_wp2_with fail
  have b2' := b1.trans (b2.mono b1.size)
  refine (sys_open h2 s2 (HE.out _ b2') (by show ([] : List WrD).length ≤ 90000; decide) (by decide)).mono ?_
  rw [P1.out.1, P1.out.2.1, P1.out.2.2]
  rintro e w3 ⟨⟨hcon, -⟩ | ⟨-, Jb, rfl, h3'⟩, -, b3⟩
  · exact absurd rfl hcon
  have b3' := b2.trans b3
  have HB1 := Lib.hid b1
  clear b1 b2 b2' b3 h2 s2 hsane hnew P1
  go_wp2
  go_loopw [12] (fun u12 wr => ∃ (k : Nat) (L : List ByteArray) (D : DiskD), k ≤ groups.length ∧ k ≤ 6 ∧ u12 = .int .i64 k ∧ SysB w1.heap.size wr Jb B 6000 ⟨L, false⟩ D ∧ Hid (DamI k L D) ∧ Below w1.heap.size w1 wr) (fun u12 _ => (6 - intOf u12).toNat)
  case atStart => exact ⟨0, [], D1, by omega, by omega, rfl, h3', HI, b3'⟩
  case round =>
    clear HI h3'
    obtain ⟨k, L, D, hkl, hk6, rfl, hS, hI, hBr⟩ := hrel
    rename World => wr
    have sr := hBr.size
    by_cases hkk : k < groups.length ∧ k < 6
    · obtain ⟨hkl, hk6⟩ := hkk
      have hx := List.getElem?_eq_getElem hkl
      generalize groups[k] = g at hx
      obtain ⟨gb, go, vq, rfl, cg0, hvq0, hgs⟩ := HG.out.get hx
      have hBw := HB1.out.trans (hBr.mono HB1.out.size)
      have cg := (hBw.cell (World.block_lt_of_cell? _ _ cg0)).trans cg0
      have hvq := hvq0.below hBw
      have hki : (0 : Int) ≤ (k : Int) ∧ (k : Int) < (groups.length : Int) := by omega
      have hfl := fewL_len g
      have HA := Lib.hid (hI.out.app hk6 (fewL_size g) (fewL_len g))
      have hpe : D.pend.length ≤ 90000 := by rw [hI.out.good.pend]; exact Nat.zero_le _
      have HF := Lib.hid hI.out.good.full
      have HSS := Lib.hid (And.intro hS hBr)
      clear cg0 hvq0 hS hI hBr
      go_wp2_with fail
      refine (few11 vq g wr hvq hgs).mono ?_
      rintro e w5 ⟨v5, rfl, ho5, b5⟩
      have s5 := b5.size
      have h5 := HSS.out.1.below b5
      have B5 := HSS.out.2.trans (b5.mono sr)
      clear cg hvq
      go_wp2_with fail
      refine (sys_append h5 B5.size (HE.out _ (HB1.out.trans (B5.mono HB1.out.size))) hpe (by decide) HF.out.2.1 HF.out.1 v5 (fewL g) (strs_own ho5) (by omega)).mono ?_
      rw [HA.out.1, HA.out.2.1]
      rintro e w6 ⟨rfl, h6, b6⟩
      have HX := Lib.hid (And.intro h6 (B5.trans b6))
      have HI6 := Lib.hid HA.out.2.2
      clear h6 b6 h5 B5 ho5 b5
      go_wp2
      go_roundw
      case rel => exact ⟨k + 1, _, _, by omega, by omega, by go_num, HX.out.1, HI6, HX.out.2⟩
      case measure => simp [intOf]; omega
    · have hLn := hI.out.good.len
      have htn := hI.out.good.full.2.1
      have hpe : D.pend.length ≤ 90000 := by rw [hI.out.good.pend]; exact Nat.zero_le _
      have HSS := Lib.hid (And.intro hS hBr)
      have wu1 : IntKind.i64.wrap (6000 - ((6000 : Int) - (tapeN L : Int))) = (tapeN L : Int) := by rw [wrapS _ (by omega) (by omega)]; omega
      clear hS hBr
      go_wp2_with fail
      all_goals (
        refine (sys_rec HSS.out.1 (by show L.length ≤ _; omega)).mono ?_
        rintro e w4 ⟨v4, rfl, ho4, h4, b4⟩
        have ho4 : w4.ownsRow wr.heap.size 9 1 v4 L.length (L.map Value.string) := ho4
        have B4 := HSS.out.2.trans (b4.mono sr)
        have s4 := B4.size
        go_wp2_with fail
        refine (sys_room h4 (by show tapeN L ≤ _; omega)).mono ?_
        rintro e w5 ⟨rfl, h5, b5⟩
        rw [show (((6000 : Nat) : Int) - ((tapeN (JouD.mk L false).L : Nat) : Int)) = (6000 : Int) - (tapeN L : Int) from rfl]
        have r5 := ((RowsAt.nil w4).cons ho4).below b5
        have B5 := B4.trans (b5.mono s4)
        have s5 := B5.size
        clear ho4 h4 b4 b5 B4
        obtain ⟨a4, c4, rfl, hc41, hc42⟩ : ∃ a c, v4 = .slice a L.length c ∧ L.length ≤ c ∧ c ≤ maxLen := strs_len (r5.strs (p := (v4, L)) (by simp))
        unfold maxLen at hc42
        by_cases hT : tapeN L = 0
        · have hl0 : L.length = 0 := by have := tapeN_len L; omega
          have hfin := HB1.out.trans (B5.mono HB1.out.size)
          clear r5 h5 hI HSS B5
          generalize tapeN L = T at *
          generalize L.length = ll at *
          subst hT hl0
          go_wp2
          go_ret
          exact ⟨rfl, hfin⟩
        · have hT1 : (0 : Int) < (tapeN L : Int) := by omega
          have hpk := pick_any at_ (tapeN L : Int) w5 ha hT1 (by omega)
          have hpb := pickI_bd at_ hT1
          obtain ⟨p, hp⟩ := Int.eq_ofNat_of_zero_le hpb.1
          rw [hp] at hpk hpb
          have hpT : p < tapeN L := by omega
          have HGD := Lib.hid hI.out.good
          have HL0 := Lib.hid hI.out.left
          have HDO := Lib.hid (fun (h1 : D.vis[p]? ≠ some cb) (h2 : sizedB L p = false) => dam_open HGD.out HL0.out hpT h1 h2)
          obtain ⟨s, hs, hss, hsb⟩ := dam_read HGD.out HL0.out
          obtain ⟨x, hx1, hx2⟩ := hsb p (by omega)
          have hps : p < s.size := by omega
          have hx2 := hx2 hps
          have hp6 : p < 6000 := by omega
          have HSZ := Lib.hid (fun W (hb : Below w5.heap.size w5 W) => sized26 (.slice a4 L.length c4) L (p : Int) W ((r5.strs (p := (.slice a4 L.length c4, L)) (by simp)).below hb) HGD.out.full.1 (by omega) (by omega))
          have HH5 := Lib.hid (And.intro h5 (And.intro r5 B5))
          have HRD := Lib.hid hs
          clear hI hp hs hsb h5 r5 B5 HSS hpT
          generalize tapeN L = T at *
          go_wp2_with fail
          refine hpk.mono ?_
          rintro e wq ⟨rfl, rfl⟩
          clear hpk
          go_wp2_with fail
          refine (HSZ.out _ (Below.refl _ _)).mono ?_
          rintro e w6 ⟨rfl, b6⟩
          have HH6 := Lib.hid (And.intro (HH5.out.1.below b6) (And.intro (HH5.out.2.1.below b6) (HH5.out.2.2.trans (b6.mono HH5.out.2.2.size))))
          have hct := content22 HH6.out.1.own
          rw [HRD.out] at hct
          have hfin := Lib.hid (HB1.out.trans (HH6.out.2.2.mono HB1.out.size))
          cases hsd : sizedB L (p : Int) with
          | true =>
            clear HH5 HSZ b6 hct HH6
            go_wp2_with fail
            go_ret
            exact ⟨rfl, hfin.out⟩
          | false =>
            clear HH5 HSZ b6
            go_wp2_with fail
            refine hct.mono ?_
            rintro e wq ⟨rfl, rfl⟩
            clear hct
            by_cases hxc : (x.toNat : Int) = (cb.toNat : Int)
            · have hxx : x = cb := UInt8.toNat_inj.1 (by omega)
              subst hxx
              go_wp2_with fail
              go_ret
              exact ⟨rfl, hfin.out⟩
            · have hne : D.vis[p]? ≠ some cb := by rw [hx1]; intro h; cases h; exact hxc rfl
              have hnb : ((x.toNat : Int) == (cb.toNat : Int)) = false := beq_eq_false_iff_ne.2 hxc
              obtain ⟨hpl, hdo⟩ := HDO.out hne hsd
              generalize hDX : writeD D p ⟨#[cb]⟩ = DX at hpl hdo
              have HDX := Lib.hid hDX
              have HDX2 := Lib.hid hdo
              clear hDX hdo hne hx1 hx2 HDO hsd hfin
              go_wp2_with fail
              have bW : Below w6.heap.size w6 (w6.alloc (.cells #[.int .u8 (cb.toNat : Int)] 5)) := (Below.refl _ _).alloc (Nat.le_refl _) _
              have B7 := HH6.out.2.2.trans (bW.mono HH6.out.2.2.size)
              refine (rs_write (HH6.out.1.below bW) (HH6.out.2.1.below bW) B7.size hpe (p : Int) ⟨#[cb]⟩).mono ?_
              rintro e w8 ⟨rfl, h8, r8, b8⟩
              rw [HDX.out] at h8
              have B8 := B7.trans b8
              have s8 := B8.size
              clear bW B7 b8 HH6
              go_wp2_with fail
              refine (rs_reopen h8 r8 s8 (HE.out _ (HB1.out.trans (B8.mono HB1.out.size))) (Nat.le_trans hpl (by decide)) (by decide)).mono ?_
              rcases HDX2.out with hoe | ⟨hoe, M, hoM, hMl, hMs, hch⟩
              · unfold Opened
                rw [hoe]
                rintro e w9 ⟨⟨-, rfl⟩ | ⟨hcon, -⟩, -, -, b9⟩
                rotate_left
                · exact absurd hcon (by decide)
                have hfin := HB1.out.trans ((B8.trans b9).mono HB1.out.size)
                clear h8 r8 B8 b9 HDX2 HDX hoe
                go_wp2
                go_ret
                exact ⟨rfl, hfin⟩
              · unfold Opened
                rw [hoe, hoM]
                rintro e w9 ⟨⟨hcon, -⟩ | ⟨-, K, rfl, hKb, k9⟩, h9, r9, b9⟩
                · exact absurd rfl hcon
                have B9 := B8.trans b9
                have s9 := B9.size
                have hS9 : SysB w1.heap.size w9 K B 6000 ⟨M, false⟩ (openD 6000 DX) := ⟨h9.own, k9.mono (Nat.zero_le _), by omega⟩
                have HCH := Lib.hid hch
                have HMS := Lib.hid hMs
                clear h8 r8 B8 b9 HDX2 HDX hoe hoM hch hMs k9 h9
                go_wp2_with fail
                refine (sys_rec hS9 (by show M.length ≤ _; omega)).mono ?_
                rintro e wM ⟨vM, rfl, hoM, -, bM⟩
                have hoM : wM.ownsRow w9.heap.size 9 1 vM M.length (M.map Value.string) := hoM
                have rM := (r9.below bM).cons hoM
                have BM := B9.trans (bM.mono s9)
                have sM := BM.size
                obtain ⟨aM, cM, rfl, hcM1, hcM2⟩ : ∃ a c, vM = .slice a M.length c ∧ M.length ≤ c ∧ c ≤ maxLen := strs_len (rM.strs (p := (vM, M)) (by simp))
                unfold maxLen at hcM2
                have HRM := Lib.hid (And.intro rM BM)
                clear hS9 r9 B9 bM rM BM hoM ho4
                have hfin := Lib.hid (HB1.out.trans (HRM.out.2.mono HB1.out.size))
                by_cases f1 : cb.toNat = 0
                · have hf1 : (cb.toNat : Int) = 0 := by omega
                  by_cases f2 : M.length < L.length
                  · have hi2 : (0 : Int) ≤ (M.length : Int) ∧ (M.length : Int) ≤ (c4 : Int) := by omega
                    have hst := strs_take (HRM.out.1.strs (p := (.slice a4 L.length c4, L)) (by simp)) M.length (by omega)
                    have hdf2 : decide (M.length < L.length) = true := decide_eq_true f2
                    go_wp2_with fail
                    refine (same18 _ _ _ _ wM (HRM.out.1.strs (p := (.slice aM M.length cM, M)) (by simp)) hst).mono ?_
                    rintro e wN ⟨rfl, bN⟩
                    have HRV := Lib.hid (And.intro (HRM.out.1.below bN) (HRM.out.2.trans (bN.mono sM)))
                    clear bN hst
                    cases hsm : sameB M (L.take M.length) with
                    | true =>
                      have hfin := HB1.out.trans (HRV.out.2.mono HB1.out.size)
                      go_wp2
                      go_ret
                      exact ⟨rfl, hfin⟩
                    | false =>
                      have HCOL := Lib.hid (show Collide z32 L M from HCH.out.elim (fun h => by rw [sameB_iff.2 h.2.2] at hsm; cases hsm) id)
                      clear HRM hsm hfin
                      have hCo : Collide z32 L M := HCOL.out
                      obtain ⟨i0, qa, qb, hqa, hqb, hqab, hqs⟩ := hCo
                      have hia : i0 < (headsL z32 L).length := by
                        refine Classical.byContradiction fun h => ?_
                        rw [List.getElem?_eq_none (by omega)] at hqa; cases hqa
                      have hib : i0 < (headsL z32 M).length := by
                        refine Classical.byContradiction fun h => ?_
                        rw [List.getElem?_eq_none (by omega)] at hqb; cases hqb
                      have HQ := Lib.hid (And.intro hqa (And.intro hqb (And.intro hqab hqs)))
                      have hal := headsL_len L z32
                      have hbl := headsL_len M z32
                      clear hqa hqb hqab hqs
                      go_wp2_with fail
                      refine (heads27 _ L wN (HRV.out.1.strs (p := (.slice a4 L.length c4, L)) (by simp)) HGD.out.full.1 (by omega)).mono ?_
                      rintro e wa ⟨va, rfl, hoa, ba⟩
                      have ra := (HRV.out.1.below ba).cons hoa
                      have Ba := HRV.out.2.trans (ba.mono HRV.out.2.size)
                      clear ba hoa
                      go_wp2_with fail
                      refine (heads27 _ M wa (ra.strs (p := (.slice aM M.length cM, M)) (by simp)) HMS.out (by omega)).mono ?_
                      rintro e wb ⟨vb, rfl, hob, bb⟩
                      have rb := ((ra.below bb).cons hob).sub (ts := [(va, headsL z32 L), (vb, headsL z32 M)]) (by simp)
                      have Bb := Ba.trans (bb.mono Ba.size)
                      clear bb hob ra Ba
                      obtain ⟨aa, ca, rfl, hca1, hca2⟩ : ∃ a c, va = .slice a (headsL z32 L).length c ∧ (headsL z32 L).length ≤ c ∧ c ≤ maxLen := strs_len (rb.strs (p := (va, headsL z32 L)) (by simp))
                      obtain ⟨ab, cbb, rfl, hcb1, hcb2⟩ : ∃ a c, vb = .slice a (headsL z32 M).length c ∧ (headsL z32 M).length ≤ c ∧ c ≤ maxLen := strs_len (rb.strs (p := (vb, headsL z32 M)) (by simp))
                      unfold maxLen at hca2 hcb2
                      have HSA := Lib.hid (fun t ht => heads_mem (t := t) L z32 rfl HGD.out.full.1 ht)
                      have HSB := Lib.hid (fun t ht => heads_mem (t := t) M z32 rfl HMS.out ht)
                      have hla1 : (headsL z32 L).length ≤ 10000 := by omega
                      have hlb1 : (headsL z32 M).length ≤ 10000 := by omega
                      clear hal hbl
                      generalize headsL z32 L = ha at *
                      generalize headsL z32 M = hb at *
                      have Hst := Lib.hid (And.intro rb Bb)
                      clear rb Bb
                      go_wp2
                      go_loopw [23] (fun u23 wr => ∃ i : Nat, i ≤ i0 ∧ u23 = .int .i64 (i : Int) ∧ RowsAt wr [(.slice aa ha.length ca, ha), (.slice ab hb.length cbb, hb)] ∧ Below w1.heap.size w1 wr) (fun u23 _ => (i0 + 1 - intOf u23).toNat)
                      case atStart => exact ⟨0, by omega, rfl, Hst.out.1, Hst.out.2⟩
                      case round =>
                        obtain ⟨i, hi, rfl, hrw, hBi⟩ := hrel
                        rename World => wr
                        have sri := hBi.size
                        have i1 : i < ha.length := by omega
                        have i2 : i < hb.length := by omega
                        have i3 : (0 : Int) ≤ (i : Int) ∧ (i : Int) < (ha.length : Int) := by omega
                        have i4 : (0 : Int) ≤ (i : Int) ∧ (i : Int) < (hb.length : Int) := by omega
                        have dd1 : decide (i < ha.length) = true := decide_eq_true i1
                        have dd2 : decide (i < hb.length) = true := decide_eq_true i2
                        obtain ⟨b1, o1, rfl, c1⟩ := strs_get (hrw.strs (p := (.slice aa ha.length ca, ha)) (by simp)) i1
                        obtain ⟨b2, o2, rfl, c2⟩ := strs_get (hrw.strs (p := (.slice ab hb.length cbb, hb)) (by simp)) i2
                        have HSZS := Lib.hid (And.intro (HSA.out _ (List.getElem_mem i1)) (HSB.out _ (List.getElem_mem i2)))
                        have HEI := Lib.hid (And.intro (List.getElem?_eq_getElem i1) (List.getElem?_eq_getElem i2))
                        generalize ha[i] = sa at c1 HSZS HEI
                        generalize hb[i] = sb at c2 HSZS HEI
                        have HC12 := Lib.hid (And.intro (show wr.drew.cell? ⟨b1, o1 + i, none⟩ = some (.string sa) from c1) (show wr.drew.cell? ⟨b2, o2 + i, none⟩ = some (.string sb) from c2))
                        have HLT := Lib.hid (And.intro (World.block_lt_of_cell? _ _ c1) (World.block_lt_of_cell? _ _ c2))
                        have HRW := Lib.hid (And.intro hrw hBi)
                        clear c1 c2 hrw hBi
                        by_cases hsab : sa = sb
                        · have hne0 : i ≠ i0 := fun e => by
                            subst e
                            have e1 := HEI.out.1.symm.trans HQ.out.1
                            have e2 := HEI.out.2.symm.trans HQ.out.2.1
                            exact HQ.out.2.2.1 ((Option.some.inj e1).symm.trans (hsab.trans (Option.some.inj e2)))
                          subst hsab
                          go_upto_region 36 with (fail)
                          refine wp_region_noPanic ?_
                          refine wp_region_held_drew (S := (fun w' => Below wr.heap.size wr w' ∧ w'.cell? ⟨b1, o1 + i, none⟩ = some (.string sa) ∧ w'.cell? ⟨b2, o2 + i, none⟩ = some (.string sa))) (by kernel_rfl) ⟨(Below.refl _ _).drew, HC12.out.1, HC12.out.2⟩ (fun hHeld => ?_)
                          refine wpAnyH_take (i := 0) (oi := { dst := some 157, op := Op.move (Operand.tmp 21), type := 22, pos := "law.go:314", after := #[], guard := none }) (v := ?_) rfl (by kernel_rfl) (by kernel_rfl) (by kernel_rfl) (fun _ _ _ h => h) (Or.inl ⟨by kernel_rfl, ?_⟩) (by assumption) ?_
                          rotate_left
                          · intro w hSw
                            (try dsimp only at hSw)
                            go_simp
                            all_goals (with_reducible rfl)
                          (try simp only [Act.put, List.setIfInBounds_toArray, List.set_cons_zero, List.set_cons_succ])
                          refine wpAnyH_take (i := 1) (oi := { dst := some 158, op := Op.move (Operand.tmp 23), type := 3, pos := "law.go:314", after := #[], guard := none }) (v := ?_) rfl (by kernel_rfl) (by kernel_rfl) (by kernel_rfl) (fun _ _ _ h => h) (Or.inl ⟨by kernel_rfl, ?_⟩) (by assumption) ?_
                          rotate_left
                          · intro w hSw
                            (try dsimp only at hSw)
                            go_simp
                            all_goals (with_reducible rfl)
                          (try simp only [Act.put, List.setIfInBounds_toArray, List.set_cons_zero, List.set_cons_succ])
                          refine wpAnyH_take (i := 2) (oi := { dst := some 159, op := Op.indexAddr 22 (Operand.tmp 157) (Operand.tmp 158), type := 0, pos := "law.go:314", after := #[{ on := 0, ground := Ground.data }, { on := 1, ground := Ground.data }], guard := none }) (v := ?_) rfl (by kernel_rfl) (by kernel_rfl) (by kernel_rfl) (fun _ _ _ h => h) (Or.inl ⟨by kernel_rfl, ?_⟩) (by assumption) ?_
                          rotate_left
                          · intro w hSw
                            (try dsimp only at hSw)
                            go_simp
                            all_goals (with_reducible rfl)
                          (try simp only [Act.put, List.setIfInBounds_toArray, List.set_cons_zero, List.set_cons_succ])
                          refine wpAnyH_take (i := 3) (oi := { dst := some 160, op := Op.load 9 (Operand.tmp 159), type := 9, pos := "law.go:314", after := #[{ on := 2, ground := Ground.data }], guard := none }) (v := ?_) rfl (by kernel_rfl) (by kernel_rfl) (by kernel_rfl) (fun _ _ _ h => h) (Or.inl ⟨by kernel_rfl, ?_⟩) (by assumption) ?_
                          rotate_left
                          · intro w hSw
                            (try dsimp only at hSw)
                            go_simp
                            all_goals (with_reducible rfl)
                          (try simp only [Act.put, List.setIfInBounds_toArray, List.set_cons_zero, List.set_cons_succ])
                          refine wpAnyH_take (i := 4) (oi := { dst := some 161, op := Op.move (Operand.tmp 22), type := 22, pos := "law.go:314", after := #[], guard := none }) (v := ?_) rfl (by kernel_rfl) (by kernel_rfl) (by kernel_rfl) (fun _ _ _ h => h) (Or.inl ⟨by kernel_rfl, ?_⟩) (by assumption) ?_
                          rotate_left
                          · intro w hSw
                            (try dsimp only at hSw)
                            go_simp
                            all_goals (with_reducible rfl)
                          (try simp only [Act.put, List.setIfInBounds_toArray, List.set_cons_zero, List.set_cons_succ])
                          refine wpAnyH_take (i := 5) (oi := { dst := some 162, op := Op.move (Operand.tmp 23), type := 3, pos := "law.go:314", after := #[], guard := none }) (v := ?_) rfl (by kernel_rfl) (by kernel_rfl) (by kernel_rfl) (fun _ _ _ h => h) (Or.inl ⟨by kernel_rfl, ?_⟩) (by assumption) ?_
                          rotate_left
                          · intro w hSw
                            (try dsimp only at hSw)
                            go_simp
                            all_goals (with_reducible rfl)
                          (try simp only [Act.put, List.setIfInBounds_toArray, List.set_cons_zero, List.set_cons_succ])
                          refine wpAnyH_take (i := 6) (oi := { dst := some 163, op := Op.indexAddr 22 (Operand.tmp 161) (Operand.tmp 162), type := 0, pos := "law.go:314", after := #[{ on := 4, ground := Ground.data }, { on := 5, ground := Ground.data }], guard := none }) (v := ?_) rfl (by kernel_rfl) (by kernel_rfl) (by kernel_rfl) (fun _ _ _ h => h) (Or.inl ⟨by kernel_rfl, ?_⟩) (by assumption) ?_
                          rotate_left
                          · intro w hSw
                            (try dsimp only at hSw)
                            go_simp
                            all_goals (with_reducible rfl)
                          (try simp only [Act.put, List.setIfInBounds_toArray, List.set_cons_zero, List.set_cons_succ])
                          refine wpAnyH_take (i := 7) (oi := { dst := some 164, op := Op.load 9 (Operand.tmp 163), type := 9, pos := "law.go:314", after := #[{ on := 6, ground := Ground.data }], guard := none }) (v := ?_) rfl (by kernel_rfl) (by kernel_rfl) (by kernel_rfl) (fun _ _ _ h => h) (Or.inl ⟨by kernel_rfl, ?_⟩) (by assumption) ?_
                          rotate_left
                          · intro w hSw
                            (try dsimp only at hSw)
                            go_simp
                            all_goals (with_reducible rfl)
                          (try simp only [Act.put, List.setIfInBounds_toArray, List.set_cons_zero, List.set_cons_succ])
                          refine wpAnyH_take (i := 8) (oi := { dst := some 165, op := Op.binOp BinOp.neq 9 (Operand.tmp 160) (Operand.tmp 164) 9, type := 4, pos := "law.go:314", after := #[{ on := 3, ground := Ground.data }, { on := 7, ground := Ground.data }], guard := none }) (v := ?_) rfl (by kernel_rfl) (by kernel_rfl) (by kernel_rfl) (fun _ _ _ h => h) (Or.inl ⟨by kernel_rfl, ?_⟩) (by assumption) ?_
                          rotate_left
                          · intro w hSw
                            (try dsimp only at hSw)
                            go_simp
                            all_goals (with_reducible rfl)
                          (try simp only [Act.put, List.setIfInBounds_toArray, List.set_cons_zero, List.set_cons_succ])
                          refine wpAnyH_take (i := 9) (oi := { dst := some 166, op := Op.move (Operand.tmp 165), type := 4, pos := "law.go:314", after := #[{ on := 8, ground := Ground.data }], guard := none }) (v := ?_) rfl (by kernel_rfl) (by kernel_rfl) (by kernel_rfl) (fun _ _ _ h => h) (Or.inl ⟨by kernel_rfl, ?_⟩) (by assumption) ?_
                          rotate_left
                          · intro w hSw
                            (try dsimp only at hSw)
                            go_simp
                            all_goals (with_reducible rfl)
                          (try simp only [Act.put, List.setIfInBounds_toArray, List.set_cons_zero, List.set_cons_succ])
                          refine wpAnyH_take (i := 10) (oi := { dst := some 167, op := Op.move (Operand.tmp 21), type := 22, pos := "law.go:314", after := #[{ on := 9, ground := Ground.guard }], guard := some (9, true) }) (v := undef) rfl (by kernel_rfl) (by kernel_rfl) (by kernel_rfl) (fun _ _ _ h => h) (Or.inr ⟨by kernel_rfl, rfl⟩) (by assumption) ?_
                          (try simp only [Act.put, List.setIfInBounds_toArray, List.set_cons_zero, List.set_cons_succ])
                          refine wpAnyH_take (i := 11) (oi := { dst := some 168, op := Op.move (Operand.tmp 23), type := 3, pos := "law.go:314", after := #[{ on := 9, ground := Ground.guard }], guard := some (9, true) }) (v := undef) rfl (by kernel_rfl) (by kernel_rfl) (by kernel_rfl) (fun _ _ _ h => h) (Or.inr ⟨by kernel_rfl, rfl⟩) (by assumption) ?_
                          (try simp only [Act.put, List.setIfInBounds_toArray, List.set_cons_zero, List.set_cons_succ])
                          refine wpAnyH_take (i := 12) (oi := { dst := some 169, op := Op.indexAddr 22 (Operand.tmp 167) (Operand.tmp 168), type := 0, pos := "law.go:314", after := #[{ on := 10, ground := Ground.data }, { on := 11, ground := Ground.data }, { on := 9, ground := Ground.guard }], guard := some (9, true) }) (v := undef) rfl (by kernel_rfl) (by kernel_rfl) (by kernel_rfl) (fun _ _ _ h => h) (Or.inr ⟨by kernel_rfl, rfl⟩) (by assumption) ?_
                          (try simp only [Act.put, List.setIfInBounds_toArray, List.set_cons_zero, List.set_cons_succ])
                          refine wpAnyH_take (i := 13) (oi := { dst := some 170, op := Op.load 9 (Operand.tmp 169), type := 9, pos := "law.go:314", after := #[{ on := 12, ground := Ground.data }, { on := 9, ground := Ground.guard }], guard := some (9, true) }) (v := undef) rfl (by kernel_rfl) (by kernel_rfl) (by kernel_rfl) (fun _ _ _ h => h) (Or.inr ⟨by kernel_rfl, rfl⟩) (by assumption) ?_
                          (try simp only [Act.put, List.setIfInBounds_toArray, List.set_cons_zero, List.set_cons_succ])
                          refine wpAnyH_take (i := 14) (oi := { dst := some 171, op := Op.call { callee := Callee.value (Operand.func 28), args := #[Operand.tmp 170], argTypes := #[9] }, type := 9, pos := "law.go:314", after := #[{ on := 13, ground := Ground.data }, { on := 9, ground := Ground.chain }, { on := 9, ground := Ground.guard }], guard := some (9, true) }) (v := undef) rfl (by kernel_rfl) (by kernel_rfl) (by kernel_rfl) (fun _ _ _ h => h) (Or.inr ⟨by kernel_rfl, rfl⟩) (by assumption) ?_
                          (try simp only [Act.put, List.setIfInBounds_toArray, List.set_cons_zero, List.set_cons_succ])
                          refine wpAnyH_take (i := 15) (oi := { dst := some 172, op := Op.move (Operand.tmp 22), type := 22, pos := "law.go:314", after := #[{ on := 9, ground := Ground.guard }], guard := some (9, true) }) (v := undef) rfl (by kernel_rfl) (by kernel_rfl) (by kernel_rfl) (fun _ _ _ h => h) (Or.inr ⟨by kernel_rfl, rfl⟩) (by assumption) ?_
                          (try simp only [Act.put, List.setIfInBounds_toArray, List.set_cons_zero, List.set_cons_succ])
                          refine wpAnyH_take (i := 16) (oi := { dst := some 173, op := Op.move (Operand.tmp 23), type := 3, pos := "law.go:314", after := #[{ on := 9, ground := Ground.guard }], guard := some (9, true) }) (v := undef) rfl (by kernel_rfl) (by kernel_rfl) (by kernel_rfl) (fun _ _ _ h => h) (Or.inr ⟨by kernel_rfl, rfl⟩) (by assumption) ?_
                          (try simp only [Act.put, List.setIfInBounds_toArray, List.set_cons_zero, List.set_cons_succ])
                          refine wpAnyH_take (i := 17) (oi := { dst := some 174, op := Op.indexAddr 22 (Operand.tmp 172) (Operand.tmp 173), type := 0, pos := "law.go:314", after := #[{ on := 15, ground := Ground.data }, { on := 16, ground := Ground.data }, { on := 9, ground := Ground.guard }], guard := some (9, true) }) (v := undef) rfl (by kernel_rfl) (by kernel_rfl) (by kernel_rfl) (fun _ _ _ h => h) (Or.inr ⟨by kernel_rfl, rfl⟩) (by assumption) ?_
                          (try simp only [Act.put, List.setIfInBounds_toArray, List.set_cons_zero, List.set_cons_succ])
                          refine wpAnyH_take (i := 18) (oi := { dst := some 175, op := Op.load 9 (Operand.tmp 174), type := 9, pos := "law.go:314", after := #[{ on := 17, ground := Ground.data }, { on := 9, ground := Ground.guard }], guard := some (9, true) }) (v := undef) rfl (by kernel_rfl) (by kernel_rfl) (by kernel_rfl) (fun _ _ _ h => h) (Or.inr ⟨by kernel_rfl, rfl⟩) (by assumption) ?_
                          (try simp only [Act.put, List.setIfInBounds_toArray, List.set_cons_zero, List.set_cons_succ])
                          refine wpAnyH_take (i := 19) (oi := { dst := some 176, op := Op.call { callee := Callee.value (Operand.func 28), args := #[Operand.tmp 175], argTypes := #[9] }, type := 9, pos := "law.go:314", after := #[{ on := 18, ground := Ground.data }, { on := 14, ground := Ground.chain }, { on := 9, ground := Ground.guard }], guard := some (9, true) }) (v := undef) rfl (by kernel_rfl) (by kernel_rfl) (by kernel_rfl) (fun _ _ _ h => h) (Or.inr ⟨by kernel_rfl, rfl⟩) (by assumption) ?_
                          (try simp only [Act.put, List.setIfInBounds_toArray, List.set_cons_zero, List.set_cons_succ])
                          refine wpAnyH_take (i := 20) (oi := { dst := some 177, op := Op.binOp BinOp.eql 9 (Operand.tmp 171) (Operand.tmp 176) 9, type := 4, pos := "law.go:314", after := #[{ on := 14, ground := Ground.data }, { on := 19, ground := Ground.data }, { on := 9, ground := Ground.guard }], guard := some (9, true) }) (v := undef) rfl (by kernel_rfl) (by kernel_rfl) (by kernel_rfl) (fun _ _ _ h => h) (Or.inr ⟨by kernel_rfl, rfl⟩) (by assumption) ?_
                          (try simp only [Act.put, List.setIfInBounds_toArray, List.set_cons_zero, List.set_cons_succ])
                          refine wpAnyH_take (i := 21) (oi := { dst := some 178, op := Op.pick (Operand.tmp 166) (Operand.tmp 177) (Operand.const (Value.bool false)), type := 4, pos := "law.go:314", after := #[{ on := 9, ground := Ground.data }, { on := 20, ground := Ground.data }], guard := none }) (v := ?_) rfl (by kernel_rfl) (by kernel_rfl) (by kernel_rfl) (fun _ _ _ h => h) (Or.inl ⟨by kernel_rfl, ?_⟩) (by assumption) ?_
                          rotate_left
                          · intro w hSw
                            (try dsimp only at hSw)
                            go_simp
                            all_goals (with_reducible rfl)
                          (try simp only [Act.put, List.setIfInBounds_toArray, List.set_cons_zero, List.set_cons_succ])
                          refine wpAnyH_done (by kernel_rfl) ?_ _
                          refine NoPanic.normal ?_
                          have hbD := Lib.hid hHeld.1
                          clear hHeld
                          have HN := Lib.hid (And.intro (HRW.out.1.below hbD.out) (HRW.out.2.trans (hbD.out.mono sri)))
                          clear hbD
                          go_wp2
                          go_roundw
                          case rel => exact ⟨i + 1, by omega, by go_num, HN.out.1, HN.out.2⟩
                          case measure => simp [intOf]; omega
                        · have hq1 : (sa.toList == sb.toList) = false := by
                            rw [beq_eq_false_iff_ne]
                            intro h
                            exact hsab (W01.str_toList h)
                          cases hsum : ((sumS sa).toList == (sumS sb).toList) with
                          | true =>
                            go_upto_region 36 with (fail)
                            refine wp_region_noPanic ?_
                            refine wp_region_held_drew (S := (fun w' => Below wr.heap.size wr w' ∧ w'.cell? ⟨b1, o1 + i, none⟩ = some (.string sa) ∧ w'.cell? ⟨b2, o2 + i, none⟩ = some (.string sb))) (by kernel_rfl) ⟨(Below.refl _ _).drew, HC12.out.1, HC12.out.2⟩ (fun hHeld => ?_)
                            refine wpAnyH_take (i := 0) (oi := { dst := some 157, op := Op.move (Operand.tmp 21), type := 22, pos := "law.go:314", after := #[], guard := none }) (v := ?_) rfl (by kernel_rfl) (by kernel_rfl) (by kernel_rfl) (fun _ _ _ h => h) (Or.inl ⟨by kernel_rfl, ?_⟩) (by assumption) ?_
                            rotate_left
                            · intro w hSw
                              (try dsimp only at hSw)
                              go_simp
                              all_goals (with_reducible rfl)
                            (try simp only [Act.put, List.setIfInBounds_toArray, List.set_cons_zero, List.set_cons_succ])
                            refine wpAnyH_take (i := 1) (oi := { dst := some 158, op := Op.move (Operand.tmp 23), type := 3, pos := "law.go:314", after := #[], guard := none }) (v := ?_) rfl (by kernel_rfl) (by kernel_rfl) (by kernel_rfl) (fun _ _ _ h => h) (Or.inl ⟨by kernel_rfl, ?_⟩) (by assumption) ?_
                            rotate_left
                            · intro w hSw
                              (try dsimp only at hSw)
                              go_simp
                              all_goals (with_reducible rfl)
                            (try simp only [Act.put, List.setIfInBounds_toArray, List.set_cons_zero, List.set_cons_succ])
                            refine wpAnyH_take (i := 2) (oi := { dst := some 159, op := Op.indexAddr 22 (Operand.tmp 157) (Operand.tmp 158), type := 0, pos := "law.go:314", after := #[{ on := 0, ground := Ground.data }, { on := 1, ground := Ground.data }], guard := none }) (v := ?_) rfl (by kernel_rfl) (by kernel_rfl) (by kernel_rfl) (fun _ _ _ h => h) (Or.inl ⟨by kernel_rfl, ?_⟩) (by assumption) ?_
                            rotate_left
                            · intro w hSw
                              (try dsimp only at hSw)
                              go_simp
                              all_goals (with_reducible rfl)
                            (try simp only [Act.put, List.setIfInBounds_toArray, List.set_cons_zero, List.set_cons_succ])
                            refine wpAnyH_take (i := 3) (oi := { dst := some 160, op := Op.load 9 (Operand.tmp 159), type := 9, pos := "law.go:314", after := #[{ on := 2, ground := Ground.data }], guard := none }) (v := ?_) rfl (by kernel_rfl) (by kernel_rfl) (by kernel_rfl) (fun _ _ _ h => h) (Or.inl ⟨by kernel_rfl, ?_⟩) (by assumption) ?_
                            rotate_left
                            · intro w hSw
                              (try dsimp only at hSw)
                              go_simp
                              all_goals (with_reducible rfl)
                            (try simp only [Act.put, List.setIfInBounds_toArray, List.set_cons_zero, List.set_cons_succ])
                            refine wpAnyH_take (i := 4) (oi := { dst := some 161, op := Op.move (Operand.tmp 22), type := 22, pos := "law.go:314", after := #[], guard := none }) (v := ?_) rfl (by kernel_rfl) (by kernel_rfl) (by kernel_rfl) (fun _ _ _ h => h) (Or.inl ⟨by kernel_rfl, ?_⟩) (by assumption) ?_
                            rotate_left
                            · intro w hSw
                              (try dsimp only at hSw)
                              go_simp
                              all_goals (with_reducible rfl)
                            (try simp only [Act.put, List.setIfInBounds_toArray, List.set_cons_zero, List.set_cons_succ])
                            refine wpAnyH_take (i := 5) (oi := { dst := some 162, op := Op.move (Operand.tmp 23), type := 3, pos := "law.go:314", after := #[], guard := none }) (v := ?_) rfl (by kernel_rfl) (by kernel_rfl) (by kernel_rfl) (fun _ _ _ h => h) (Or.inl ⟨by kernel_rfl, ?_⟩) (by assumption) ?_
                            rotate_left
                            · intro w hSw
                              (try dsimp only at hSw)
                              go_simp
                              all_goals (with_reducible rfl)
                            (try simp only [Act.put, List.setIfInBounds_toArray, List.set_cons_zero, List.set_cons_succ])
                            refine wpAnyH_take (i := 6) (oi := { dst := some 163, op := Op.indexAddr 22 (Operand.tmp 161) (Operand.tmp 162), type := 0, pos := "law.go:314", after := #[{ on := 4, ground := Ground.data }, { on := 5, ground := Ground.data }], guard := none }) (v := ?_) rfl (by kernel_rfl) (by kernel_rfl) (by kernel_rfl) (fun _ _ _ h => h) (Or.inl ⟨by kernel_rfl, ?_⟩) (by assumption) ?_
                            rotate_left
                            · intro w hSw
                              (try dsimp only at hSw)
                              go_simp
                              all_goals (with_reducible rfl)
                            (try simp only [Act.put, List.setIfInBounds_toArray, List.set_cons_zero, List.set_cons_succ])
                            refine wpAnyH_take (i := 7) (oi := { dst := some 164, op := Op.load 9 (Operand.tmp 163), type := 9, pos := "law.go:314", after := #[{ on := 6, ground := Ground.data }], guard := none }) (v := ?_) rfl (by kernel_rfl) (by kernel_rfl) (by kernel_rfl) (fun _ _ _ h => h) (Or.inl ⟨by kernel_rfl, ?_⟩) (by assumption) ?_
                            rotate_left
                            · intro w hSw
                              (try dsimp only at hSw)
                              go_simp
                              all_goals (with_reducible rfl)
                            (try simp only [Act.put, List.setIfInBounds_toArray, List.set_cons_zero, List.set_cons_succ])
                            refine wpAnyH_take (i := 8) (oi := { dst := some 165, op := Op.binOp BinOp.neq 9 (Operand.tmp 160) (Operand.tmp 164) 9, type := 4, pos := "law.go:314", after := #[{ on := 3, ground := Ground.data }, { on := 7, ground := Ground.data }], guard := none }) (v := ?_) rfl (by kernel_rfl) (by kernel_rfl) (by kernel_rfl) (fun _ _ _ h => h) (Or.inl ⟨by kernel_rfl, ?_⟩) (by assumption) ?_
                            rotate_left
                            · intro w hSw
                              (try dsimp only at hSw)
                              go_simp
                              all_goals (with_reducible rfl)
                            (try simp only [Act.put, List.setIfInBounds_toArray, List.set_cons_zero, List.set_cons_succ])
                            refine wpAnyH_take (i := 9) (oi := { dst := some 166, op := Op.move (Operand.tmp 165), type := 4, pos := "law.go:314", after := #[{ on := 8, ground := Ground.data }], guard := none }) (v := ?_) rfl (by kernel_rfl) (by kernel_rfl) (by kernel_rfl) (fun _ _ _ h => h) (Or.inl ⟨by kernel_rfl, ?_⟩) (by assumption) ?_
                            rotate_left
                            · intro w hSw
                              (try dsimp only at hSw)
                              go_simp
                              all_goals (with_reducible rfl)
                            (try simp only [Act.put, List.setIfInBounds_toArray, List.set_cons_zero, List.set_cons_succ])
                            refine wpAnyH_take (i := 10) (oi := { dst := some 167, op := Op.move (Operand.tmp 21), type := 22, pos := "law.go:314", after := #[{ on := 9, ground := Ground.guard }], guard := some (9, true) }) (v := ?_) rfl (by kernel_rfl) (by kernel_rfl) (by kernel_rfl) (fun _ _ _ h => h) (Or.inl ⟨by kernel_rfl, ?_⟩) (by assumption) ?_
                            rotate_left
                            · intro w hSw
                              (try dsimp only at hSw)
                              go_simp
                              all_goals (with_reducible rfl)
                            (try simp only [Act.put, List.setIfInBounds_toArray, List.set_cons_zero, List.set_cons_succ])
                            refine wpAnyH_take (i := 11) (oi := { dst := some 168, op := Op.move (Operand.tmp 23), type := 3, pos := "law.go:314", after := #[{ on := 9, ground := Ground.guard }], guard := some (9, true) }) (v := ?_) rfl (by kernel_rfl) (by kernel_rfl) (by kernel_rfl) (fun _ _ _ h => h) (Or.inl ⟨by kernel_rfl, ?_⟩) (by assumption) ?_
                            rotate_left
                            · intro w hSw
                              (try dsimp only at hSw)
                              go_simp
                              all_goals (with_reducible rfl)
                            (try simp only [Act.put, List.setIfInBounds_toArray, List.set_cons_zero, List.set_cons_succ])
                            refine wpAnyH_take (i := 12) (oi := { dst := some 169, op := Op.indexAddr 22 (Operand.tmp 167) (Operand.tmp 168), type := 0, pos := "law.go:314", after := #[{ on := 10, ground := Ground.data }, { on := 11, ground := Ground.data }, { on := 9, ground := Ground.guard }], guard := some (9, true) }) (v := ?_) rfl (by kernel_rfl) (by kernel_rfl) (by kernel_rfl) (fun _ _ _ h => h) (Or.inl ⟨by kernel_rfl, ?_⟩) (by assumption) ?_
                            rotate_left
                            · intro w hSw
                              (try dsimp only at hSw)
                              go_simp
                              all_goals (with_reducible rfl)
                            (try simp only [Act.put, List.setIfInBounds_toArray, List.set_cons_zero, List.set_cons_succ])
                            refine wpAnyH_take (i := 13) (oi := { dst := some 170, op := Op.load 9 (Operand.tmp 169), type := 9, pos := "law.go:314", after := #[{ on := 12, ground := Ground.data }, { on := 9, ground := Ground.guard }], guard := some (9, true) }) (v := ?_) rfl (by kernel_rfl) (by kernel_rfl) (by kernel_rfl) (fun _ _ _ h => h) (Or.inl ⟨by kernel_rfl, ?_⟩) (by assumption) ?_
                            rotate_left
                            · intro w hSw
                              (try dsimp only at hSw)
                              go_simp
                              all_goals (with_reducible rfl)
                            (try simp only [Act.put, List.setIfInBounds_toArray, List.set_cons_zero, List.set_cons_succ])
                            refine wpAnyH_take (i := 15) (oi := { dst := some 172, op := Op.move (Operand.tmp 22), type := 22, pos := "law.go:314", after := #[{ on := 9, ground := Ground.guard }], guard := some (9, true) }) (v := ?_) rfl (by kernel_rfl) (by kernel_rfl) (by kernel_rfl) (fun _ _ _ h => h) (Or.inl ⟨by kernel_rfl, ?_⟩) (by assumption) ?_
                            rotate_left
                            · intro w hSw
                              (try dsimp only at hSw)
                              go_simp
                              all_goals (with_reducible rfl)
                            (try simp only [Act.put, List.setIfInBounds_toArray, List.set_cons_zero, List.set_cons_succ])
                            refine wpAnyH_take (i := 16) (oi := { dst := some 173, op := Op.move (Operand.tmp 23), type := 3, pos := "law.go:314", after := #[{ on := 9, ground := Ground.guard }], guard := some (9, true) }) (v := ?_) rfl (by kernel_rfl) (by kernel_rfl) (by kernel_rfl) (fun _ _ _ h => h) (Or.inl ⟨by kernel_rfl, ?_⟩) (by assumption) ?_
                            rotate_left
                            · intro w hSw
                              (try dsimp only at hSw)
                              go_simp
                              all_goals (with_reducible rfl)
                            (try simp only [Act.put, List.setIfInBounds_toArray, List.set_cons_zero, List.set_cons_succ])
                            refine wpAnyH_take (i := 17) (oi := { dst := some 174, op := Op.indexAddr 22 (Operand.tmp 172) (Operand.tmp 173), type := 0, pos := "law.go:314", after := #[{ on := 15, ground := Ground.data }, { on := 16, ground := Ground.data }, { on := 9, ground := Ground.guard }], guard := some (9, true) }) (v := ?_) rfl (by kernel_rfl) (by kernel_rfl) (by kernel_rfl) (fun _ _ _ h => h) (Or.inl ⟨by kernel_rfl, ?_⟩) (by assumption) ?_
                            rotate_left
                            · intro w hSw
                              (try dsimp only at hSw)
                              go_simp
                              all_goals (with_reducible rfl)
                            (try simp only [Act.put, List.setIfInBounds_toArray, List.set_cons_zero, List.set_cons_succ])
                            refine wpAnyH_take (i := 18) (oi := { dst := some 175, op := Op.load 9 (Operand.tmp 174), type := 9, pos := "law.go:314", after := #[{ on := 17, ground := Ground.data }, { on := 9, ground := Ground.guard }], guard := some (9, true) }) (v := ?_) rfl (by kernel_rfl) (by kernel_rfl) (by kernel_rfl) (fun _ _ _ h => h) (Or.inl ⟨by kernel_rfl, ?_⟩) (by assumption) ?_
                            rotate_left
                            · intro w hSw
                              (try dsimp only at hSw)
                              go_simp
                              all_goals (with_reducible rfl)
                            (try simp only [Act.put, List.setIfInBounds_toArray, List.set_cons_zero, List.set_cons_succ])
                            refine wpAnyH_one1 (i := 14) (o := { dst := some 171, op := Op.call { callee := Callee.value (Operand.func 28), args := #[Operand.tmp 170], argTypes := #[9] }, type := 9, pos := "law.go:314", after := #[{ on := 13, ground := Ground.data }, { on := 9, ground := Ground.chain }, { on := 9, ground := Ground.guard }], guard := some (9, true) }) (by kernel_rfl) rfl (fun K hK => ?_)
                            go_simp
                            go_at_call 28
                            refine (sum28 sa _ HSZS.out.1).mono ?_
                            rintro e wS ⟨rfl, hb9⟩
                            refine hK.out _ _ ?_ (fun hHeld2 => ?_)
                            · exact ⟨hHeld.1.trans (hb9.mono hHeld.1.size), (hb9.cell (p := ⟨b1, o1 + i, none⟩) (Nat.lt_of_lt_of_le HLT.out.1 hHeld.1.size)).trans hHeld.2.1, (hb9.cell (p := ⟨b2, o2 + i, none⟩) (Nat.lt_of_lt_of_le HLT.out.2 hHeld.1.size)).trans hHeld.2.2⟩
                            clear hHeld
                            have hHeld := hHeld2
                            clear hHeld2
                            clear hK K
                            (try simp only [Act.put, List.setIfInBounds_toArray, List.set_cons_zero, List.set_cons_succ])
                            refine wpAnyH_one1 (i := 19) (o := { dst := some 176, op := Op.call { callee := Callee.value (Operand.func 28), args := #[Operand.tmp 175], argTypes := #[9] }, type := 9, pos := "law.go:314", after := #[{ on := 18, ground := Ground.data }, { on := 14, ground := Ground.chain }, { on := 9, ground := Ground.guard }], guard := some (9, true) }) (by kernel_rfl) rfl (fun K hK => ?_)
                            go_simp
                            go_at_call 28
                            refine (sum28 sb _ HSZS.out.2).mono ?_
                            rintro e wS2 ⟨rfl, hb9⟩
                            refine hK.out _ _ ?_ (fun hHeld2 => ?_)
                            · exact ⟨hHeld.1.trans (hb9.mono hHeld.1.size), (hb9.cell (p := ⟨b1, o1 + i, none⟩) (Nat.lt_of_lt_of_le HLT.out.1 hHeld.1.size)).trans hHeld.2.1, (hb9.cell (p := ⟨b2, o2 + i, none⟩) (Nat.lt_of_lt_of_le HLT.out.2 hHeld.1.size)).trans hHeld.2.2⟩
                            clear hHeld
                            have hHeld := hHeld2
                            clear hHeld2
                            clear hK K
                            (try simp only [Act.put, List.setIfInBounds_toArray, List.set_cons_zero, List.set_cons_succ])
                            refine wpAnyH_take (i := 20) (oi := { dst := some 177, op := Op.binOp BinOp.eql 9 (Operand.tmp 171) (Operand.tmp 176) 9, type := 4, pos := "law.go:314", after := #[{ on := 14, ground := Ground.data }, { on := 19, ground := Ground.data }, { on := 9, ground := Ground.guard }], guard := some (9, true) }) (v := ?_) rfl (by kernel_rfl) (by kernel_rfl) (by kernel_rfl) (fun _ _ _ h => h) (Or.inl ⟨by kernel_rfl, ?_⟩) (by assumption) ?_
                            rotate_left
                            · intro w hSw
                              (try dsimp only at hSw)
                              go_simp
                              all_goals (with_reducible rfl)
                            (try simp only [Act.put, List.setIfInBounds_toArray, List.set_cons_zero, List.set_cons_succ])
                            refine wpAnyH_take (i := 21) (oi := { dst := some 178, op := Op.pick (Operand.tmp 166) (Operand.tmp 177) (Operand.const (Value.bool false)), type := 4, pos := "law.go:314", after := #[{ on := 9, ground := Ground.data }, { on := 20, ground := Ground.data }], guard := none }) (v := ?_) rfl (by kernel_rfl) (by kernel_rfl) (by kernel_rfl) (fun _ _ _ h => h) (Or.inl ⟨by kernel_rfl, ?_⟩) (by assumption) ?_
                            rotate_left
                            · intro w hSw
                              (try dsimp only at hSw)
                              go_simp
                              all_goals (with_reducible rfl)
                            (try simp only [Act.put, List.setIfInBounds_toArray, List.set_cons_zero, List.set_cons_succ])
                            refine wpAnyH_done (by kernel_rfl) ?_ _
                            refine NoPanic.normal ?_
                            have hbD := Lib.hid hHeld.1
                            clear hHeld
                            have hfin := HB1.out.trans ((HRW.out.2.trans (hbD.out.mono sri)).mono HB1.out.size)
                            clear hbD
                            go_wp2
                            go_ret
                            exact ⟨rfl, hfin⟩
                          | false =>
                            have hne0 : i ≠ i0 := fun e => by
                              subst e
                              have e1 := Option.some.inj (HEI.out.1.symm.trans HQ.out.1)
                              have e2 := Option.some.inj (HEI.out.2.symm.trans HQ.out.2.1)
                              have := HQ.out.2.2.2
                              rw [← e1, ← e2] at this
                              rw [this] at hsum
                              simp at hsum
                            go_upto_region 36 with (fail)
                            refine wp_region_noPanic ?_
                            refine wp_region_held_drew (S := (fun w' => Below wr.heap.size wr w' ∧ w'.cell? ⟨b1, o1 + i, none⟩ = some (.string sa) ∧ w'.cell? ⟨b2, o2 + i, none⟩ = some (.string sb))) (by kernel_rfl) ⟨(Below.refl _ _).drew, HC12.out.1, HC12.out.2⟩ (fun hHeld => ?_)
                            refine wpAnyH_take (i := 0) (oi := { dst := some 157, op := Op.move (Operand.tmp 21), type := 22, pos := "law.go:314", after := #[], guard := none }) (v := ?_) rfl (by kernel_rfl) (by kernel_rfl) (by kernel_rfl) (fun _ _ _ h => h) (Or.inl ⟨by kernel_rfl, ?_⟩) (by assumption) ?_
                            rotate_left
                            · intro w hSw
                              (try dsimp only at hSw)
                              go_simp
                              all_goals (with_reducible rfl)
                            (try simp only [Act.put, List.setIfInBounds_toArray, List.set_cons_zero, List.set_cons_succ])
                            refine wpAnyH_take (i := 1) (oi := { dst := some 158, op := Op.move (Operand.tmp 23), type := 3, pos := "law.go:314", after := #[], guard := none }) (v := ?_) rfl (by kernel_rfl) (by kernel_rfl) (by kernel_rfl) (fun _ _ _ h => h) (Or.inl ⟨by kernel_rfl, ?_⟩) (by assumption) ?_
                            rotate_left
                            · intro w hSw
                              (try dsimp only at hSw)
                              go_simp
                              all_goals (with_reducible rfl)
                            (try simp only [Act.put, List.setIfInBounds_toArray, List.set_cons_zero, List.set_cons_succ])
                            refine wpAnyH_take (i := 2) (oi := { dst := some 159, op := Op.indexAddr 22 (Operand.tmp 157) (Operand.tmp 158), type := 0, pos := "law.go:314", after := #[{ on := 0, ground := Ground.data }, { on := 1, ground := Ground.data }], guard := none }) (v := ?_) rfl (by kernel_rfl) (by kernel_rfl) (by kernel_rfl) (fun _ _ _ h => h) (Or.inl ⟨by kernel_rfl, ?_⟩) (by assumption) ?_
                            rotate_left
                            · intro w hSw
                              (try dsimp only at hSw)
                              go_simp
                              all_goals (with_reducible rfl)
                            (try simp only [Act.put, List.setIfInBounds_toArray, List.set_cons_zero, List.set_cons_succ])
                            refine wpAnyH_take (i := 3) (oi := { dst := some 160, op := Op.load 9 (Operand.tmp 159), type := 9, pos := "law.go:314", after := #[{ on := 2, ground := Ground.data }], guard := none }) (v := ?_) rfl (by kernel_rfl) (by kernel_rfl) (by kernel_rfl) (fun _ _ _ h => h) (Or.inl ⟨by kernel_rfl, ?_⟩) (by assumption) ?_
                            rotate_left
                            · intro w hSw
                              (try dsimp only at hSw)
                              go_simp
                              all_goals (with_reducible rfl)
                            (try simp only [Act.put, List.setIfInBounds_toArray, List.set_cons_zero, List.set_cons_succ])
                            refine wpAnyH_take (i := 4) (oi := { dst := some 161, op := Op.move (Operand.tmp 22), type := 22, pos := "law.go:314", after := #[], guard := none }) (v := ?_) rfl (by kernel_rfl) (by kernel_rfl) (by kernel_rfl) (fun _ _ _ h => h) (Or.inl ⟨by kernel_rfl, ?_⟩) (by assumption) ?_
                            rotate_left
                            · intro w hSw
                              (try dsimp only at hSw)
                              go_simp
                              all_goals (with_reducible rfl)
                            (try simp only [Act.put, List.setIfInBounds_toArray, List.set_cons_zero, List.set_cons_succ])
                            refine wpAnyH_take (i := 5) (oi := { dst := some 162, op := Op.move (Operand.tmp 23), type := 3, pos := "law.go:314", after := #[], guard := none }) (v := ?_) rfl (by kernel_rfl) (by kernel_rfl) (by kernel_rfl) (fun _ _ _ h => h) (Or.inl ⟨by kernel_rfl, ?_⟩) (by assumption) ?_
                            rotate_left
                            · intro w hSw
                              (try dsimp only at hSw)
                              go_simp
                              all_goals (with_reducible rfl)
                            (try simp only [Act.put, List.setIfInBounds_toArray, List.set_cons_zero, List.set_cons_succ])
                            refine wpAnyH_take (i := 6) (oi := { dst := some 163, op := Op.indexAddr 22 (Operand.tmp 161) (Operand.tmp 162), type := 0, pos := "law.go:314", after := #[{ on := 4, ground := Ground.data }, { on := 5, ground := Ground.data }], guard := none }) (v := ?_) rfl (by kernel_rfl) (by kernel_rfl) (by kernel_rfl) (fun _ _ _ h => h) (Or.inl ⟨by kernel_rfl, ?_⟩) (by assumption) ?_
                            rotate_left
                            · intro w hSw
                              (try dsimp only at hSw)
                              go_simp
                              all_goals (with_reducible rfl)
                            (try simp only [Act.put, List.setIfInBounds_toArray, List.set_cons_zero, List.set_cons_succ])
                            refine wpAnyH_take (i := 7) (oi := { dst := some 164, op := Op.load 9 (Operand.tmp 163), type := 9, pos := "law.go:314", after := #[{ on := 6, ground := Ground.data }], guard := none }) (v := ?_) rfl (by kernel_rfl) (by kernel_rfl) (by kernel_rfl) (fun _ _ _ h => h) (Or.inl ⟨by kernel_rfl, ?_⟩) (by assumption) ?_
                            rotate_left
                            · intro w hSw
                              (try dsimp only at hSw)
                              go_simp
                              all_goals (with_reducible rfl)
                            (try simp only [Act.put, List.setIfInBounds_toArray, List.set_cons_zero, List.set_cons_succ])
                            refine wpAnyH_take (i := 8) (oi := { dst := some 165, op := Op.binOp BinOp.neq 9 (Operand.tmp 160) (Operand.tmp 164) 9, type := 4, pos := "law.go:314", after := #[{ on := 3, ground := Ground.data }, { on := 7, ground := Ground.data }], guard := none }) (v := ?_) rfl (by kernel_rfl) (by kernel_rfl) (by kernel_rfl) (fun _ _ _ h => h) (Or.inl ⟨by kernel_rfl, ?_⟩) (by assumption) ?_
                            rotate_left
                            · intro w hSw
                              (try dsimp only at hSw)
                              go_simp
                              all_goals (with_reducible rfl)
                            (try simp only [Act.put, List.setIfInBounds_toArray, List.set_cons_zero, List.set_cons_succ])
                            refine wpAnyH_take (i := 9) (oi := { dst := some 166, op := Op.move (Operand.tmp 165), type := 4, pos := "law.go:314", after := #[{ on := 8, ground := Ground.data }], guard := none }) (v := ?_) rfl (by kernel_rfl) (by kernel_rfl) (by kernel_rfl) (fun _ _ _ h => h) (Or.inl ⟨by kernel_rfl, ?_⟩) (by assumption) ?_
                            rotate_left
                            · intro w hSw
                              (try dsimp only at hSw)
                              go_simp
                              all_goals (with_reducible rfl)
                            (try simp only [Act.put, List.setIfInBounds_toArray, List.set_cons_zero, List.set_cons_succ])
                            refine wpAnyH_take (i := 10) (oi := { dst := some 167, op := Op.move (Operand.tmp 21), type := 22, pos := "law.go:314", after := #[{ on := 9, ground := Ground.guard }], guard := some (9, true) }) (v := ?_) rfl (by kernel_rfl) (by kernel_rfl) (by kernel_rfl) (fun _ _ _ h => h) (Or.inl ⟨by kernel_rfl, ?_⟩) (by assumption) ?_
                            rotate_left
                            · intro w hSw
                              (try dsimp only at hSw)
                              go_simp
                              all_goals (with_reducible rfl)
                            (try simp only [Act.put, List.setIfInBounds_toArray, List.set_cons_zero, List.set_cons_succ])
                            refine wpAnyH_take (i := 11) (oi := { dst := some 168, op := Op.move (Operand.tmp 23), type := 3, pos := "law.go:314", after := #[{ on := 9, ground := Ground.guard }], guard := some (9, true) }) (v := ?_) rfl (by kernel_rfl) (by kernel_rfl) (by kernel_rfl) (fun _ _ _ h => h) (Or.inl ⟨by kernel_rfl, ?_⟩) (by assumption) ?_
                            rotate_left
                            · intro w hSw
                              (try dsimp only at hSw)
                              go_simp
                              all_goals (with_reducible rfl)
                            (try simp only [Act.put, List.setIfInBounds_toArray, List.set_cons_zero, List.set_cons_succ])
                            refine wpAnyH_take (i := 12) (oi := { dst := some 169, op := Op.indexAddr 22 (Operand.tmp 167) (Operand.tmp 168), type := 0, pos := "law.go:314", after := #[{ on := 10, ground := Ground.data }, { on := 11, ground := Ground.data }, { on := 9, ground := Ground.guard }], guard := some (9, true) }) (v := ?_) rfl (by kernel_rfl) (by kernel_rfl) (by kernel_rfl) (fun _ _ _ h => h) (Or.inl ⟨by kernel_rfl, ?_⟩) (by assumption) ?_
                            rotate_left
                            · intro w hSw
                              (try dsimp only at hSw)
                              go_simp
                              all_goals (with_reducible rfl)
                            (try simp only [Act.put, List.setIfInBounds_toArray, List.set_cons_zero, List.set_cons_succ])
                            refine wpAnyH_take (i := 13) (oi := { dst := some 170, op := Op.load 9 (Operand.tmp 169), type := 9, pos := "law.go:314", after := #[{ on := 12, ground := Ground.data }, { on := 9, ground := Ground.guard }], guard := some (9, true) }) (v := ?_) rfl (by kernel_rfl) (by kernel_rfl) (by kernel_rfl) (fun _ _ _ h => h) (Or.inl ⟨by kernel_rfl, ?_⟩) (by assumption) ?_
                            rotate_left
                            · intro w hSw
                              (try dsimp only at hSw)
                              go_simp
                              all_goals (with_reducible rfl)
                            (try simp only [Act.put, List.setIfInBounds_toArray, List.set_cons_zero, List.set_cons_succ])
                            refine wpAnyH_take (i := 15) (oi := { dst := some 172, op := Op.move (Operand.tmp 22), type := 22, pos := "law.go:314", after := #[{ on := 9, ground := Ground.guard }], guard := some (9, true) }) (v := ?_) rfl (by kernel_rfl) (by kernel_rfl) (by kernel_rfl) (fun _ _ _ h => h) (Or.inl ⟨by kernel_rfl, ?_⟩) (by assumption) ?_
                            rotate_left
                            · intro w hSw
                              (try dsimp only at hSw)
                              go_simp
                              all_goals (with_reducible rfl)
                            (try simp only [Act.put, List.setIfInBounds_toArray, List.set_cons_zero, List.set_cons_succ])
                            refine wpAnyH_take (i := 16) (oi := { dst := some 173, op := Op.move (Operand.tmp 23), type := 3, pos := "law.go:314", after := #[{ on := 9, ground := Ground.guard }], guard := some (9, true) }) (v := ?_) rfl (by kernel_rfl) (by kernel_rfl) (by kernel_rfl) (fun _ _ _ h => h) (Or.inl ⟨by kernel_rfl, ?_⟩) (by assumption) ?_
                            rotate_left
                            · intro w hSw
                              (try dsimp only at hSw)
                              go_simp
                              all_goals (with_reducible rfl)
                            (try simp only [Act.put, List.setIfInBounds_toArray, List.set_cons_zero, List.set_cons_succ])
                            refine wpAnyH_take (i := 17) (oi := { dst := some 174, op := Op.indexAddr 22 (Operand.tmp 172) (Operand.tmp 173), type := 0, pos := "law.go:314", after := #[{ on := 15, ground := Ground.data }, { on := 16, ground := Ground.data }, { on := 9, ground := Ground.guard }], guard := some (9, true) }) (v := ?_) rfl (by kernel_rfl) (by kernel_rfl) (by kernel_rfl) (fun _ _ _ h => h) (Or.inl ⟨by kernel_rfl, ?_⟩) (by assumption) ?_
                            rotate_left
                            · intro w hSw
                              (try dsimp only at hSw)
                              go_simp
                              all_goals (with_reducible rfl)
                            (try simp only [Act.put, List.setIfInBounds_toArray, List.set_cons_zero, List.set_cons_succ])
                            refine wpAnyH_take (i := 18) (oi := { dst := some 175, op := Op.load 9 (Operand.tmp 174), type := 9, pos := "law.go:314", after := #[{ on := 17, ground := Ground.data }, { on := 9, ground := Ground.guard }], guard := some (9, true) }) (v := ?_) rfl (by kernel_rfl) (by kernel_rfl) (by kernel_rfl) (fun _ _ _ h => h) (Or.inl ⟨by kernel_rfl, ?_⟩) (by assumption) ?_
                            rotate_left
                            · intro w hSw
                              (try dsimp only at hSw)
                              go_simp
                              all_goals (with_reducible rfl)
                            (try simp only [Act.put, List.setIfInBounds_toArray, List.set_cons_zero, List.set_cons_succ])
                            refine wpAnyH_one1 (i := 14) (o := { dst := some 171, op := Op.call { callee := Callee.value (Operand.func 28), args := #[Operand.tmp 170], argTypes := #[9] }, type := 9, pos := "law.go:314", after := #[{ on := 13, ground := Ground.data }, { on := 9, ground := Ground.chain }, { on := 9, ground := Ground.guard }], guard := some (9, true) }) (by kernel_rfl) rfl (fun K hK => ?_)
                            go_simp
                            go_at_call 28
                            refine (sum28 sa _ HSZS.out.1).mono ?_
                            rintro e wS ⟨rfl, hb9⟩
                            refine hK.out _ _ ?_ (fun hHeld2 => ?_)
                            · exact ⟨hHeld.1.trans (hb9.mono hHeld.1.size), (hb9.cell (p := ⟨b1, o1 + i, none⟩) (Nat.lt_of_lt_of_le HLT.out.1 hHeld.1.size)).trans hHeld.2.1, (hb9.cell (p := ⟨b2, o2 + i, none⟩) (Nat.lt_of_lt_of_le HLT.out.2 hHeld.1.size)).trans hHeld.2.2⟩
                            clear hHeld
                            have hHeld := hHeld2
                            clear hHeld2
                            clear hK K
                            (try simp only [Act.put, List.setIfInBounds_toArray, List.set_cons_zero, List.set_cons_succ])
                            refine wpAnyH_one1 (i := 19) (o := { dst := some 176, op := Op.call { callee := Callee.value (Operand.func 28), args := #[Operand.tmp 175], argTypes := #[9] }, type := 9, pos := "law.go:314", after := #[{ on := 18, ground := Ground.data }, { on := 14, ground := Ground.chain }, { on := 9, ground := Ground.guard }], guard := some (9, true) }) (by kernel_rfl) rfl (fun K hK => ?_)
                            go_simp
                            go_at_call 28
                            refine (sum28 sb _ HSZS.out.2).mono ?_
                            rintro e wS2 ⟨rfl, hb9⟩
                            refine hK.out _ _ ?_ (fun hHeld2 => ?_)
                            · exact ⟨hHeld.1.trans (hb9.mono hHeld.1.size), (hb9.cell (p := ⟨b1, o1 + i, none⟩) (Nat.lt_of_lt_of_le HLT.out.1 hHeld.1.size)).trans hHeld.2.1, (hb9.cell (p := ⟨b2, o2 + i, none⟩) (Nat.lt_of_lt_of_le HLT.out.2 hHeld.1.size)).trans hHeld.2.2⟩
                            clear hHeld
                            have hHeld := hHeld2
                            clear hHeld2
                            clear hK K
                            (try simp only [Act.put, List.setIfInBounds_toArray, List.set_cons_zero, List.set_cons_succ])
                            refine wpAnyH_take (i := 20) (oi := { dst := some 177, op := Op.binOp BinOp.eql 9 (Operand.tmp 171) (Operand.tmp 176) 9, type := 4, pos := "law.go:314", after := #[{ on := 14, ground := Ground.data }, { on := 19, ground := Ground.data }, { on := 9, ground := Ground.guard }], guard := some (9, true) }) (v := ?_) rfl (by kernel_rfl) (by kernel_rfl) (by kernel_rfl) (fun _ _ _ h => h) (Or.inl ⟨by kernel_rfl, ?_⟩) (by assumption) ?_
                            rotate_left
                            · intro w hSw
                              (try dsimp only at hSw)
                              go_simp
                              all_goals (with_reducible rfl)
                            (try simp only [Act.put, List.setIfInBounds_toArray, List.set_cons_zero, List.set_cons_succ])
                            refine wpAnyH_take (i := 21) (oi := { dst := some 178, op := Op.pick (Operand.tmp 166) (Operand.tmp 177) (Operand.const (Value.bool false)), type := 4, pos := "law.go:314", after := #[{ on := 9, ground := Ground.data }, { on := 20, ground := Ground.data }], guard := none }) (v := ?_) rfl (by kernel_rfl) (by kernel_rfl) (by kernel_rfl) (fun _ _ _ h => h) (Or.inl ⟨by kernel_rfl, ?_⟩) (by assumption) ?_
                            rotate_left
                            · intro w hSw
                              (try dsimp only at hSw)
                              go_simp
                              all_goals (with_reducible rfl)
                            (try simp only [Act.put, List.setIfInBounds_toArray, List.set_cons_zero, List.set_cons_succ])
                            refine wpAnyH_done (by kernel_rfl) ?_ _
                            refine NoPanic.normal ?_
                            have hbD := Lib.hid hHeld.1
                            clear hHeld
                            have HN := Lib.hid (And.intro (HRW.out.1.below hbD.out) (HRW.out.2.trans (hbD.out.mono sri)))
                            clear hbD
                            go_wp2
                            go_roundw
                            case rel => exact ⟨i + 1, by omega, by go_num, HN.out.1, HN.out.2⟩
                            case measure => simp [intOf]; omega
                  · have HCOL := Lib.hid (show Collide z32 L M from HCH.out.elim (fun h => absurd h.2.1 f2) id)
                    have hdf2 : decide (M.length < L.length) = false := decide_eq_false f2
                    have HRV := HRM
                    clear HRM hfin
                    have hCo : Collide z32 L M := HCOL.out
                    obtain ⟨i0, qa, qb, hqa, hqb, hqab, hqs⟩ := hCo
                    have hia : i0 < (headsL z32 L).length := by
                      refine Classical.byContradiction fun h => ?_
                      rw [List.getElem?_eq_none (by omega)] at hqa; cases hqa
                    have hib : i0 < (headsL z32 M).length := by
                      refine Classical.byContradiction fun h => ?_
                      rw [List.getElem?_eq_none (by omega)] at hqb; cases hqb
                    have HQ := Lib.hid (And.intro hqa (And.intro hqb (And.intro hqab hqs)))
                    have hal := headsL_len L z32
                    have hbl := headsL_len M z32
                    clear hqa hqb hqab hqs
                    go_wp2_with fail
                    refine (heads27 _ L wM (HRV.out.1.strs (p := (.slice a4 L.length c4, L)) (by simp)) HGD.out.full.1 (by omega)).mono ?_
                    rintro e wa ⟨va, rfl, hoa, ba⟩
                    have ra := (HRV.out.1.below ba).cons hoa
                    have Ba := HRV.out.2.trans (ba.mono HRV.out.2.size)
                    clear ba hoa
                    go_wp2_with fail
                    refine (heads27 _ M wa (ra.strs (p := (.slice aM M.length cM, M)) (by simp)) HMS.out (by omega)).mono ?_
                    rintro e wb ⟨vb, rfl, hob, bb⟩
                    have rb := ((ra.below bb).cons hob).sub (ts := [(va, headsL z32 L), (vb, headsL z32 M)]) (by simp)
                    have Bb := Ba.trans (bb.mono Ba.size)
                    clear bb hob ra Ba
                    obtain ⟨aa, ca, rfl, hca1, hca2⟩ : ∃ a c, va = .slice a (headsL z32 L).length c ∧ (headsL z32 L).length ≤ c ∧ c ≤ maxLen := strs_len (rb.strs (p := (va, headsL z32 L)) (by simp))
                    obtain ⟨ab, cbb, rfl, hcb1, hcb2⟩ : ∃ a c, vb = .slice a (headsL z32 M).length c ∧ (headsL z32 M).length ≤ c ∧ c ≤ maxLen := strs_len (rb.strs (p := (vb, headsL z32 M)) (by simp))
                    unfold maxLen at hca2 hcb2
                    have HSA := Lib.hid (fun t ht => heads_mem (t := t) L z32 rfl HGD.out.full.1 ht)
                    have HSB := Lib.hid (fun t ht => heads_mem (t := t) M z32 rfl HMS.out ht)
                    have hla1 : (headsL z32 L).length ≤ 10000 := by omega
                    have hlb1 : (headsL z32 M).length ≤ 10000 := by omega
                    clear hal hbl
                    generalize headsL z32 L = ha at *
                    generalize headsL z32 M = hb at *
                    have Hst := Lib.hid (And.intro rb Bb)
                    clear rb Bb
                    go_wp2
                    go_loopw [23] (fun u23 wr => ∃ i : Nat, i ≤ i0 ∧ u23 = .int .i64 (i : Int) ∧ RowsAt wr [(.slice aa ha.length ca, ha), (.slice ab hb.length cbb, hb)] ∧ Below w1.heap.size w1 wr) (fun u23 _ => (i0 + 1 - intOf u23).toNat)
                    case atStart => exact ⟨0, by omega, rfl, Hst.out.1, Hst.out.2⟩
                    case round =>
                      obtain ⟨i, hi, rfl, hrw, hBi⟩ := hrel
                      rename World => wr
                      have sri := hBi.size
                      have i1 : i < ha.length := by omega
                      have i2 : i < hb.length := by omega
                      have i3 : (0 : Int) ≤ (i : Int) ∧ (i : Int) < (ha.length : Int) := by omega
                      have i4 : (0 : Int) ≤ (i : Int) ∧ (i : Int) < (hb.length : Int) := by omega
                      have dd1 : decide (i < ha.length) = true := decide_eq_true i1
                      have dd2 : decide (i < hb.length) = true := decide_eq_true i2
                      obtain ⟨b1, o1, rfl, c1⟩ := strs_get (hrw.strs (p := (.slice aa ha.length ca, ha)) (by simp)) i1
                      obtain ⟨b2, o2, rfl, c2⟩ := strs_get (hrw.strs (p := (.slice ab hb.length cbb, hb)) (by simp)) i2
                      have HSZS := Lib.hid (And.intro (HSA.out _ (List.getElem_mem i1)) (HSB.out _ (List.getElem_mem i2)))
                      have HEI := Lib.hid (And.intro (List.getElem?_eq_getElem i1) (List.getElem?_eq_getElem i2))
                      generalize ha[i] = sa at c1 HSZS HEI
                      generalize hb[i] = sb at c2 HSZS HEI
                      have HC12 := Lib.hid (And.intro (show wr.drew.cell? ⟨b1, o1 + i, none⟩ = some (.string sa) from c1) (show wr.drew.cell? ⟨b2, o2 + i, none⟩ = some (.string sb) from c2))
                      have HLT := Lib.hid (And.intro (World.block_lt_of_cell? _ _ c1) (World.block_lt_of_cell? _ _ c2))
                      have HRW := Lib.hid (And.intro hrw hBi)
                      clear c1 c2 hrw hBi
                      by_cases hsab : sa = sb
                      · have hne0 : i ≠ i0 := fun e => by
                          subst e
                          have e1 := HEI.out.1.symm.trans HQ.out.1
                          have e2 := HEI.out.2.symm.trans HQ.out.2.1
                          exact HQ.out.2.2.1 ((Option.some.inj e1).symm.trans (hsab.trans (Option.some.inj e2)))
                        subst hsab
                        go_upto_region 36 with (fail)
                        refine wp_region_noPanic ?_
                        refine wp_region_held_drew (S := (fun w' => Below wr.heap.size wr w' ∧ w'.cell? ⟨b1, o1 + i, none⟩ = some (.string sa) ∧ w'.cell? ⟨b2, o2 + i, none⟩ = some (.string sa))) (by kernel_rfl) ⟨(Below.refl _ _).drew, HC12.out.1, HC12.out.2⟩ (fun hHeld => ?_)
                        refine wpAnyH_take (i := 0) (oi := { dst := some 157, op := Op.move (Operand.tmp 21), type := 22, pos := "law.go:314", after := #[], guard := none }) (v := ?_) rfl (by kernel_rfl) (by kernel_rfl) (by kernel_rfl) (fun _ _ _ h => h) (Or.inl ⟨by kernel_rfl, ?_⟩) (by assumption) ?_
                        rotate_left
                        · intro w hSw
                          (try dsimp only at hSw)
                          go_simp
                          all_goals (with_reducible rfl)
                        (try simp only [Act.put, List.setIfInBounds_toArray, List.set_cons_zero, List.set_cons_succ])
                        refine wpAnyH_take (i := 1) (oi := { dst := some 158, op := Op.move (Operand.tmp 23), type := 3, pos := "law.go:314", after := #[], guard := none }) (v := ?_) rfl (by kernel_rfl) (by kernel_rfl) (by kernel_rfl) (fun _ _ _ h => h) (Or.inl ⟨by kernel_rfl, ?_⟩) (by assumption) ?_
                        rotate_left
                        · intro w hSw
                          (try dsimp only at hSw)
                          go_simp
                          all_goals (with_reducible rfl)
                        (try simp only [Act.put, List.setIfInBounds_toArray, List.set_cons_zero, List.set_cons_succ])
                        refine wpAnyH_take (i := 2) (oi := { dst := some 159, op := Op.indexAddr 22 (Operand.tmp 157) (Operand.tmp 158), type := 0, pos := "law.go:314", after := #[{ on := 0, ground := Ground.data }, { on := 1, ground := Ground.data }], guard := none }) (v := ?_) rfl (by kernel_rfl) (by kernel_rfl) (by kernel_rfl) (fun _ _ _ h => h) (Or.inl ⟨by kernel_rfl, ?_⟩) (by assumption) ?_
                        rotate_left
                        · intro w hSw
                          (try dsimp only at hSw)
                          go_simp
                          all_goals (with_reducible rfl)
                        (try simp only [Act.put, List.setIfInBounds_toArray, List.set_cons_zero, List.set_cons_succ])
                        refine wpAnyH_take (i := 3) (oi := { dst := some 160, op := Op.load 9 (Operand.tmp 159), type := 9, pos := "law.go:314", after := #[{ on := 2, ground := Ground.data }], guard := none }) (v := ?_) rfl (by kernel_rfl) (by kernel_rfl) (by kernel_rfl) (fun _ _ _ h => h) (Or.inl ⟨by kernel_rfl, ?_⟩) (by assumption) ?_
                        rotate_left
                        · intro w hSw
                          (try dsimp only at hSw)
                          go_simp
                          all_goals (with_reducible rfl)
                        (try simp only [Act.put, List.setIfInBounds_toArray, List.set_cons_zero, List.set_cons_succ])
                        refine wpAnyH_take (i := 4) (oi := { dst := some 161, op := Op.move (Operand.tmp 22), type := 22, pos := "law.go:314", after := #[], guard := none }) (v := ?_) rfl (by kernel_rfl) (by kernel_rfl) (by kernel_rfl) (fun _ _ _ h => h) (Or.inl ⟨by kernel_rfl, ?_⟩) (by assumption) ?_
                        rotate_left
                        · intro w hSw
                          (try dsimp only at hSw)
                          go_simp
                          all_goals (with_reducible rfl)
                        (try simp only [Act.put, List.setIfInBounds_toArray, List.set_cons_zero, List.set_cons_succ])
                        refine wpAnyH_take (i := 5) (oi := { dst := some 162, op := Op.move (Operand.tmp 23), type := 3, pos := "law.go:314", after := #[], guard := none }) (v := ?_) rfl (by kernel_rfl) (by kernel_rfl) (by kernel_rfl) (fun _ _ _ h => h) (Or.inl ⟨by kernel_rfl, ?_⟩) (by assumption) ?_
                        rotate_left
                        · intro w hSw
                          (try dsimp only at hSw)
                          go_simp
                          all_goals (with_reducible rfl)
                        (try simp only [Act.put, List.setIfInBounds_toArray, List.set_cons_zero, List.set_cons_succ])
                        refine wpAnyH_take (i := 6) (oi := { dst := some 163, op := Op.indexAddr 22 (Operand.tmp 161) (Operand.tmp 162), type := 0, pos := "law.go:314", after := #[{ on := 4, ground := Ground.data }, { on := 5, ground := Ground.data }], guard := none }) (v := ?_) rfl (by kernel_rfl) (by kernel_rfl) (by kernel_rfl) (fun _ _ _ h => h) (Or.inl ⟨by kernel_rfl, ?_⟩) (by assumption) ?_
                        rotate_left
                        · intro w hSw
                          (try dsimp only at hSw)
                          go_simp
                          all_goals (with_reducible rfl)
                        (try simp only [Act.put, List.setIfInBounds_toArray, List.set_cons_zero, List.set_cons_succ])
                        refine wpAnyH_take (i := 7) (oi := { dst := some 164, op := Op.load 9 (Operand.tmp 163), type := 9, pos := "law.go:314", after := #[{ on := 6, ground := Ground.data }], guard := none }) (v := ?_) rfl (by kernel_rfl) (by kernel_rfl) (by kernel_rfl) (fun _ _ _ h => h) (Or.inl ⟨by kernel_rfl, ?_⟩) (by assumption) ?_
                        rotate_left
                        · intro w hSw
                          (try dsimp only at hSw)
                          go_simp
                          all_goals (with_reducible rfl)
                        (try simp only [Act.put, List.setIfInBounds_toArray, List.set_cons_zero, List.set_cons_succ])
                        refine wpAnyH_take (i := 8) (oi := { dst := some 165, op := Op.binOp BinOp.neq 9 (Operand.tmp 160) (Operand.tmp 164) 9, type := 4, pos := "law.go:314", after := #[{ on := 3, ground := Ground.data }, { on := 7, ground := Ground.data }], guard := none }) (v := ?_) rfl (by kernel_rfl) (by kernel_rfl) (by kernel_rfl) (fun _ _ _ h => h) (Or.inl ⟨by kernel_rfl, ?_⟩) (by assumption) ?_
                        rotate_left
                        · intro w hSw
                          (try dsimp only at hSw)
                          go_simp
                          all_goals (with_reducible rfl)
                        (try simp only [Act.put, List.setIfInBounds_toArray, List.set_cons_zero, List.set_cons_succ])
                        refine wpAnyH_take (i := 9) (oi := { dst := some 166, op := Op.move (Operand.tmp 165), type := 4, pos := "law.go:314", after := #[{ on := 8, ground := Ground.data }], guard := none }) (v := ?_) rfl (by kernel_rfl) (by kernel_rfl) (by kernel_rfl) (fun _ _ _ h => h) (Or.inl ⟨by kernel_rfl, ?_⟩) (by assumption) ?_
                        rotate_left
                        · intro w hSw
                          (try dsimp only at hSw)
                          go_simp
                          all_goals (with_reducible rfl)
                        (try simp only [Act.put, List.setIfInBounds_toArray, List.set_cons_zero, List.set_cons_succ])
                        refine wpAnyH_take (i := 10) (oi := { dst := some 167, op := Op.move (Operand.tmp 21), type := 22, pos := "law.go:314", after := #[{ on := 9, ground := Ground.guard }], guard := some (9, true) }) (v := undef) rfl (by kernel_rfl) (by kernel_rfl) (by kernel_rfl) (fun _ _ _ h => h) (Or.inr ⟨by kernel_rfl, rfl⟩) (by assumption) ?_
                        (try simp only [Act.put, List.setIfInBounds_toArray, List.set_cons_zero, List.set_cons_succ])
                        refine wpAnyH_take (i := 11) (oi := { dst := some 168, op := Op.move (Operand.tmp 23), type := 3, pos := "law.go:314", after := #[{ on := 9, ground := Ground.guard }], guard := some (9, true) }) (v := undef) rfl (by kernel_rfl) (by kernel_rfl) (by kernel_rfl) (fun _ _ _ h => h) (Or.inr ⟨by kernel_rfl, rfl⟩) (by assumption) ?_
                        (try simp only [Act.put, List.setIfInBounds_toArray, List.set_cons_zero, List.set_cons_succ])
                        refine wpAnyH_take (i := 12) (oi := { dst := some 169, op := Op.indexAddr 22 (Operand.tmp 167) (Operand.tmp 168), type := 0, pos := "law.go:314", after := #[{ on := 10, ground := Ground.data }, { on := 11, ground := Ground.data }, { on := 9, ground := Ground.guard }], guard := some (9, true) }) (v := undef) rfl (by kernel_rfl) (by kernel_rfl) (by kernel_rfl) (fun _ _ _ h => h) (Or.inr ⟨by kernel_rfl, rfl⟩) (by assumption) ?_
                        (try simp only [Act.put, List.setIfInBounds_toArray, List.set_cons_zero, List.set_cons_succ])
                        refine wpAnyH_take (i := 13) (oi := { dst := some 170, op := Op.load 9 (Operand.tmp 169), type := 9, pos := "law.go:314", after := #[{ on := 12, ground := Ground.data }, { on := 9, ground := Ground.guard }], guard := some (9, true) }) (v := undef) rfl (by kernel_rfl) (by kernel_rfl) (by kernel_rfl) (fun _ _ _ h => h) (Or.inr ⟨by kernel_rfl, rfl⟩) (by assumption) ?_
                        (try simp only [Act.put, List.setIfInBounds_toArray, List.set_cons_zero, List.set_cons_succ])
                        refine wpAnyH_take (i := 14) (oi := { dst := some 171, op := Op.call { callee := Callee.value (Operand.func 28), args := #[Operand.tmp 170], argTypes := #[9] }, type := 9, pos := "law.go:314", after := #[{ on := 13, ground := Ground.data }, { on := 9, ground := Ground.chain }, { on := 9, ground := Ground.guard }], guard := some (9, true) }) (v := undef) rfl (by kernel_rfl) (by kernel_rfl) (by kernel_rfl) (fun _ _ _ h => h) (Or.inr ⟨by kernel_rfl, rfl⟩) (by assumption) ?_
                        (try simp only [Act.put, List.setIfInBounds_toArray, List.set_cons_zero, List.set_cons_succ])
                        refine wpAnyH_take (i := 15) (oi := { dst := some 172, op := Op.move (Operand.tmp 22), type := 22, pos := "law.go:314", after := #[{ on := 9, ground := Ground.guard }], guard := some (9, true) }) (v := undef) rfl (by kernel_rfl) (by kernel_rfl) (by kernel_rfl) (fun _ _ _ h => h) (Or.inr ⟨by kernel_rfl, rfl⟩) (by assumption) ?_
                        (try simp only [Act.put, List.setIfInBounds_toArray, List.set_cons_zero, List.set_cons_succ])
                        refine wpAnyH_take (i := 16) (oi := { dst := some 173, op := Op.move (Operand.tmp 23), type := 3, pos := "law.go:314", after := #[{ on := 9, ground := Ground.guard }], guard := some (9, true) }) (v := undef) rfl (by kernel_rfl) (by kernel_rfl) (by kernel_rfl) (fun _ _ _ h => h) (Or.inr ⟨by kernel_rfl, rfl⟩) (by assumption) ?_
                        (try simp only [Act.put, List.setIfInBounds_toArray, List.set_cons_zero, List.set_cons_succ])
                        refine wpAnyH_take (i := 17) (oi := { dst := some 174, op := Op.indexAddr 22 (Operand.tmp 172) (Operand.tmp 173), type := 0, pos := "law.go:314", after := #[{ on := 15, ground := Ground.data }, { on := 16, ground := Ground.data }, { on := 9, ground := Ground.guard }], guard := some (9, true) }) (v := undef) rfl (by kernel_rfl) (by kernel_rfl) (by kernel_rfl) (fun _ _ _ h => h) (Or.inr ⟨by kernel_rfl, rfl⟩) (by assumption) ?_
                        (try simp only [Act.put, List.setIfInBounds_toArray, List.set_cons_zero, List.set_cons_succ])
                        refine wpAnyH_take (i := 18) (oi := { dst := some 175, op := Op.load 9 (Operand.tmp 174), type := 9, pos := "law.go:314", after := #[{ on := 17, ground := Ground.data }, { on := 9, ground := Ground.guard }], guard := some (9, true) }) (v := undef) rfl (by kernel_rfl) (by kernel_rfl) (by kernel_rfl) (fun _ _ _ h => h) (Or.inr ⟨by kernel_rfl, rfl⟩) (by assumption) ?_
                        (try simp only [Act.put, List.setIfInBounds_toArray, List.set_cons_zero, List.set_cons_succ])
                        refine wpAnyH_take (i := 19) (oi := { dst := some 176, op := Op.call { callee := Callee.value (Operand.func 28), args := #[Operand.tmp 175], argTypes := #[9] }, type := 9, pos := "law.go:314", after := #[{ on := 18, ground := Ground.data }, { on := 14, ground := Ground.chain }, { on := 9, ground := Ground.guard }], guard := some (9, true) }) (v := undef) rfl (by kernel_rfl) (by kernel_rfl) (by kernel_rfl) (fun _ _ _ h => h) (Or.inr ⟨by kernel_rfl, rfl⟩) (by assumption) ?_
                        (try simp only [Act.put, List.setIfInBounds_toArray, List.set_cons_zero, List.set_cons_succ])
                        refine wpAnyH_take (i := 20) (oi := { dst := some 177, op := Op.binOp BinOp.eql 9 (Operand.tmp 171) (Operand.tmp 176) 9, type := 4, pos := "law.go:314", after := #[{ on := 14, ground := Ground.data }, { on := 19, ground := Ground.data }, { on := 9, ground := Ground.guard }], guard := some (9, true) }) (v := undef) rfl (by kernel_rfl) (by kernel_rfl) (by kernel_rfl) (fun _ _ _ h => h) (Or.inr ⟨by kernel_rfl, rfl⟩) (by assumption) ?_
                        (try simp only [Act.put, List.setIfInBounds_toArray, List.set_cons_zero, List.set_cons_succ])
                        refine wpAnyH_take (i := 21) (oi := { dst := some 178, op := Op.pick (Operand.tmp 166) (Operand.tmp 177) (Operand.const (Value.bool false)), type := 4, pos := "law.go:314", after := #[{ on := 9, ground := Ground.data }, { on := 20, ground := Ground.data }], guard := none }) (v := ?_) rfl (by kernel_rfl) (by kernel_rfl) (by kernel_rfl) (fun _ _ _ h => h) (Or.inl ⟨by kernel_rfl, ?_⟩) (by assumption) ?_
                        rotate_left
                        · intro w hSw
                          (try dsimp only at hSw)
                          go_simp
                          all_goals (with_reducible rfl)
                        (try simp only [Act.put, List.setIfInBounds_toArray, List.set_cons_zero, List.set_cons_succ])
                        refine wpAnyH_done (by kernel_rfl) ?_ _
                        refine NoPanic.normal ?_
                        have hbD := Lib.hid hHeld.1
                        clear hHeld
                        have HN := Lib.hid (And.intro (HRW.out.1.below hbD.out) (HRW.out.2.trans (hbD.out.mono sri)))
                        clear hbD
                        go_wp2
                        go_roundw
                        case rel => exact ⟨i + 1, by omega, by go_num, HN.out.1, HN.out.2⟩
                        case measure => simp [intOf]; omega
                      · have hq1 : (sa.toList == sb.toList) = false := by
                          rw [beq_eq_false_iff_ne]
                          intro h
                          exact hsab (W01.str_toList h)
                        cases hsum : ((sumS sa).toList == (sumS sb).toList) with
                        | true =>
                          go_upto_region 36 with (fail)
                          refine wp_region_noPanic ?_
                          refine wp_region_held_drew (S := (fun w' => Below wr.heap.size wr w' ∧ w'.cell? ⟨b1, o1 + i, none⟩ = some (.string sa) ∧ w'.cell? ⟨b2, o2 + i, none⟩ = some (.string sb))) (by kernel_rfl) ⟨(Below.refl _ _).drew, HC12.out.1, HC12.out.2⟩ (fun hHeld => ?_)
                          refine wpAnyH_take (i := 0) (oi := { dst := some 157, op := Op.move (Operand.tmp 21), type := 22, pos := "law.go:314", after := #[], guard := none }) (v := ?_) rfl (by kernel_rfl) (by kernel_rfl) (by kernel_rfl) (fun _ _ _ h => h) (Or.inl ⟨by kernel_rfl, ?_⟩) (by assumption) ?_
                          rotate_left
                          · intro w hSw
                            (try dsimp only at hSw)
                            go_simp
                            all_goals (with_reducible rfl)
                          (try simp only [Act.put, List.setIfInBounds_toArray, List.set_cons_zero, List.set_cons_succ])
                          refine wpAnyH_take (i := 1) (oi := { dst := some 158, op := Op.move (Operand.tmp 23), type := 3, pos := "law.go:314", after := #[], guard := none }) (v := ?_) rfl (by kernel_rfl) (by kernel_rfl) (by kernel_rfl) (fun _ _ _ h => h) (Or.inl ⟨by kernel_rfl, ?_⟩) (by assumption) ?_
                          rotate_left
                          · intro w hSw
                            (try dsimp only at hSw)
                            go_simp
                            all_goals (with_reducible rfl)
                          (try simp only [Act.put, List.setIfInBounds_toArray, List.set_cons_zero, List.set_cons_succ])
                          refine wpAnyH_take (i := 2) (oi := { dst := some 159, op := Op.indexAddr 22 (Operand.tmp 157) (Operand.tmp 158), type := 0, pos := "law.go:314", after := #[{ on := 0, ground := Ground.data }, { on := 1, ground := Ground.data }], guard := none }) (v := ?_) rfl (by kernel_rfl) (by kernel_rfl) (by kernel_rfl) (fun _ _ _ h => h) (Or.inl ⟨by kernel_rfl, ?_⟩) (by assumption) ?_
                          rotate_left
                          · intro w hSw
                            (try dsimp only at hSw)
                            go_simp
                            all_goals (with_reducible rfl)
                          (try simp only [Act.put, List.setIfInBounds_toArray, List.set_cons_zero, List.set_cons_succ])
                          refine wpAnyH_take (i := 3) (oi := { dst := some 160, op := Op.load 9 (Operand.tmp 159), type := 9, pos := "law.go:314", after := #[{ on := 2, ground := Ground.data }], guard := none }) (v := ?_) rfl (by kernel_rfl) (by kernel_rfl) (by kernel_rfl) (fun _ _ _ h => h) (Or.inl ⟨by kernel_rfl, ?_⟩) (by assumption) ?_
                          rotate_left
                          · intro w hSw
                            (try dsimp only at hSw)
                            go_simp
                            all_goals (with_reducible rfl)
                          (try simp only [Act.put, List.setIfInBounds_toArray, List.set_cons_zero, List.set_cons_succ])
                          refine wpAnyH_take (i := 4) (oi := { dst := some 161, op := Op.move (Operand.tmp 22), type := 22, pos := "law.go:314", after := #[], guard := none }) (v := ?_) rfl (by kernel_rfl) (by kernel_rfl) (by kernel_rfl) (fun _ _ _ h => h) (Or.inl ⟨by kernel_rfl, ?_⟩) (by assumption) ?_
                          rotate_left
                          · intro w hSw
                            (try dsimp only at hSw)
                            go_simp
                            all_goals (with_reducible rfl)
                          (try simp only [Act.put, List.setIfInBounds_toArray, List.set_cons_zero, List.set_cons_succ])
                          refine wpAnyH_take (i := 5) (oi := { dst := some 162, op := Op.move (Operand.tmp 23), type := 3, pos := "law.go:314", after := #[], guard := none }) (v := ?_) rfl (by kernel_rfl) (by kernel_rfl) (by kernel_rfl) (fun _ _ _ h => h) (Or.inl ⟨by kernel_rfl, ?_⟩) (by assumption) ?_
                          rotate_left
                          · intro w hSw
                            (try dsimp only at hSw)
                            go_simp
                            all_goals (with_reducible rfl)
                          (try simp only [Act.put, List.setIfInBounds_toArray, List.set_cons_zero, List.set_cons_succ])
                          refine wpAnyH_take (i := 6) (oi := { dst := some 163, op := Op.indexAddr 22 (Operand.tmp 161) (Operand.tmp 162), type := 0, pos := "law.go:314", after := #[{ on := 4, ground := Ground.data }, { on := 5, ground := Ground.data }], guard := none }) (v := ?_) rfl (by kernel_rfl) (by kernel_rfl) (by kernel_rfl) (fun _ _ _ h => h) (Or.inl ⟨by kernel_rfl, ?_⟩) (by assumption) ?_
                          rotate_left
                          · intro w hSw
                            (try dsimp only at hSw)
                            go_simp
                            all_goals (with_reducible rfl)
                          (try simp only [Act.put, List.setIfInBounds_toArray, List.set_cons_zero, List.set_cons_succ])
                          refine wpAnyH_take (i := 7) (oi := { dst := some 164, op := Op.load 9 (Operand.tmp 163), type := 9, pos := "law.go:314", after := #[{ on := 6, ground := Ground.data }], guard := none }) (v := ?_) rfl (by kernel_rfl) (by kernel_rfl) (by kernel_rfl) (fun _ _ _ h => h) (Or.inl ⟨by kernel_rfl, ?_⟩) (by assumption) ?_
                          rotate_left
                          · intro w hSw
                            (try dsimp only at hSw)
                            go_simp
                            all_goals (with_reducible rfl)
                          (try simp only [Act.put, List.setIfInBounds_toArray, List.set_cons_zero, List.set_cons_succ])
                          refine wpAnyH_take (i := 8) (oi := { dst := some 165, op := Op.binOp BinOp.neq 9 (Operand.tmp 160) (Operand.tmp 164) 9, type := 4, pos := "law.go:314", after := #[{ on := 3, ground := Ground.data }, { on := 7, ground := Ground.data }], guard := none }) (v := ?_) rfl (by kernel_rfl) (by kernel_rfl) (by kernel_rfl) (fun _ _ _ h => h) (Or.inl ⟨by kernel_rfl, ?_⟩) (by assumption) ?_
                          rotate_left
                          · intro w hSw
                            (try dsimp only at hSw)
                            go_simp
                            all_goals (with_reducible rfl)
                          (try simp only [Act.put, List.setIfInBounds_toArray, List.set_cons_zero, List.set_cons_succ])
                          refine wpAnyH_take (i := 9) (oi := { dst := some 166, op := Op.move (Operand.tmp 165), type := 4, pos := "law.go:314", after := #[{ on := 8, ground := Ground.data }], guard := none }) (v := ?_) rfl (by kernel_rfl) (by kernel_rfl) (by kernel_rfl) (fun _ _ _ h => h) (Or.inl ⟨by kernel_rfl, ?_⟩) (by assumption) ?_
                          rotate_left
                          · intro w hSw
                            (try dsimp only at hSw)
                            go_simp
                            all_goals (with_reducible rfl)
                          (try simp only [Act.put, List.setIfInBounds_toArray, List.set_cons_zero, List.set_cons_succ])
                          refine wpAnyH_take (i := 10) (oi := { dst := some 167, op := Op.move (Operand.tmp 21), type := 22, pos := "law.go:314", after := #[{ on := 9, ground := Ground.guard }], guard := some (9, true) }) (v := ?_) rfl (by kernel_rfl) (by kernel_rfl) (by kernel_rfl) (fun _ _ _ h => h) (Or.inl ⟨by kernel_rfl, ?_⟩) (by assumption) ?_
                          rotate_left
                          · intro w hSw
                            (try dsimp only at hSw)
                            go_simp
                            all_goals (with_reducible rfl)
                          (try simp only [Act.put, List.setIfInBounds_toArray, List.set_cons_zero, List.set_cons_succ])
                          refine wpAnyH_take (i := 11) (oi := { dst := some 168, op := Op.move (Operand.tmp 23), type := 3, pos := "law.go:314", after := #[{ on := 9, ground := Ground.guard }], guard := some (9, true) }) (v := ?_) rfl (by kernel_rfl) (by kernel_rfl) (by kernel_rfl) (fun _ _ _ h => h) (Or.inl ⟨by kernel_rfl, ?_⟩) (by assumption) ?_
                          rotate_left
                          · intro w hSw
                            (try dsimp only at hSw)
                            go_simp
                            all_goals (with_reducible rfl)
                          (try simp only [Act.put, List.setIfInBounds_toArray, List.set_cons_zero, List.set_cons_succ])
                          refine wpAnyH_take (i := 12) (oi := { dst := some 169, op := Op.indexAddr 22 (Operand.tmp 167) (Operand.tmp 168), type := 0, pos := "law.go:314", after := #[{ on := 10, ground := Ground.data }, { on := 11, ground := Ground.data }, { on := 9, ground := Ground.guard }], guard := some (9, true) }) (v := ?_) rfl (by kernel_rfl) (by kernel_rfl) (by kernel_rfl) (fun _ _ _ h => h) (Or.inl ⟨by kernel_rfl, ?_⟩) (by assumption) ?_
                          rotate_left
                          · intro w hSw
                            (try dsimp only at hSw)
                            go_simp
                            all_goals (with_reducible rfl)
                          (try simp only [Act.put, List.setIfInBounds_toArray, List.set_cons_zero, List.set_cons_succ])
                          refine wpAnyH_take (i := 13) (oi := { dst := some 170, op := Op.load 9 (Operand.tmp 169), type := 9, pos := "law.go:314", after := #[{ on := 12, ground := Ground.data }, { on := 9, ground := Ground.guard }], guard := some (9, true) }) (v := ?_) rfl (by kernel_rfl) (by kernel_rfl) (by kernel_rfl) (fun _ _ _ h => h) (Or.inl ⟨by kernel_rfl, ?_⟩) (by assumption) ?_
                          rotate_left
                          · intro w hSw
                            (try dsimp only at hSw)
                            go_simp
                            all_goals (with_reducible rfl)
                          (try simp only [Act.put, List.setIfInBounds_toArray, List.set_cons_zero, List.set_cons_succ])
                          refine wpAnyH_take (i := 15) (oi := { dst := some 172, op := Op.move (Operand.tmp 22), type := 22, pos := "law.go:314", after := #[{ on := 9, ground := Ground.guard }], guard := some (9, true) }) (v := ?_) rfl (by kernel_rfl) (by kernel_rfl) (by kernel_rfl) (fun _ _ _ h => h) (Or.inl ⟨by kernel_rfl, ?_⟩) (by assumption) ?_
                          rotate_left
                          · intro w hSw
                            (try dsimp only at hSw)
                            go_simp
                            all_goals (with_reducible rfl)
                          (try simp only [Act.put, List.setIfInBounds_toArray, List.set_cons_zero, List.set_cons_succ])
                          refine wpAnyH_take (i := 16) (oi := { dst := some 173, op := Op.move (Operand.tmp 23), type := 3, pos := "law.go:314", after := #[{ on := 9, ground := Ground.guard }], guard := some (9, true) }) (v := ?_) rfl (by kernel_rfl) (by kernel_rfl) (by kernel_rfl) (fun _ _ _ h => h) (Or.inl ⟨by kernel_rfl, ?_⟩) (by assumption) ?_
                          rotate_left
                          · intro w hSw
                            (try dsimp only at hSw)
                            go_simp
                            all_goals (with_reducible rfl)
                          (try simp only [Act.put, List.setIfInBounds_toArray, List.set_cons_zero, List.set_cons_succ])
                          refine wpAnyH_take (i := 17) (oi := { dst := some 174, op := Op.indexAddr 22 (Operand.tmp 172) (Operand.tmp 173), type := 0, pos := "law.go:314", after := #[{ on := 15, ground := Ground.data }, { on := 16, ground := Ground.data }, { on := 9, ground := Ground.guard }], guard := some (9, true) }) (v := ?_) rfl (by kernel_rfl) (by kernel_rfl) (by kernel_rfl) (fun _ _ _ h => h) (Or.inl ⟨by kernel_rfl, ?_⟩) (by assumption) ?_
                          rotate_left
                          · intro w hSw
                            (try dsimp only at hSw)
                            go_simp
                            all_goals (with_reducible rfl)
                          (try simp only [Act.put, List.setIfInBounds_toArray, List.set_cons_zero, List.set_cons_succ])
                          refine wpAnyH_take (i := 18) (oi := { dst := some 175, op := Op.load 9 (Operand.tmp 174), type := 9, pos := "law.go:314", after := #[{ on := 17, ground := Ground.data }, { on := 9, ground := Ground.guard }], guard := some (9, true) }) (v := ?_) rfl (by kernel_rfl) (by kernel_rfl) (by kernel_rfl) (fun _ _ _ h => h) (Or.inl ⟨by kernel_rfl, ?_⟩) (by assumption) ?_
                          rotate_left
                          · intro w hSw
                            (try dsimp only at hSw)
                            go_simp
                            all_goals (with_reducible rfl)
                          (try simp only [Act.put, List.setIfInBounds_toArray, List.set_cons_zero, List.set_cons_succ])
                          refine wpAnyH_one1 (i := 14) (o := { dst := some 171, op := Op.call { callee := Callee.value (Operand.func 28), args := #[Operand.tmp 170], argTypes := #[9] }, type := 9, pos := "law.go:314", after := #[{ on := 13, ground := Ground.data }, { on := 9, ground := Ground.chain }, { on := 9, ground := Ground.guard }], guard := some (9, true) }) (by kernel_rfl) rfl (fun K hK => ?_)
                          go_simp
                          go_at_call 28
                          refine (sum28 sa _ HSZS.out.1).mono ?_
                          rintro e wS ⟨rfl, hb9⟩
                          refine hK.out _ _ ?_ (fun hHeld2 => ?_)
                          · exact ⟨hHeld.1.trans (hb9.mono hHeld.1.size), (hb9.cell (p := ⟨b1, o1 + i, none⟩) (Nat.lt_of_lt_of_le HLT.out.1 hHeld.1.size)).trans hHeld.2.1, (hb9.cell (p := ⟨b2, o2 + i, none⟩) (Nat.lt_of_lt_of_le HLT.out.2 hHeld.1.size)).trans hHeld.2.2⟩
                          clear hHeld
                          have hHeld := hHeld2
                          clear hHeld2
                          clear hK K
                          (try simp only [Act.put, List.setIfInBounds_toArray, List.set_cons_zero, List.set_cons_succ])
                          refine wpAnyH_one1 (i := 19) (o := { dst := some 176, op := Op.call { callee := Callee.value (Operand.func 28), args := #[Operand.tmp 175], argTypes := #[9] }, type := 9, pos := "law.go:314", after := #[{ on := 18, ground := Ground.data }, { on := 14, ground := Ground.chain }, { on := 9, ground := Ground.guard }], guard := some (9, true) }) (by kernel_rfl) rfl (fun K hK => ?_)
                          go_simp
                          go_at_call 28
                          refine (sum28 sb _ HSZS.out.2).mono ?_
                          rintro e wS2 ⟨rfl, hb9⟩
                          refine hK.out _ _ ?_ (fun hHeld2 => ?_)
                          · exact ⟨hHeld.1.trans (hb9.mono hHeld.1.size), (hb9.cell (p := ⟨b1, o1 + i, none⟩) (Nat.lt_of_lt_of_le HLT.out.1 hHeld.1.size)).trans hHeld.2.1, (hb9.cell (p := ⟨b2, o2 + i, none⟩) (Nat.lt_of_lt_of_le HLT.out.2 hHeld.1.size)).trans hHeld.2.2⟩
                          clear hHeld
                          have hHeld := hHeld2
                          clear hHeld2
                          clear hK K
                          (try simp only [Act.put, List.setIfInBounds_toArray, List.set_cons_zero, List.set_cons_succ])
                          refine wpAnyH_take (i := 20) (oi := { dst := some 177, op := Op.binOp BinOp.eql 9 (Operand.tmp 171) (Operand.tmp 176) 9, type := 4, pos := "law.go:314", after := #[{ on := 14, ground := Ground.data }, { on := 19, ground := Ground.data }, { on := 9, ground := Ground.guard }], guard := some (9, true) }) (v := ?_) rfl (by kernel_rfl) (by kernel_rfl) (by kernel_rfl) (fun _ _ _ h => h) (Or.inl ⟨by kernel_rfl, ?_⟩) (by assumption) ?_
                          rotate_left
                          · intro w hSw
                            (try dsimp only at hSw)
                            go_simp
                            all_goals (with_reducible rfl)
                          (try simp only [Act.put, List.setIfInBounds_toArray, List.set_cons_zero, List.set_cons_succ])
                          refine wpAnyH_take (i := 21) (oi := { dst := some 178, op := Op.pick (Operand.tmp 166) (Operand.tmp 177) (Operand.const (Value.bool false)), type := 4, pos := "law.go:314", after := #[{ on := 9, ground := Ground.data }, { on := 20, ground := Ground.data }], guard := none }) (v := ?_) rfl (by kernel_rfl) (by kernel_rfl) (by kernel_rfl) (fun _ _ _ h => h) (Or.inl ⟨by kernel_rfl, ?_⟩) (by assumption) ?_
                          rotate_left
                          · intro w hSw
                            (try dsimp only at hSw)
                            go_simp
                            all_goals (with_reducible rfl)
                          (try simp only [Act.put, List.setIfInBounds_toArray, List.set_cons_zero, List.set_cons_succ])
                          refine wpAnyH_done (by kernel_rfl) ?_ _
                          refine NoPanic.normal ?_
                          have hbD := Lib.hid hHeld.1
                          clear hHeld
                          have hfin := HB1.out.trans ((HRW.out.2.trans (hbD.out.mono sri)).mono HB1.out.size)
                          clear hbD
                          go_wp2
                          go_ret
                          exact ⟨rfl, hfin⟩
                        | false =>
                          have hne0 : i ≠ i0 := fun e => by
                            subst e
                            have e1 := Option.some.inj (HEI.out.1.symm.trans HQ.out.1)
                            have e2 := Option.some.inj (HEI.out.2.symm.trans HQ.out.2.1)
                            have := HQ.out.2.2.2
                            rw [← e1, ← e2] at this
                            rw [this] at hsum
                            simp at hsum
                          go_upto_region 36 with (fail)
                          refine wp_region_noPanic ?_
                          refine wp_region_held_drew (S := (fun w' => Below wr.heap.size wr w' ∧ w'.cell? ⟨b1, o1 + i, none⟩ = some (.string sa) ∧ w'.cell? ⟨b2, o2 + i, none⟩ = some (.string sb))) (by kernel_rfl) ⟨(Below.refl _ _).drew, HC12.out.1, HC12.out.2⟩ (fun hHeld => ?_)
                          refine wpAnyH_take (i := 0) (oi := { dst := some 157, op := Op.move (Operand.tmp 21), type := 22, pos := "law.go:314", after := #[], guard := none }) (v := ?_) rfl (by kernel_rfl) (by kernel_rfl) (by kernel_rfl) (fun _ _ _ h => h) (Or.inl ⟨by kernel_rfl, ?_⟩) (by assumption) ?_
                          rotate_left
                          · intro w hSw
                            (try dsimp only at hSw)
                            go_simp
                            all_goals (with_reducible rfl)
                          (try simp only [Act.put, List.setIfInBounds_toArray, List.set_cons_zero, List.set_cons_succ])
                          refine wpAnyH_take (i := 1) (oi := { dst := some 158, op := Op.move (Operand.tmp 23), type := 3, pos := "law.go:314", after := #[], guard := none }) (v := ?_) rfl (by kernel_rfl) (by kernel_rfl) (by kernel_rfl) (fun _ _ _ h => h) (Or.inl ⟨by kernel_rfl, ?_⟩) (by assumption) ?_
                          rotate_left
                          · intro w hSw
                            (try dsimp only at hSw)
                            go_simp
                            all_goals (with_reducible rfl)
                          (try simp only [Act.put, List.setIfInBounds_toArray, List.set_cons_zero, List.set_cons_succ])
                          refine wpAnyH_take (i := 2) (oi := { dst := some 159, op := Op.indexAddr 22 (Operand.tmp 157) (Operand.tmp 158), type := 0, pos := "law.go:314", after := #[{ on := 0, ground := Ground.data }, { on := 1, ground := Ground.data }], guard := none }) (v := ?_) rfl (by kernel_rfl) (by kernel_rfl) (by kernel_rfl) (fun _ _ _ h => h) (Or.inl ⟨by kernel_rfl, ?_⟩) (by assumption) ?_
                          rotate_left
                          · intro w hSw
                            (try dsimp only at hSw)
                            go_simp
                            all_goals (with_reducible rfl)
                          (try simp only [Act.put, List.setIfInBounds_toArray, List.set_cons_zero, List.set_cons_succ])
                          refine wpAnyH_take (i := 3) (oi := { dst := some 160, op := Op.load 9 (Operand.tmp 159), type := 9, pos := "law.go:314", after := #[{ on := 2, ground := Ground.data }], guard := none }) (v := ?_) rfl (by kernel_rfl) (by kernel_rfl) (by kernel_rfl) (fun _ _ _ h => h) (Or.inl ⟨by kernel_rfl, ?_⟩) (by assumption) ?_
                          rotate_left
                          · intro w hSw
                            (try dsimp only at hSw)
                            go_simp
                            all_goals (with_reducible rfl)
                          (try simp only [Act.put, List.setIfInBounds_toArray, List.set_cons_zero, List.set_cons_succ])
                          refine wpAnyH_take (i := 4) (oi := { dst := some 161, op := Op.move (Operand.tmp 22), type := 22, pos := "law.go:314", after := #[], guard := none }) (v := ?_) rfl (by kernel_rfl) (by kernel_rfl) (by kernel_rfl) (fun _ _ _ h => h) (Or.inl ⟨by kernel_rfl, ?_⟩) (by assumption) ?_
                          rotate_left
                          · intro w hSw
                            (try dsimp only at hSw)
                            go_simp
                            all_goals (with_reducible rfl)
                          (try simp only [Act.put, List.setIfInBounds_toArray, List.set_cons_zero, List.set_cons_succ])
                          refine wpAnyH_take (i := 5) (oi := { dst := some 162, op := Op.move (Operand.tmp 23), type := 3, pos := "law.go:314", after := #[], guard := none }) (v := ?_) rfl (by kernel_rfl) (by kernel_rfl) (by kernel_rfl) (fun _ _ _ h => h) (Or.inl ⟨by kernel_rfl, ?_⟩) (by assumption) ?_
                          rotate_left
                          · intro w hSw
                            (try dsimp only at hSw)
                            go_simp
                            all_goals (with_reducible rfl)
                          (try simp only [Act.put, List.setIfInBounds_toArray, List.set_cons_zero, List.set_cons_succ])
                          refine wpAnyH_take (i := 6) (oi := { dst := some 163, op := Op.indexAddr 22 (Operand.tmp 161) (Operand.tmp 162), type := 0, pos := "law.go:314", after := #[{ on := 4, ground := Ground.data }, { on := 5, ground := Ground.data }], guard := none }) (v := ?_) rfl (by kernel_rfl) (by kernel_rfl) (by kernel_rfl) (fun _ _ _ h => h) (Or.inl ⟨by kernel_rfl, ?_⟩) (by assumption) ?_
                          rotate_left
                          · intro w hSw
                            (try dsimp only at hSw)
                            go_simp
                            all_goals (with_reducible rfl)
                          (try simp only [Act.put, List.setIfInBounds_toArray, List.set_cons_zero, List.set_cons_succ])
                          refine wpAnyH_take (i := 7) (oi := { dst := some 164, op := Op.load 9 (Operand.tmp 163), type := 9, pos := "law.go:314", after := #[{ on := 6, ground := Ground.data }], guard := none }) (v := ?_) rfl (by kernel_rfl) (by kernel_rfl) (by kernel_rfl) (fun _ _ _ h => h) (Or.inl ⟨by kernel_rfl, ?_⟩) (by assumption) ?_
                          rotate_left
                          · intro w hSw
                            (try dsimp only at hSw)
                            go_simp
                            all_goals (with_reducible rfl)
                          (try simp only [Act.put, List.setIfInBounds_toArray, List.set_cons_zero, List.set_cons_succ])
                          refine wpAnyH_take (i := 8) (oi := { dst := some 165, op := Op.binOp BinOp.neq 9 (Operand.tmp 160) (Operand.tmp 164) 9, type := 4, pos := "law.go:314", after := #[{ on := 3, ground := Ground.data }, { on := 7, ground := Ground.data }], guard := none }) (v := ?_) rfl (by kernel_rfl) (by kernel_rfl) (by kernel_rfl) (fun _ _ _ h => h) (Or.inl ⟨by kernel_rfl, ?_⟩) (by assumption) ?_
                          rotate_left
                          · intro w hSw
                            (try dsimp only at hSw)
                            go_simp
                            all_goals (with_reducible rfl)
                          (try simp only [Act.put, List.setIfInBounds_toArray, List.set_cons_zero, List.set_cons_succ])
                          refine wpAnyH_take (i := 9) (oi := { dst := some 166, op := Op.move (Operand.tmp 165), type := 4, pos := "law.go:314", after := #[{ on := 8, ground := Ground.data }], guard := none }) (v := ?_) rfl (by kernel_rfl) (by kernel_rfl) (by kernel_rfl) (fun _ _ _ h => h) (Or.inl ⟨by kernel_rfl, ?_⟩) (by assumption) ?_
                          rotate_left
                          · intro w hSw
                            (try dsimp only at hSw)
                            go_simp
                            all_goals (with_reducible rfl)
                          (try simp only [Act.put, List.setIfInBounds_toArray, List.set_cons_zero, List.set_cons_succ])
                          refine wpAnyH_take (i := 10) (oi := { dst := some 167, op := Op.move (Operand.tmp 21), type := 22, pos := "law.go:314", after := #[{ on := 9, ground := Ground.guard }], guard := some (9, true) }) (v := ?_) rfl (by kernel_rfl) (by kernel_rfl) (by kernel_rfl) (fun _ _ _ h => h) (Or.inl ⟨by kernel_rfl, ?_⟩) (by assumption) ?_
                          rotate_left
                          · intro w hSw
                            (try dsimp only at hSw)
                            go_simp
                            all_goals (with_reducible rfl)
                          (try simp only [Act.put, List.setIfInBounds_toArray, List.set_cons_zero, List.set_cons_succ])
                          refine wpAnyH_take (i := 11) (oi := { dst := some 168, op := Op.move (Operand.tmp 23), type := 3, pos := "law.go:314", after := #[{ on := 9, ground := Ground.guard }], guard := some (9, true) }) (v := ?_) rfl (by kernel_rfl) (by kernel_rfl) (by kernel_rfl) (fun _ _ _ h => h) (Or.inl ⟨by kernel_rfl, ?_⟩) (by assumption) ?_
                          rotate_left
                          · intro w hSw
                            (try dsimp only at hSw)
                            go_simp
                            all_goals (with_reducible rfl)
                          (try simp only [Act.put, List.setIfInBounds_toArray, List.set_cons_zero, List.set_cons_succ])
                          refine wpAnyH_take (i := 12) (oi := { dst := some 169, op := Op.indexAddr 22 (Operand.tmp 167) (Operand.tmp 168), type := 0, pos := "law.go:314", after := #[{ on := 10, ground := Ground.data }, { on := 11, ground := Ground.data }, { on := 9, ground := Ground.guard }], guard := some (9, true) }) (v := ?_) rfl (by kernel_rfl) (by kernel_rfl) (by kernel_rfl) (fun _ _ _ h => h) (Or.inl ⟨by kernel_rfl, ?_⟩) (by assumption) ?_
                          rotate_left
                          · intro w hSw
                            (try dsimp only at hSw)
                            go_simp
                            all_goals (with_reducible rfl)
                          (try simp only [Act.put, List.setIfInBounds_toArray, List.set_cons_zero, List.set_cons_succ])
                          refine wpAnyH_take (i := 13) (oi := { dst := some 170, op := Op.load 9 (Operand.tmp 169), type := 9, pos := "law.go:314", after := #[{ on := 12, ground := Ground.data }, { on := 9, ground := Ground.guard }], guard := some (9, true) }) (v := ?_) rfl (by kernel_rfl) (by kernel_rfl) (by kernel_rfl) (fun _ _ _ h => h) (Or.inl ⟨by kernel_rfl, ?_⟩) (by assumption) ?_
                          rotate_left
                          · intro w hSw
                            (try dsimp only at hSw)
                            go_simp
                            all_goals (with_reducible rfl)
                          (try simp only [Act.put, List.setIfInBounds_toArray, List.set_cons_zero, List.set_cons_succ])
                          refine wpAnyH_take (i := 15) (oi := { dst := some 172, op := Op.move (Operand.tmp 22), type := 22, pos := "law.go:314", after := #[{ on := 9, ground := Ground.guard }], guard := some (9, true) }) (v := ?_) rfl (by kernel_rfl) (by kernel_rfl) (by kernel_rfl) (fun _ _ _ h => h) (Or.inl ⟨by kernel_rfl, ?_⟩) (by assumption) ?_
                          rotate_left
                          · intro w hSw
                            (try dsimp only at hSw)
                            go_simp
                            all_goals (with_reducible rfl)
                          (try simp only [Act.put, List.setIfInBounds_toArray, List.set_cons_zero, List.set_cons_succ])
                          refine wpAnyH_take (i := 16) (oi := { dst := some 173, op := Op.move (Operand.tmp 23), type := 3, pos := "law.go:314", after := #[{ on := 9, ground := Ground.guard }], guard := some (9, true) }) (v := ?_) rfl (by kernel_rfl) (by kernel_rfl) (by kernel_rfl) (fun _ _ _ h => h) (Or.inl ⟨by kernel_rfl, ?_⟩) (by assumption) ?_
                          rotate_left
                          · intro w hSw
                            (try dsimp only at hSw)
                            go_simp
                            all_goals (with_reducible rfl)
                          (try simp only [Act.put, List.setIfInBounds_toArray, List.set_cons_zero, List.set_cons_succ])
                          refine wpAnyH_take (i := 17) (oi := { dst := some 174, op := Op.indexAddr 22 (Operand.tmp 172) (Operand.tmp 173), type := 0, pos := "law.go:314", after := #[{ on := 15, ground := Ground.data }, { on := 16, ground := Ground.data }, { on := 9, ground := Ground.guard }], guard := some (9, true) }) (v := ?_) rfl (by kernel_rfl) (by kernel_rfl) (by kernel_rfl) (fun _ _ _ h => h) (Or.inl ⟨by kernel_rfl, ?_⟩) (by assumption) ?_
                          rotate_left
                          · intro w hSw
                            (try dsimp only at hSw)
                            go_simp
                            all_goals (with_reducible rfl)
                          (try simp only [Act.put, List.setIfInBounds_toArray, List.set_cons_zero, List.set_cons_succ])
                          refine wpAnyH_take (i := 18) (oi := { dst := some 175, op := Op.load 9 (Operand.tmp 174), type := 9, pos := "law.go:314", after := #[{ on := 17, ground := Ground.data }, { on := 9, ground := Ground.guard }], guard := some (9, true) }) (v := ?_) rfl (by kernel_rfl) (by kernel_rfl) (by kernel_rfl) (fun _ _ _ h => h) (Or.inl ⟨by kernel_rfl, ?_⟩) (by assumption) ?_
                          rotate_left
                          · intro w hSw
                            (try dsimp only at hSw)
                            go_simp
                            all_goals (with_reducible rfl)
                          (try simp only [Act.put, List.setIfInBounds_toArray, List.set_cons_zero, List.set_cons_succ])
                          refine wpAnyH_one1 (i := 14) (o := { dst := some 171, op := Op.call { callee := Callee.value (Operand.func 28), args := #[Operand.tmp 170], argTypes := #[9] }, type := 9, pos := "law.go:314", after := #[{ on := 13, ground := Ground.data }, { on := 9, ground := Ground.chain }, { on := 9, ground := Ground.guard }], guard := some (9, true) }) (by kernel_rfl) rfl (fun K hK => ?_)
                          go_simp
                          go_at_call 28
                          refine (sum28 sa _ HSZS.out.1).mono ?_
                          rintro e wS ⟨rfl, hb9⟩
                          refine hK.out _ _ ?_ (fun hHeld2 => ?_)
                          · exact ⟨hHeld.1.trans (hb9.mono hHeld.1.size), (hb9.cell (p := ⟨b1, o1 + i, none⟩) (Nat.lt_of_lt_of_le HLT.out.1 hHeld.1.size)).trans hHeld.2.1, (hb9.cell (p := ⟨b2, o2 + i, none⟩) (Nat.lt_of_lt_of_le HLT.out.2 hHeld.1.size)).trans hHeld.2.2⟩
                          clear hHeld
                          have hHeld := hHeld2
                          clear hHeld2
                          clear hK K
                          (try simp only [Act.put, List.setIfInBounds_toArray, List.set_cons_zero, List.set_cons_succ])
                          refine wpAnyH_one1 (i := 19) (o := { dst := some 176, op := Op.call { callee := Callee.value (Operand.func 28), args := #[Operand.tmp 175], argTypes := #[9] }, type := 9, pos := "law.go:314", after := #[{ on := 18, ground := Ground.data }, { on := 14, ground := Ground.chain }, { on := 9, ground := Ground.guard }], guard := some (9, true) }) (by kernel_rfl) rfl (fun K hK => ?_)
                          go_simp
                          go_at_call 28
                          refine (sum28 sb _ HSZS.out.2).mono ?_
                          rintro e wS2 ⟨rfl, hb9⟩
                          refine hK.out _ _ ?_ (fun hHeld2 => ?_)
                          · exact ⟨hHeld.1.trans (hb9.mono hHeld.1.size), (hb9.cell (p := ⟨b1, o1 + i, none⟩) (Nat.lt_of_lt_of_le HLT.out.1 hHeld.1.size)).trans hHeld.2.1, (hb9.cell (p := ⟨b2, o2 + i, none⟩) (Nat.lt_of_lt_of_le HLT.out.2 hHeld.1.size)).trans hHeld.2.2⟩
                          clear hHeld
                          have hHeld := hHeld2
                          clear hHeld2
                          clear hK K
                          (try simp only [Act.put, List.setIfInBounds_toArray, List.set_cons_zero, List.set_cons_succ])
                          refine wpAnyH_take (i := 20) (oi := { dst := some 177, op := Op.binOp BinOp.eql 9 (Operand.tmp 171) (Operand.tmp 176) 9, type := 4, pos := "law.go:314", after := #[{ on := 14, ground := Ground.data }, { on := 19, ground := Ground.data }, { on := 9, ground := Ground.guard }], guard := some (9, true) }) (v := ?_) rfl (by kernel_rfl) (by kernel_rfl) (by kernel_rfl) (fun _ _ _ h => h) (Or.inl ⟨by kernel_rfl, ?_⟩) (by assumption) ?_
                          rotate_left
                          · intro w hSw
                            (try dsimp only at hSw)
                            go_simp
                            all_goals (with_reducible rfl)
                          (try simp only [Act.put, List.setIfInBounds_toArray, List.set_cons_zero, List.set_cons_succ])
                          refine wpAnyH_take (i := 21) (oi := { dst := some 178, op := Op.pick (Operand.tmp 166) (Operand.tmp 177) (Operand.const (Value.bool false)), type := 4, pos := "law.go:314", after := #[{ on := 9, ground := Ground.data }, { on := 20, ground := Ground.data }], guard := none }) (v := ?_) rfl (by kernel_rfl) (by kernel_rfl) (by kernel_rfl) (fun _ _ _ h => h) (Or.inl ⟨by kernel_rfl, ?_⟩) (by assumption) ?_
                          rotate_left
                          · intro w hSw
                            (try dsimp only at hSw)
                            go_simp
                            all_goals (with_reducible rfl)
                          (try simp only [Act.put, List.setIfInBounds_toArray, List.set_cons_zero, List.set_cons_succ])
                          refine wpAnyH_done (by kernel_rfl) ?_ _
                          refine NoPanic.normal ?_
                          have hbD := Lib.hid hHeld.1
                          clear hHeld
                          have HN := Lib.hid (And.intro (HRW.out.1.below hbD.out) (HRW.out.2.trans (hbD.out.mono sri)))
                          clear hbD
                          go_wp2
                          go_roundw
                          case rel => exact ⟨i + 1, by omega, by go_num, HN.out.1, HN.out.2⟩
                          case measure => simp [intOf]; omega
                · have HCOL := Lib.hid (show Collide z32 L M from HCH.out.elim (fun h => absurd (by rw [h.1]; rfl) f1) id)
                  have hf1 : ((cb.toNat : Int) == 0) = false := beq_eq_false_iff_ne.2 (by omega)
                  have HRV := HRM
                  clear HRM hfin
                  have hCo : Collide z32 L M := HCOL.out
                  obtain ⟨i0, qa, qb, hqa, hqb, hqab, hqs⟩ := hCo
                  have hia : i0 < (headsL z32 L).length := by
                    refine Classical.byContradiction fun h => ?_
                    rw [List.getElem?_eq_none (by omega)] at hqa; cases hqa
                  have hib : i0 < (headsL z32 M).length := by
                    refine Classical.byContradiction fun h => ?_
                    rw [List.getElem?_eq_none (by omega)] at hqb; cases hqb
                  have HQ := Lib.hid (And.intro hqa (And.intro hqb (And.intro hqab hqs)))
                  have hal := headsL_len L z32
                  have hbl := headsL_len M z32
                  clear hqa hqb hqab hqs
                  go_wp2_with fail
                  refine (heads27 _ L wM (HRV.out.1.strs (p := (.slice a4 L.length c4, L)) (by simp)) HGD.out.full.1 (by omega)).mono ?_
                  rintro e wa ⟨va, rfl, hoa, ba⟩
                  have ra := (HRV.out.1.below ba).cons hoa
                  have Ba := HRV.out.2.trans (ba.mono HRV.out.2.size)
                  clear ba hoa
                  go_wp2_with fail
                  refine (heads27 _ M wa (ra.strs (p := (.slice aM M.length cM, M)) (by simp)) HMS.out (by omega)).mono ?_
                  rintro e wb ⟨vb, rfl, hob, bb⟩
                  have rb := ((ra.below bb).cons hob).sub (ts := [(va, headsL z32 L), (vb, headsL z32 M)]) (by simp)
                  have Bb := Ba.trans (bb.mono Ba.size)
                  clear bb hob ra Ba
                  obtain ⟨aa, ca, rfl, hca1, hca2⟩ : ∃ a c, va = .slice a (headsL z32 L).length c ∧ (headsL z32 L).length ≤ c ∧ c ≤ maxLen := strs_len (rb.strs (p := (va, headsL z32 L)) (by simp))
                  obtain ⟨ab, cbb, rfl, hcb1, hcb2⟩ : ∃ a c, vb = .slice a (headsL z32 M).length c ∧ (headsL z32 M).length ≤ c ∧ c ≤ maxLen := strs_len (rb.strs (p := (vb, headsL z32 M)) (by simp))
                  unfold maxLen at hca2 hcb2
                  have HSA := Lib.hid (fun t ht => heads_mem (t := t) L z32 rfl HGD.out.full.1 ht)
                  have HSB := Lib.hid (fun t ht => heads_mem (t := t) M z32 rfl HMS.out ht)
                  have hla1 : (headsL z32 L).length ≤ 10000 := by omega
                  have hlb1 : (headsL z32 M).length ≤ 10000 := by omega
                  clear hal hbl
                  generalize headsL z32 L = ha at *
                  generalize headsL z32 M = hb at *
                  have Hst := Lib.hid (And.intro rb Bb)
                  clear rb Bb
                  go_wp2
                  go_loopw [23] (fun u23 wr => ∃ i : Nat, i ≤ i0 ∧ u23 = .int .i64 (i : Int) ∧ RowsAt wr [(.slice aa ha.length ca, ha), (.slice ab hb.length cbb, hb)] ∧ Below w1.heap.size w1 wr) (fun u23 _ => (i0 + 1 - intOf u23).toNat)
                  case atStart => exact ⟨0, by omega, rfl, Hst.out.1, Hst.out.2⟩
                  case round =>
                    obtain ⟨i, hi, rfl, hrw, hBi⟩ := hrel
                    rename World => wr
                    have sri := hBi.size
                    have i1 : i < ha.length := by omega
                    have i2 : i < hb.length := by omega
                    have i3 : (0 : Int) ≤ (i : Int) ∧ (i : Int) < (ha.length : Int) := by omega
                    have i4 : (0 : Int) ≤ (i : Int) ∧ (i : Int) < (hb.length : Int) := by omega
                    have dd1 : decide (i < ha.length) = true := decide_eq_true i1
                    have dd2 : decide (i < hb.length) = true := decide_eq_true i2
                    obtain ⟨b1, o1, rfl, c1⟩ := strs_get (hrw.strs (p := (.slice aa ha.length ca, ha)) (by simp)) i1
                    obtain ⟨b2, o2, rfl, c2⟩ := strs_get (hrw.strs (p := (.slice ab hb.length cbb, hb)) (by simp)) i2
                    have HSZS := Lib.hid (And.intro (HSA.out _ (List.getElem_mem i1)) (HSB.out _ (List.getElem_mem i2)))
                    have HEI := Lib.hid (And.intro (List.getElem?_eq_getElem i1) (List.getElem?_eq_getElem i2))
                    generalize ha[i] = sa at c1 HSZS HEI
                    generalize hb[i] = sb at c2 HSZS HEI
                    have HC12 := Lib.hid (And.intro (show wr.drew.cell? ⟨b1, o1 + i, none⟩ = some (.string sa) from c1) (show wr.drew.cell? ⟨b2, o2 + i, none⟩ = some (.string sb) from c2))
                    have HLT := Lib.hid (And.intro (World.block_lt_of_cell? _ _ c1) (World.block_lt_of_cell? _ _ c2))
                    have HRW := Lib.hid (And.intro hrw hBi)
                    clear c1 c2 hrw hBi
                    by_cases hsab : sa = sb
                    · have hne0 : i ≠ i0 := fun e => by
                        subst e
                        have e1 := HEI.out.1.symm.trans HQ.out.1
                        have e2 := HEI.out.2.symm.trans HQ.out.2.1
                        exact HQ.out.2.2.1 ((Option.some.inj e1).symm.trans (hsab.trans (Option.some.inj e2)))
                      subst hsab
                      go_upto_region 36 with (fail)
                      refine wp_region_noPanic ?_
                      refine wp_region_held_drew (S := (fun w' => Below wr.heap.size wr w' ∧ w'.cell? ⟨b1, o1 + i, none⟩ = some (.string sa) ∧ w'.cell? ⟨b2, o2 + i, none⟩ = some (.string sa))) (by kernel_rfl) ⟨(Below.refl _ _).drew, HC12.out.1, HC12.out.2⟩ (fun hHeld => ?_)
                      refine wpAnyH_take (i := 0) (oi := { dst := some 157, op := Op.move (Operand.tmp 21), type := 22, pos := "law.go:314", after := #[], guard := none }) (v := ?_) rfl (by kernel_rfl) (by kernel_rfl) (by kernel_rfl) (fun _ _ _ h => h) (Or.inl ⟨by kernel_rfl, ?_⟩) (by assumption) ?_
                      rotate_left
                      · intro w hSw
                        (try dsimp only at hSw)
                        go_simp
                        all_goals (with_reducible rfl)
                      (try simp only [Act.put, List.setIfInBounds_toArray, List.set_cons_zero, List.set_cons_succ])
                      refine wpAnyH_take (i := 1) (oi := { dst := some 158, op := Op.move (Operand.tmp 23), type := 3, pos := "law.go:314", after := #[], guard := none }) (v := ?_) rfl (by kernel_rfl) (by kernel_rfl) (by kernel_rfl) (fun _ _ _ h => h) (Or.inl ⟨by kernel_rfl, ?_⟩) (by assumption) ?_
                      rotate_left
                      · intro w hSw
                        (try dsimp only at hSw)
                        go_simp
                        all_goals (with_reducible rfl)
                      (try simp only [Act.put, List.setIfInBounds_toArray, List.set_cons_zero, List.set_cons_succ])
                      refine wpAnyH_take (i := 2) (oi := { dst := some 159, op := Op.indexAddr 22 (Operand.tmp 157) (Operand.tmp 158), type := 0, pos := "law.go:314", after := #[{ on := 0, ground := Ground.data }, { on := 1, ground := Ground.data }], guard := none }) (v := ?_) rfl (by kernel_rfl) (by kernel_rfl) (by kernel_rfl) (fun _ _ _ h => h) (Or.inl ⟨by kernel_rfl, ?_⟩) (by assumption) ?_
                      rotate_left
                      · intro w hSw
                        (try dsimp only at hSw)
                        go_simp
                        all_goals (with_reducible rfl)
                      (try simp only [Act.put, List.setIfInBounds_toArray, List.set_cons_zero, List.set_cons_succ])
                      refine wpAnyH_take (i := 3) (oi := { dst := some 160, op := Op.load 9 (Operand.tmp 159), type := 9, pos := "law.go:314", after := #[{ on := 2, ground := Ground.data }], guard := none }) (v := ?_) rfl (by kernel_rfl) (by kernel_rfl) (by kernel_rfl) (fun _ _ _ h => h) (Or.inl ⟨by kernel_rfl, ?_⟩) (by assumption) ?_
                      rotate_left
                      · intro w hSw
                        (try dsimp only at hSw)
                        go_simp
                        all_goals (with_reducible rfl)
                      (try simp only [Act.put, List.setIfInBounds_toArray, List.set_cons_zero, List.set_cons_succ])
                      refine wpAnyH_take (i := 4) (oi := { dst := some 161, op := Op.move (Operand.tmp 22), type := 22, pos := "law.go:314", after := #[], guard := none }) (v := ?_) rfl (by kernel_rfl) (by kernel_rfl) (by kernel_rfl) (fun _ _ _ h => h) (Or.inl ⟨by kernel_rfl, ?_⟩) (by assumption) ?_
                      rotate_left
                      · intro w hSw
                        (try dsimp only at hSw)
                        go_simp
                        all_goals (with_reducible rfl)
                      (try simp only [Act.put, List.setIfInBounds_toArray, List.set_cons_zero, List.set_cons_succ])
                      refine wpAnyH_take (i := 5) (oi := { dst := some 162, op := Op.move (Operand.tmp 23), type := 3, pos := "law.go:314", after := #[], guard := none }) (v := ?_) rfl (by kernel_rfl) (by kernel_rfl) (by kernel_rfl) (fun _ _ _ h => h) (Or.inl ⟨by kernel_rfl, ?_⟩) (by assumption) ?_
                      rotate_left
                      · intro w hSw
                        (try dsimp only at hSw)
                        go_simp
                        all_goals (with_reducible rfl)
                      (try simp only [Act.put, List.setIfInBounds_toArray, List.set_cons_zero, List.set_cons_succ])
                      refine wpAnyH_take (i := 6) (oi := { dst := some 163, op := Op.indexAddr 22 (Operand.tmp 161) (Operand.tmp 162), type := 0, pos := "law.go:314", after := #[{ on := 4, ground := Ground.data }, { on := 5, ground := Ground.data }], guard := none }) (v := ?_) rfl (by kernel_rfl) (by kernel_rfl) (by kernel_rfl) (fun _ _ _ h => h) (Or.inl ⟨by kernel_rfl, ?_⟩) (by assumption) ?_
                      rotate_left
                      · intro w hSw
                        (try dsimp only at hSw)
                        go_simp
                        all_goals (with_reducible rfl)
                      (try simp only [Act.put, List.setIfInBounds_toArray, List.set_cons_zero, List.set_cons_succ])
                      refine wpAnyH_take (i := 7) (oi := { dst := some 164, op := Op.load 9 (Operand.tmp 163), type := 9, pos := "law.go:314", after := #[{ on := 6, ground := Ground.data }], guard := none }) (v := ?_) rfl (by kernel_rfl) (by kernel_rfl) (by kernel_rfl) (fun _ _ _ h => h) (Or.inl ⟨by kernel_rfl, ?_⟩) (by assumption) ?_
                      rotate_left
                      · intro w hSw
                        (try dsimp only at hSw)
                        go_simp
                        all_goals (with_reducible rfl)
                      (try simp only [Act.put, List.setIfInBounds_toArray, List.set_cons_zero, List.set_cons_succ])
                      refine wpAnyH_take (i := 8) (oi := { dst := some 165, op := Op.binOp BinOp.neq 9 (Operand.tmp 160) (Operand.tmp 164) 9, type := 4, pos := "law.go:314", after := #[{ on := 3, ground := Ground.data }, { on := 7, ground := Ground.data }], guard := none }) (v := ?_) rfl (by kernel_rfl) (by kernel_rfl) (by kernel_rfl) (fun _ _ _ h => h) (Or.inl ⟨by kernel_rfl, ?_⟩) (by assumption) ?_
                      rotate_left
                      · intro w hSw
                        (try dsimp only at hSw)
                        go_simp
                        all_goals (with_reducible rfl)
                      (try simp only [Act.put, List.setIfInBounds_toArray, List.set_cons_zero, List.set_cons_succ])
                      refine wpAnyH_take (i := 9) (oi := { dst := some 166, op := Op.move (Operand.tmp 165), type := 4, pos := "law.go:314", after := #[{ on := 8, ground := Ground.data }], guard := none }) (v := ?_) rfl (by kernel_rfl) (by kernel_rfl) (by kernel_rfl) (fun _ _ _ h => h) (Or.inl ⟨by kernel_rfl, ?_⟩) (by assumption) ?_
                      rotate_left
                      · intro w hSw
                        (try dsimp only at hSw)
                        go_simp
                        all_goals (with_reducible rfl)
                      (try simp only [Act.put, List.setIfInBounds_toArray, List.set_cons_zero, List.set_cons_succ])
                      refine wpAnyH_take (i := 10) (oi := { dst := some 167, op := Op.move (Operand.tmp 21), type := 22, pos := "law.go:314", after := #[{ on := 9, ground := Ground.guard }], guard := some (9, true) }) (v := undef) rfl (by kernel_rfl) (by kernel_rfl) (by kernel_rfl) (fun _ _ _ h => h) (Or.inr ⟨by kernel_rfl, rfl⟩) (by assumption) ?_
                      (try simp only [Act.put, List.setIfInBounds_toArray, List.set_cons_zero, List.set_cons_succ])
                      refine wpAnyH_take (i := 11) (oi := { dst := some 168, op := Op.move (Operand.tmp 23), type := 3, pos := "law.go:314", after := #[{ on := 9, ground := Ground.guard }], guard := some (9, true) }) (v := undef) rfl (by kernel_rfl) (by kernel_rfl) (by kernel_rfl) (fun _ _ _ h => h) (Or.inr ⟨by kernel_rfl, rfl⟩) (by assumption) ?_
                      (try simp only [Act.put, List.setIfInBounds_toArray, List.set_cons_zero, List.set_cons_succ])
                      refine wpAnyH_take (i := 12) (oi := { dst := some 169, op := Op.indexAddr 22 (Operand.tmp 167) (Operand.tmp 168), type := 0, pos := "law.go:314", after := #[{ on := 10, ground := Ground.data }, { on := 11, ground := Ground.data }, { on := 9, ground := Ground.guard }], guard := some (9, true) }) (v := undef) rfl (by kernel_rfl) (by kernel_rfl) (by kernel_rfl) (fun _ _ _ h => h) (Or.inr ⟨by kernel_rfl, rfl⟩) (by assumption) ?_
                      (try simp only [Act.put, List.setIfInBounds_toArray, List.set_cons_zero, List.set_cons_succ])
                      refine wpAnyH_take (i := 13) (oi := { dst := some 170, op := Op.load 9 (Operand.tmp 169), type := 9, pos := "law.go:314", after := #[{ on := 12, ground := Ground.data }, { on := 9, ground := Ground.guard }], guard := some (9, true) }) (v := undef) rfl (by kernel_rfl) (by kernel_rfl) (by kernel_rfl) (fun _ _ _ h => h) (Or.inr ⟨by kernel_rfl, rfl⟩) (by assumption) ?_
                      (try simp only [Act.put, List.setIfInBounds_toArray, List.set_cons_zero, List.set_cons_succ])
                      refine wpAnyH_take (i := 14) (oi := { dst := some 171, op := Op.call { callee := Callee.value (Operand.func 28), args := #[Operand.tmp 170], argTypes := #[9] }, type := 9, pos := "law.go:314", after := #[{ on := 13, ground := Ground.data }, { on := 9, ground := Ground.chain }, { on := 9, ground := Ground.guard }], guard := some (9, true) }) (v := undef) rfl (by kernel_rfl) (by kernel_rfl) (by kernel_rfl) (fun _ _ _ h => h) (Or.inr ⟨by kernel_rfl, rfl⟩) (by assumption) ?_
                      (try simp only [Act.put, List.setIfInBounds_toArray, List.set_cons_zero, List.set_cons_succ])
                      refine wpAnyH_take (i := 15) (oi := { dst := some 172, op := Op.move (Operand.tmp 22), type := 22, pos := "law.go:314", after := #[{ on := 9, ground := Ground.guard }], guard := some (9, true) }) (v := undef) rfl (by kernel_rfl) (by kernel_rfl) (by kernel_rfl) (fun _ _ _ h => h) (Or.inr ⟨by kernel_rfl, rfl⟩) (by assumption) ?_
                      (try simp only [Act.put, List.setIfInBounds_toArray, List.set_cons_zero, List.set_cons_succ])
                      refine wpAnyH_take (i := 16) (oi := { dst := some 173, op := Op.move (Operand.tmp 23), type := 3, pos := "law.go:314", after := #[{ on := 9, ground := Ground.guard }], guard := some (9, true) }) (v := undef) rfl (by kernel_rfl) (by kernel_rfl) (by kernel_rfl) (fun _ _ _ h => h) (Or.inr ⟨by kernel_rfl, rfl⟩) (by assumption) ?_
                      (try simp only [Act.put, List.setIfInBounds_toArray, List.set_cons_zero, List.set_cons_succ])
                      refine wpAnyH_take (i := 17) (oi := { dst := some 174, op := Op.indexAddr 22 (Operand.tmp 172) (Operand.tmp 173), type := 0, pos := "law.go:314", after := #[{ on := 15, ground := Ground.data }, { on := 16, ground := Ground.data }, { on := 9, ground := Ground.guard }], guard := some (9, true) }) (v := undef) rfl (by kernel_rfl) (by kernel_rfl) (by kernel_rfl) (fun _ _ _ h => h) (Or.inr ⟨by kernel_rfl, rfl⟩) (by assumption) ?_
                      (try simp only [Act.put, List.setIfInBounds_toArray, List.set_cons_zero, List.set_cons_succ])
                      refine wpAnyH_take (i := 18) (oi := { dst := some 175, op := Op.load 9 (Operand.tmp 174), type := 9, pos := "law.go:314", after := #[{ on := 17, ground := Ground.data }, { on := 9, ground := Ground.guard }], guard := some (9, true) }) (v := undef) rfl (by kernel_rfl) (by kernel_rfl) (by kernel_rfl) (fun _ _ _ h => h) (Or.inr ⟨by kernel_rfl, rfl⟩) (by assumption) ?_
                      (try simp only [Act.put, List.setIfInBounds_toArray, List.set_cons_zero, List.set_cons_succ])
                      refine wpAnyH_take (i := 19) (oi := { dst := some 176, op := Op.call { callee := Callee.value (Operand.func 28), args := #[Operand.tmp 175], argTypes := #[9] }, type := 9, pos := "law.go:314", after := #[{ on := 18, ground := Ground.data }, { on := 14, ground := Ground.chain }, { on := 9, ground := Ground.guard }], guard := some (9, true) }) (v := undef) rfl (by kernel_rfl) (by kernel_rfl) (by kernel_rfl) (fun _ _ _ h => h) (Or.inr ⟨by kernel_rfl, rfl⟩) (by assumption) ?_
                      (try simp only [Act.put, List.setIfInBounds_toArray, List.set_cons_zero, List.set_cons_succ])
                      refine wpAnyH_take (i := 20) (oi := { dst := some 177, op := Op.binOp BinOp.eql 9 (Operand.tmp 171) (Operand.tmp 176) 9, type := 4, pos := "law.go:314", after := #[{ on := 14, ground := Ground.data }, { on := 19, ground := Ground.data }, { on := 9, ground := Ground.guard }], guard := some (9, true) }) (v := undef) rfl (by kernel_rfl) (by kernel_rfl) (by kernel_rfl) (fun _ _ _ h => h) (Or.inr ⟨by kernel_rfl, rfl⟩) (by assumption) ?_
                      (try simp only [Act.put, List.setIfInBounds_toArray, List.set_cons_zero, List.set_cons_succ])
                      refine wpAnyH_take (i := 21) (oi := { dst := some 178, op := Op.pick (Operand.tmp 166) (Operand.tmp 177) (Operand.const (Value.bool false)), type := 4, pos := "law.go:314", after := #[{ on := 9, ground := Ground.data }, { on := 20, ground := Ground.data }], guard := none }) (v := ?_) rfl (by kernel_rfl) (by kernel_rfl) (by kernel_rfl) (fun _ _ _ h => h) (Or.inl ⟨by kernel_rfl, ?_⟩) (by assumption) ?_
                      rotate_left
                      · intro w hSw
                        (try dsimp only at hSw)
                        go_simp
                        all_goals (with_reducible rfl)
                      (try simp only [Act.put, List.setIfInBounds_toArray, List.set_cons_zero, List.set_cons_succ])
                      refine wpAnyH_done (by kernel_rfl) ?_ _
                      refine NoPanic.normal ?_
                      have hbD := Lib.hid hHeld.1
                      clear hHeld
                      have HN := Lib.hid (And.intro (HRW.out.1.below hbD.out) (HRW.out.2.trans (hbD.out.mono sri)))
                      clear hbD
                      go_wp2
                      go_roundw
                      case rel => exact ⟨i + 1, by omega, by go_num, HN.out.1, HN.out.2⟩
                      case measure => simp [intOf]; omega
                    · have hq1 : (sa.toList == sb.toList) = false := by
                        rw [beq_eq_false_iff_ne]
                        intro h
                        exact hsab (W01.str_toList h)
                      cases hsum : ((sumS sa).toList == (sumS sb).toList) with
                      | true =>
                        go_upto_region 36 with (fail)
                        refine wp_region_noPanic ?_
                        refine wp_region_held_drew (S := (fun w' => Below wr.heap.size wr w' ∧ w'.cell? ⟨b1, o1 + i, none⟩ = some (.string sa) ∧ w'.cell? ⟨b2, o2 + i, none⟩ = some (.string sb))) (by kernel_rfl) ⟨(Below.refl _ _).drew, HC12.out.1, HC12.out.2⟩ (fun hHeld => ?_)
                        refine wpAnyH_take (i := 0) (oi := { dst := some 157, op := Op.move (Operand.tmp 21), type := 22, pos := "law.go:314", after := #[], guard := none }) (v := ?_) rfl (by kernel_rfl) (by kernel_rfl) (by kernel_rfl) (fun _ _ _ h => h) (Or.inl ⟨by kernel_rfl, ?_⟩) (by assumption) ?_
                        rotate_left
                        · intro w hSw
                          (try dsimp only at hSw)
                          go_simp
                          all_goals (with_reducible rfl)
                        (try simp only [Act.put, List.setIfInBounds_toArray, List.set_cons_zero, List.set_cons_succ])
                        refine wpAnyH_take (i := 1) (oi := { dst := some 158, op := Op.move (Operand.tmp 23), type := 3, pos := "law.go:314", after := #[], guard := none }) (v := ?_) rfl (by kernel_rfl) (by kernel_rfl) (by kernel_rfl) (fun _ _ _ h => h) (Or.inl ⟨by kernel_rfl, ?_⟩) (by assumption) ?_
                        rotate_left
                        · intro w hSw
                          (try dsimp only at hSw)
                          go_simp
                          all_goals (with_reducible rfl)
                        (try simp only [Act.put, List.setIfInBounds_toArray, List.set_cons_zero, List.set_cons_succ])
                        refine wpAnyH_take (i := 2) (oi := { dst := some 159, op := Op.indexAddr 22 (Operand.tmp 157) (Operand.tmp 158), type := 0, pos := "law.go:314", after := #[{ on := 0, ground := Ground.data }, { on := 1, ground := Ground.data }], guard := none }) (v := ?_) rfl (by kernel_rfl) (by kernel_rfl) (by kernel_rfl) (fun _ _ _ h => h) (Or.inl ⟨by kernel_rfl, ?_⟩) (by assumption) ?_
                        rotate_left
                        · intro w hSw
                          (try dsimp only at hSw)
                          go_simp
                          all_goals (with_reducible rfl)
                        (try simp only [Act.put, List.setIfInBounds_toArray, List.set_cons_zero, List.set_cons_succ])
                        refine wpAnyH_take (i := 3) (oi := { dst := some 160, op := Op.load 9 (Operand.tmp 159), type := 9, pos := "law.go:314", after := #[{ on := 2, ground := Ground.data }], guard := none }) (v := ?_) rfl (by kernel_rfl) (by kernel_rfl) (by kernel_rfl) (fun _ _ _ h => h) (Or.inl ⟨by kernel_rfl, ?_⟩) (by assumption) ?_
                        rotate_left
                        · intro w hSw
                          (try dsimp only at hSw)
                          go_simp
                          all_goals (with_reducible rfl)
                        (try simp only [Act.put, List.setIfInBounds_toArray, List.set_cons_zero, List.set_cons_succ])
                        refine wpAnyH_take (i := 4) (oi := { dst := some 161, op := Op.move (Operand.tmp 22), type := 22, pos := "law.go:314", after := #[], guard := none }) (v := ?_) rfl (by kernel_rfl) (by kernel_rfl) (by kernel_rfl) (fun _ _ _ h => h) (Or.inl ⟨by kernel_rfl, ?_⟩) (by assumption) ?_
                        rotate_left
                        · intro w hSw
                          (try dsimp only at hSw)
                          go_simp
                          all_goals (with_reducible rfl)
                        (try simp only [Act.put, List.setIfInBounds_toArray, List.set_cons_zero, List.set_cons_succ])
                        refine wpAnyH_take (i := 5) (oi := { dst := some 162, op := Op.move (Operand.tmp 23), type := 3, pos := "law.go:314", after := #[], guard := none }) (v := ?_) rfl (by kernel_rfl) (by kernel_rfl) (by kernel_rfl) (fun _ _ _ h => h) (Or.inl ⟨by kernel_rfl, ?_⟩) (by assumption) ?_
                        rotate_left
                        · intro w hSw
                          (try dsimp only at hSw)
                          go_simp
                          all_goals (with_reducible rfl)
                        (try simp only [Act.put, List.setIfInBounds_toArray, List.set_cons_zero, List.set_cons_succ])
                        refine wpAnyH_take (i := 6) (oi := { dst := some 163, op := Op.indexAddr 22 (Operand.tmp 161) (Operand.tmp 162), type := 0, pos := "law.go:314", after := #[{ on := 4, ground := Ground.data }, { on := 5, ground := Ground.data }], guard := none }) (v := ?_) rfl (by kernel_rfl) (by kernel_rfl) (by kernel_rfl) (fun _ _ _ h => h) (Or.inl ⟨by kernel_rfl, ?_⟩) (by assumption) ?_
                        rotate_left
                        · intro w hSw
                          (try dsimp only at hSw)
                          go_simp
                          all_goals (with_reducible rfl)
                        (try simp only [Act.put, List.setIfInBounds_toArray, List.set_cons_zero, List.set_cons_succ])
                        refine wpAnyH_take (i := 7) (oi := { dst := some 164, op := Op.load 9 (Operand.tmp 163), type := 9, pos := "law.go:314", after := #[{ on := 6, ground := Ground.data }], guard := none }) (v := ?_) rfl (by kernel_rfl) (by kernel_rfl) (by kernel_rfl) (fun _ _ _ h => h) (Or.inl ⟨by kernel_rfl, ?_⟩) (by assumption) ?_
                        rotate_left
                        · intro w hSw
                          (try dsimp only at hSw)
                          go_simp
                          all_goals (with_reducible rfl)
                        (try simp only [Act.put, List.setIfInBounds_toArray, List.set_cons_zero, List.set_cons_succ])
                        refine wpAnyH_take (i := 8) (oi := { dst := some 165, op := Op.binOp BinOp.neq 9 (Operand.tmp 160) (Operand.tmp 164) 9, type := 4, pos := "law.go:314", after := #[{ on := 3, ground := Ground.data }, { on := 7, ground := Ground.data }], guard := none }) (v := ?_) rfl (by kernel_rfl) (by kernel_rfl) (by kernel_rfl) (fun _ _ _ h => h) (Or.inl ⟨by kernel_rfl, ?_⟩) (by assumption) ?_
                        rotate_left
                        · intro w hSw
                          (try dsimp only at hSw)
                          go_simp
                          all_goals (with_reducible rfl)
                        (try simp only [Act.put, List.setIfInBounds_toArray, List.set_cons_zero, List.set_cons_succ])
                        refine wpAnyH_take (i := 9) (oi := { dst := some 166, op := Op.move (Operand.tmp 165), type := 4, pos := "law.go:314", after := #[{ on := 8, ground := Ground.data }], guard := none }) (v := ?_) rfl (by kernel_rfl) (by kernel_rfl) (by kernel_rfl) (fun _ _ _ h => h) (Or.inl ⟨by kernel_rfl, ?_⟩) (by assumption) ?_
                        rotate_left
                        · intro w hSw
                          (try dsimp only at hSw)
                          go_simp
                          all_goals (with_reducible rfl)
                        (try simp only [Act.put, List.setIfInBounds_toArray, List.set_cons_zero, List.set_cons_succ])
                        refine wpAnyH_take (i := 10) (oi := { dst := some 167, op := Op.move (Operand.tmp 21), type := 22, pos := "law.go:314", after := #[{ on := 9, ground := Ground.guard }], guard := some (9, true) }) (v := ?_) rfl (by kernel_rfl) (by kernel_rfl) (by kernel_rfl) (fun _ _ _ h => h) (Or.inl ⟨by kernel_rfl, ?_⟩) (by assumption) ?_
                        rotate_left
                        · intro w hSw
                          (try dsimp only at hSw)
                          go_simp
                          all_goals (with_reducible rfl)
                        (try simp only [Act.put, List.setIfInBounds_toArray, List.set_cons_zero, List.set_cons_succ])
                        refine wpAnyH_take (i := 11) (oi := { dst := some 168, op := Op.move (Operand.tmp 23), type := 3, pos := "law.go:314", after := #[{ on := 9, ground := Ground.guard }], guard := some (9, true) }) (v := ?_) rfl (by kernel_rfl) (by kernel_rfl) (by kernel_rfl) (fun _ _ _ h => h) (Or.inl ⟨by kernel_rfl, ?_⟩) (by assumption) ?_
                        rotate_left
                        · intro w hSw
                          (try dsimp only at hSw)
                          go_simp
                          all_goals (with_reducible rfl)
                        (try simp only [Act.put, List.setIfInBounds_toArray, List.set_cons_zero, List.set_cons_succ])
                        refine wpAnyH_take (i := 12) (oi := { dst := some 169, op := Op.indexAddr 22 (Operand.tmp 167) (Operand.tmp 168), type := 0, pos := "law.go:314", after := #[{ on := 10, ground := Ground.data }, { on := 11, ground := Ground.data }, { on := 9, ground := Ground.guard }], guard := some (9, true) }) (v := ?_) rfl (by kernel_rfl) (by kernel_rfl) (by kernel_rfl) (fun _ _ _ h => h) (Or.inl ⟨by kernel_rfl, ?_⟩) (by assumption) ?_
                        rotate_left
                        · intro w hSw
                          (try dsimp only at hSw)
                          go_simp
                          all_goals (with_reducible rfl)
                        (try simp only [Act.put, List.setIfInBounds_toArray, List.set_cons_zero, List.set_cons_succ])
                        refine wpAnyH_take (i := 13) (oi := { dst := some 170, op := Op.load 9 (Operand.tmp 169), type := 9, pos := "law.go:314", after := #[{ on := 12, ground := Ground.data }, { on := 9, ground := Ground.guard }], guard := some (9, true) }) (v := ?_) rfl (by kernel_rfl) (by kernel_rfl) (by kernel_rfl) (fun _ _ _ h => h) (Or.inl ⟨by kernel_rfl, ?_⟩) (by assumption) ?_
                        rotate_left
                        · intro w hSw
                          (try dsimp only at hSw)
                          go_simp
                          all_goals (with_reducible rfl)
                        (try simp only [Act.put, List.setIfInBounds_toArray, List.set_cons_zero, List.set_cons_succ])
                        refine wpAnyH_take (i := 15) (oi := { dst := some 172, op := Op.move (Operand.tmp 22), type := 22, pos := "law.go:314", after := #[{ on := 9, ground := Ground.guard }], guard := some (9, true) }) (v := ?_) rfl (by kernel_rfl) (by kernel_rfl) (by kernel_rfl) (fun _ _ _ h => h) (Or.inl ⟨by kernel_rfl, ?_⟩) (by assumption) ?_
                        rotate_left
                        · intro w hSw
                          (try dsimp only at hSw)
                          go_simp
                          all_goals (with_reducible rfl)
                        (try simp only [Act.put, List.setIfInBounds_toArray, List.set_cons_zero, List.set_cons_succ])
                        refine wpAnyH_take (i := 16) (oi := { dst := some 173, op := Op.move (Operand.tmp 23), type := 3, pos := "law.go:314", after := #[{ on := 9, ground := Ground.guard }], guard := some (9, true) }) (v := ?_) rfl (by kernel_rfl) (by kernel_rfl) (by kernel_rfl) (fun _ _ _ h => h) (Or.inl ⟨by kernel_rfl, ?_⟩) (by assumption) ?_
                        rotate_left
                        · intro w hSw
                          (try dsimp only at hSw)
                          go_simp
                          all_goals (with_reducible rfl)
                        (try simp only [Act.put, List.setIfInBounds_toArray, List.set_cons_zero, List.set_cons_succ])
                        refine wpAnyH_take (i := 17) (oi := { dst := some 174, op := Op.indexAddr 22 (Operand.tmp 172) (Operand.tmp 173), type := 0, pos := "law.go:314", after := #[{ on := 15, ground := Ground.data }, { on := 16, ground := Ground.data }, { on := 9, ground := Ground.guard }], guard := some (9, true) }) (v := ?_) rfl (by kernel_rfl) (by kernel_rfl) (by kernel_rfl) (fun _ _ _ h => h) (Or.inl ⟨by kernel_rfl, ?_⟩) (by assumption) ?_
                        rotate_left
                        · intro w hSw
                          (try dsimp only at hSw)
                          go_simp
                          all_goals (with_reducible rfl)
                        (try simp only [Act.put, List.setIfInBounds_toArray, List.set_cons_zero, List.set_cons_succ])
                        refine wpAnyH_take (i := 18) (oi := { dst := some 175, op := Op.load 9 (Operand.tmp 174), type := 9, pos := "law.go:314", after := #[{ on := 17, ground := Ground.data }, { on := 9, ground := Ground.guard }], guard := some (9, true) }) (v := ?_) rfl (by kernel_rfl) (by kernel_rfl) (by kernel_rfl) (fun _ _ _ h => h) (Or.inl ⟨by kernel_rfl, ?_⟩) (by assumption) ?_
                        rotate_left
                        · intro w hSw
                          (try dsimp only at hSw)
                          go_simp
                          all_goals (with_reducible rfl)
                        (try simp only [Act.put, List.setIfInBounds_toArray, List.set_cons_zero, List.set_cons_succ])
                        refine wpAnyH_one1 (i := 14) (o := { dst := some 171, op := Op.call { callee := Callee.value (Operand.func 28), args := #[Operand.tmp 170], argTypes := #[9] }, type := 9, pos := "law.go:314", after := #[{ on := 13, ground := Ground.data }, { on := 9, ground := Ground.chain }, { on := 9, ground := Ground.guard }], guard := some (9, true) }) (by kernel_rfl) rfl (fun K hK => ?_)
                        go_simp
                        go_at_call 28
                        refine (sum28 sa _ HSZS.out.1).mono ?_
                        rintro e wS ⟨rfl, hb9⟩
                        refine hK.out _ _ ?_ (fun hHeld2 => ?_)
                        · exact ⟨hHeld.1.trans (hb9.mono hHeld.1.size), (hb9.cell (p := ⟨b1, o1 + i, none⟩) (Nat.lt_of_lt_of_le HLT.out.1 hHeld.1.size)).trans hHeld.2.1, (hb9.cell (p := ⟨b2, o2 + i, none⟩) (Nat.lt_of_lt_of_le HLT.out.2 hHeld.1.size)).trans hHeld.2.2⟩
                        clear hHeld
                        have hHeld := hHeld2
                        clear hHeld2
                        clear hK K
                        (try simp only [Act.put, List.setIfInBounds_toArray, List.set_cons_zero, List.set_cons_succ])
                        refine wpAnyH_one1 (i := 19) (o := { dst := some 176, op := Op.call { callee := Callee.value (Operand.func 28), args := #[Operand.tmp 175], argTypes := #[9] }, type := 9, pos := "law.go:314", after := #[{ on := 18, ground := Ground.data }, { on := 14, ground := Ground.chain }, { on := 9, ground := Ground.guard }], guard := some (9, true) }) (by kernel_rfl) rfl (fun K hK => ?_)
                        go_simp
                        go_at_call 28
                        refine (sum28 sb _ HSZS.out.2).mono ?_
                        rintro e wS2 ⟨rfl, hb9⟩
                        refine hK.out _ _ ?_ (fun hHeld2 => ?_)
                        · exact ⟨hHeld.1.trans (hb9.mono hHeld.1.size), (hb9.cell (p := ⟨b1, o1 + i, none⟩) (Nat.lt_of_lt_of_le HLT.out.1 hHeld.1.size)).trans hHeld.2.1, (hb9.cell (p := ⟨b2, o2 + i, none⟩) (Nat.lt_of_lt_of_le HLT.out.2 hHeld.1.size)).trans hHeld.2.2⟩
                        clear hHeld
                        have hHeld := hHeld2
                        clear hHeld2
                        clear hK K
                        (try simp only [Act.put, List.setIfInBounds_toArray, List.set_cons_zero, List.set_cons_succ])
                        refine wpAnyH_take (i := 20) (oi := { dst := some 177, op := Op.binOp BinOp.eql 9 (Operand.tmp 171) (Operand.tmp 176) 9, type := 4, pos := "law.go:314", after := #[{ on := 14, ground := Ground.data }, { on := 19, ground := Ground.data }, { on := 9, ground := Ground.guard }], guard := some (9, true) }) (v := ?_) rfl (by kernel_rfl) (by kernel_rfl) (by kernel_rfl) (fun _ _ _ h => h) (Or.inl ⟨by kernel_rfl, ?_⟩) (by assumption) ?_
                        rotate_left
                        · intro w hSw
                          (try dsimp only at hSw)
                          go_simp
                          all_goals (with_reducible rfl)
                        (try simp only [Act.put, List.setIfInBounds_toArray, List.set_cons_zero, List.set_cons_succ])
                        refine wpAnyH_take (i := 21) (oi := { dst := some 178, op := Op.pick (Operand.tmp 166) (Operand.tmp 177) (Operand.const (Value.bool false)), type := 4, pos := "law.go:314", after := #[{ on := 9, ground := Ground.data }, { on := 20, ground := Ground.data }], guard := none }) (v := ?_) rfl (by kernel_rfl) (by kernel_rfl) (by kernel_rfl) (fun _ _ _ h => h) (Or.inl ⟨by kernel_rfl, ?_⟩) (by assumption) ?_
                        rotate_left
                        · intro w hSw
                          (try dsimp only at hSw)
                          go_simp
                          all_goals (with_reducible rfl)
                        (try simp only [Act.put, List.setIfInBounds_toArray, List.set_cons_zero, List.set_cons_succ])
                        refine wpAnyH_done (by kernel_rfl) ?_ _
                        refine NoPanic.normal ?_
                        have hbD := Lib.hid hHeld.1
                        clear hHeld
                        have hfin := HB1.out.trans ((HRW.out.2.trans (hbD.out.mono sri)).mono HB1.out.size)
                        clear hbD
                        go_wp2
                        go_ret
                        exact ⟨rfl, hfin⟩
                      | false =>
                        have hne0 : i ≠ i0 := fun e => by
                          subst e
                          have e1 := Option.some.inj (HEI.out.1.symm.trans HQ.out.1)
                          have e2 := Option.some.inj (HEI.out.2.symm.trans HQ.out.2.1)
                          have := HQ.out.2.2.2
                          rw [← e1, ← e2] at this
                          rw [this] at hsum
                          simp at hsum
                        go_upto_region 36 with (fail)
                        refine wp_region_noPanic ?_
                        refine wp_region_held_drew (S := (fun w' => Below wr.heap.size wr w' ∧ w'.cell? ⟨b1, o1 + i, none⟩ = some (.string sa) ∧ w'.cell? ⟨b2, o2 + i, none⟩ = some (.string sb))) (by kernel_rfl) ⟨(Below.refl _ _).drew, HC12.out.1, HC12.out.2⟩ (fun hHeld => ?_)
                        refine wpAnyH_take (i := 0) (oi := { dst := some 157, op := Op.move (Operand.tmp 21), type := 22, pos := "law.go:314", after := #[], guard := none }) (v := ?_) rfl (by kernel_rfl) (by kernel_rfl) (by kernel_rfl) (fun _ _ _ h => h) (Or.inl ⟨by kernel_rfl, ?_⟩) (by assumption) ?_
                        rotate_left
                        · intro w hSw
                          (try dsimp only at hSw)
                          go_simp
                          all_goals (with_reducible rfl)
                        (try simp only [Act.put, List.setIfInBounds_toArray, List.set_cons_zero, List.set_cons_succ])
                        refine wpAnyH_take (i := 1) (oi := { dst := some 158, op := Op.move (Operand.tmp 23), type := 3, pos := "law.go:314", after := #[], guard := none }) (v := ?_) rfl (by kernel_rfl) (by kernel_rfl) (by kernel_rfl) (fun _ _ _ h => h) (Or.inl ⟨by kernel_rfl, ?_⟩) (by assumption) ?_
                        rotate_left
                        · intro w hSw
                          (try dsimp only at hSw)
                          go_simp
                          all_goals (with_reducible rfl)
                        (try simp only [Act.put, List.setIfInBounds_toArray, List.set_cons_zero, List.set_cons_succ])
                        refine wpAnyH_take (i := 2) (oi := { dst := some 159, op := Op.indexAddr 22 (Operand.tmp 157) (Operand.tmp 158), type := 0, pos := "law.go:314", after := #[{ on := 0, ground := Ground.data }, { on := 1, ground := Ground.data }], guard := none }) (v := ?_) rfl (by kernel_rfl) (by kernel_rfl) (by kernel_rfl) (fun _ _ _ h => h) (Or.inl ⟨by kernel_rfl, ?_⟩) (by assumption) ?_
                        rotate_left
                        · intro w hSw
                          (try dsimp only at hSw)
                          go_simp
                          all_goals (with_reducible rfl)
                        (try simp only [Act.put, List.setIfInBounds_toArray, List.set_cons_zero, List.set_cons_succ])
                        refine wpAnyH_take (i := 3) (oi := { dst := some 160, op := Op.load 9 (Operand.tmp 159), type := 9, pos := "law.go:314", after := #[{ on := 2, ground := Ground.data }], guard := none }) (v := ?_) rfl (by kernel_rfl) (by kernel_rfl) (by kernel_rfl) (fun _ _ _ h => h) (Or.inl ⟨by kernel_rfl, ?_⟩) (by assumption) ?_
                        rotate_left
                        · intro w hSw
                          (try dsimp only at hSw)
                          go_simp
                          all_goals (with_reducible rfl)
                        (try simp only [Act.put, List.setIfInBounds_toArray, List.set_cons_zero, List.set_cons_succ])
                        refine wpAnyH_take (i := 4) (oi := { dst := some 161, op := Op.move (Operand.tmp 22), type := 22, pos := "law.go:314", after := #[], guard := none }) (v := ?_) rfl (by kernel_rfl) (by kernel_rfl) (by kernel_rfl) (fun _ _ _ h => h) (Or.inl ⟨by kernel_rfl, ?_⟩) (by assumption) ?_
                        rotate_left
                        · intro w hSw
                          (try dsimp only at hSw)
                          go_simp
                          all_goals (with_reducible rfl)
                        (try simp only [Act.put, List.setIfInBounds_toArray, List.set_cons_zero, List.set_cons_succ])
                        refine wpAnyH_take (i := 5) (oi := { dst := some 162, op := Op.move (Operand.tmp 23), type := 3, pos := "law.go:314", after := #[], guard := none }) (v := ?_) rfl (by kernel_rfl) (by kernel_rfl) (by kernel_rfl) (fun _ _ _ h => h) (Or.inl ⟨by kernel_rfl, ?_⟩) (by assumption) ?_
                        rotate_left
                        · intro w hSw
                          (try dsimp only at hSw)
                          go_simp
                          all_goals (with_reducible rfl)
                        (try simp only [Act.put, List.setIfInBounds_toArray, List.set_cons_zero, List.set_cons_succ])
                        refine wpAnyH_take (i := 6) (oi := { dst := some 163, op := Op.indexAddr 22 (Operand.tmp 161) (Operand.tmp 162), type := 0, pos := "law.go:314", after := #[{ on := 4, ground := Ground.data }, { on := 5, ground := Ground.data }], guard := none }) (v := ?_) rfl (by kernel_rfl) (by kernel_rfl) (by kernel_rfl) (fun _ _ _ h => h) (Or.inl ⟨by kernel_rfl, ?_⟩) (by assumption) ?_
                        rotate_left
                        · intro w hSw
                          (try dsimp only at hSw)
                          go_simp
                          all_goals (with_reducible rfl)
                        (try simp only [Act.put, List.setIfInBounds_toArray, List.set_cons_zero, List.set_cons_succ])
                        refine wpAnyH_take (i := 7) (oi := { dst := some 164, op := Op.load 9 (Operand.tmp 163), type := 9, pos := "law.go:314", after := #[{ on := 6, ground := Ground.data }], guard := none }) (v := ?_) rfl (by kernel_rfl) (by kernel_rfl) (by kernel_rfl) (fun _ _ _ h => h) (Or.inl ⟨by kernel_rfl, ?_⟩) (by assumption) ?_
                        rotate_left
                        · intro w hSw
                          (try dsimp only at hSw)
                          go_simp
                          all_goals (with_reducible rfl)
                        (try simp only [Act.put, List.setIfInBounds_toArray, List.set_cons_zero, List.set_cons_succ])
                        refine wpAnyH_take (i := 8) (oi := { dst := some 165, op := Op.binOp BinOp.neq 9 (Operand.tmp 160) (Operand.tmp 164) 9, type := 4, pos := "law.go:314", after := #[{ on := 3, ground := Ground.data }, { on := 7, ground := Ground.data }], guard := none }) (v := ?_) rfl (by kernel_rfl) (by kernel_rfl) (by kernel_rfl) (fun _ _ _ h => h) (Or.inl ⟨by kernel_rfl, ?_⟩) (by assumption) ?_
                        rotate_left
                        · intro w hSw
                          (try dsimp only at hSw)
                          go_simp
                          all_goals (with_reducible rfl)
                        (try simp only [Act.put, List.setIfInBounds_toArray, List.set_cons_zero, List.set_cons_succ])
                        refine wpAnyH_take (i := 9) (oi := { dst := some 166, op := Op.move (Operand.tmp 165), type := 4, pos := "law.go:314", after := #[{ on := 8, ground := Ground.data }], guard := none }) (v := ?_) rfl (by kernel_rfl) (by kernel_rfl) (by kernel_rfl) (fun _ _ _ h => h) (Or.inl ⟨by kernel_rfl, ?_⟩) (by assumption) ?_
                        rotate_left
                        · intro w hSw
                          (try dsimp only at hSw)
                          go_simp
                          all_goals (with_reducible rfl)
                        (try simp only [Act.put, List.setIfInBounds_toArray, List.set_cons_zero, List.set_cons_succ])
                        refine wpAnyH_take (i := 10) (oi := { dst := some 167, op := Op.move (Operand.tmp 21), type := 22, pos := "law.go:314", after := #[{ on := 9, ground := Ground.guard }], guard := some (9, true) }) (v := ?_) rfl (by kernel_rfl) (by kernel_rfl) (by kernel_rfl) (fun _ _ _ h => h) (Or.inl ⟨by kernel_rfl, ?_⟩) (by assumption) ?_
                        rotate_left
                        · intro w hSw
                          (try dsimp only at hSw)
                          go_simp
                          all_goals (with_reducible rfl)
                        (try simp only [Act.put, List.setIfInBounds_toArray, List.set_cons_zero, List.set_cons_succ])
                        refine wpAnyH_take (i := 11) (oi := { dst := some 168, op := Op.move (Operand.tmp 23), type := 3, pos := "law.go:314", after := #[{ on := 9, ground := Ground.guard }], guard := some (9, true) }) (v := ?_) rfl (by kernel_rfl) (by kernel_rfl) (by kernel_rfl) (fun _ _ _ h => h) (Or.inl ⟨by kernel_rfl, ?_⟩) (by assumption) ?_
                        rotate_left
                        · intro w hSw
                          (try dsimp only at hSw)
                          go_simp
                          all_goals (with_reducible rfl)
                        (try simp only [Act.put, List.setIfInBounds_toArray, List.set_cons_zero, List.set_cons_succ])
                        refine wpAnyH_take (i := 12) (oi := { dst := some 169, op := Op.indexAddr 22 (Operand.tmp 167) (Operand.tmp 168), type := 0, pos := "law.go:314", after := #[{ on := 10, ground := Ground.data }, { on := 11, ground := Ground.data }, { on := 9, ground := Ground.guard }], guard := some (9, true) }) (v := ?_) rfl (by kernel_rfl) (by kernel_rfl) (by kernel_rfl) (fun _ _ _ h => h) (Or.inl ⟨by kernel_rfl, ?_⟩) (by assumption) ?_
                        rotate_left
                        · intro w hSw
                          (try dsimp only at hSw)
                          go_simp
                          all_goals (with_reducible rfl)
                        (try simp only [Act.put, List.setIfInBounds_toArray, List.set_cons_zero, List.set_cons_succ])
                        refine wpAnyH_take (i := 13) (oi := { dst := some 170, op := Op.load 9 (Operand.tmp 169), type := 9, pos := "law.go:314", after := #[{ on := 12, ground := Ground.data }, { on := 9, ground := Ground.guard }], guard := some (9, true) }) (v := ?_) rfl (by kernel_rfl) (by kernel_rfl) (by kernel_rfl) (fun _ _ _ h => h) (Or.inl ⟨by kernel_rfl, ?_⟩) (by assumption) ?_
                        rotate_left
                        · intro w hSw
                          (try dsimp only at hSw)
                          go_simp
                          all_goals (with_reducible rfl)
                        (try simp only [Act.put, List.setIfInBounds_toArray, List.set_cons_zero, List.set_cons_succ])
                        refine wpAnyH_take (i := 15) (oi := { dst := some 172, op := Op.move (Operand.tmp 22), type := 22, pos := "law.go:314", after := #[{ on := 9, ground := Ground.guard }], guard := some (9, true) }) (v := ?_) rfl (by kernel_rfl) (by kernel_rfl) (by kernel_rfl) (fun _ _ _ h => h) (Or.inl ⟨by kernel_rfl, ?_⟩) (by assumption) ?_
                        rotate_left
                        · intro w hSw
                          (try dsimp only at hSw)
                          go_simp
                          all_goals (with_reducible rfl)
                        (try simp only [Act.put, List.setIfInBounds_toArray, List.set_cons_zero, List.set_cons_succ])
                        refine wpAnyH_take (i := 16) (oi := { dst := some 173, op := Op.move (Operand.tmp 23), type := 3, pos := "law.go:314", after := #[{ on := 9, ground := Ground.guard }], guard := some (9, true) }) (v := ?_) rfl (by kernel_rfl) (by kernel_rfl) (by kernel_rfl) (fun _ _ _ h => h) (Or.inl ⟨by kernel_rfl, ?_⟩) (by assumption) ?_
                        rotate_left
                        · intro w hSw
                          (try dsimp only at hSw)
                          go_simp
                          all_goals (with_reducible rfl)
                        (try simp only [Act.put, List.setIfInBounds_toArray, List.set_cons_zero, List.set_cons_succ])
                        refine wpAnyH_take (i := 17) (oi := { dst := some 174, op := Op.indexAddr 22 (Operand.tmp 172) (Operand.tmp 173), type := 0, pos := "law.go:314", after := #[{ on := 15, ground := Ground.data }, { on := 16, ground := Ground.data }, { on := 9, ground := Ground.guard }], guard := some (9, true) }) (v := ?_) rfl (by kernel_rfl) (by kernel_rfl) (by kernel_rfl) (fun _ _ _ h => h) (Or.inl ⟨by kernel_rfl, ?_⟩) (by assumption) ?_
                        rotate_left
                        · intro w hSw
                          (try dsimp only at hSw)
                          go_simp
                          all_goals (with_reducible rfl)
                        (try simp only [Act.put, List.setIfInBounds_toArray, List.set_cons_zero, List.set_cons_succ])
                        refine wpAnyH_take (i := 18) (oi := { dst := some 175, op := Op.load 9 (Operand.tmp 174), type := 9, pos := "law.go:314", after := #[{ on := 17, ground := Ground.data }, { on := 9, ground := Ground.guard }], guard := some (9, true) }) (v := ?_) rfl (by kernel_rfl) (by kernel_rfl) (by kernel_rfl) (fun _ _ _ h => h) (Or.inl ⟨by kernel_rfl, ?_⟩) (by assumption) ?_
                        rotate_left
                        · intro w hSw
                          (try dsimp only at hSw)
                          go_simp
                          all_goals (with_reducible rfl)
                        (try simp only [Act.put, List.setIfInBounds_toArray, List.set_cons_zero, List.set_cons_succ])
                        refine wpAnyH_one1 (i := 14) (o := { dst := some 171, op := Op.call { callee := Callee.value (Operand.func 28), args := #[Operand.tmp 170], argTypes := #[9] }, type := 9, pos := "law.go:314", after := #[{ on := 13, ground := Ground.data }, { on := 9, ground := Ground.chain }, { on := 9, ground := Ground.guard }], guard := some (9, true) }) (by kernel_rfl) rfl (fun K hK => ?_)
                        go_simp
                        go_at_call 28
                        refine (sum28 sa _ HSZS.out.1).mono ?_
                        rintro e wS ⟨rfl, hb9⟩
                        refine hK.out _ _ ?_ (fun hHeld2 => ?_)
                        · exact ⟨hHeld.1.trans (hb9.mono hHeld.1.size), (hb9.cell (p := ⟨b1, o1 + i, none⟩) (Nat.lt_of_lt_of_le HLT.out.1 hHeld.1.size)).trans hHeld.2.1, (hb9.cell (p := ⟨b2, o2 + i, none⟩) (Nat.lt_of_lt_of_le HLT.out.2 hHeld.1.size)).trans hHeld.2.2⟩
                        clear hHeld
                        have hHeld := hHeld2
                        clear hHeld2
                        clear hK K
                        (try simp only [Act.put, List.setIfInBounds_toArray, List.set_cons_zero, List.set_cons_succ])
                        refine wpAnyH_one1 (i := 19) (o := { dst := some 176, op := Op.call { callee := Callee.value (Operand.func 28), args := #[Operand.tmp 175], argTypes := #[9] }, type := 9, pos := "law.go:314", after := #[{ on := 18, ground := Ground.data }, { on := 14, ground := Ground.chain }, { on := 9, ground := Ground.guard }], guard := some (9, true) }) (by kernel_rfl) rfl (fun K hK => ?_)
                        go_simp
                        go_at_call 28
                        refine (sum28 sb _ HSZS.out.2).mono ?_
                        rintro e wS2 ⟨rfl, hb9⟩
                        refine hK.out _ _ ?_ (fun hHeld2 => ?_)
                        · exact ⟨hHeld.1.trans (hb9.mono hHeld.1.size), (hb9.cell (p := ⟨b1, o1 + i, none⟩) (Nat.lt_of_lt_of_le HLT.out.1 hHeld.1.size)).trans hHeld.2.1, (hb9.cell (p := ⟨b2, o2 + i, none⟩) (Nat.lt_of_lt_of_le HLT.out.2 hHeld.1.size)).trans hHeld.2.2⟩
                        clear hHeld
                        have hHeld := hHeld2
                        clear hHeld2
                        clear hK K
                        (try simp only [Act.put, List.setIfInBounds_toArray, List.set_cons_zero, List.set_cons_succ])
                        refine wpAnyH_take (i := 20) (oi := { dst := some 177, op := Op.binOp BinOp.eql 9 (Operand.tmp 171) (Operand.tmp 176) 9, type := 4, pos := "law.go:314", after := #[{ on := 14, ground := Ground.data }, { on := 19, ground := Ground.data }, { on := 9, ground := Ground.guard }], guard := some (9, true) }) (v := ?_) rfl (by kernel_rfl) (by kernel_rfl) (by kernel_rfl) (fun _ _ _ h => h) (Or.inl ⟨by kernel_rfl, ?_⟩) (by assumption) ?_
                        rotate_left
                        · intro w hSw
                          (try dsimp only at hSw)
                          go_simp
                          all_goals (with_reducible rfl)
                        (try simp only [Act.put, List.setIfInBounds_toArray, List.set_cons_zero, List.set_cons_succ])
                        refine wpAnyH_take (i := 21) (oi := { dst := some 178, op := Op.pick (Operand.tmp 166) (Operand.tmp 177) (Operand.const (Value.bool false)), type := 4, pos := "law.go:314", after := #[{ on := 9, ground := Ground.data }, { on := 20, ground := Ground.data }], guard := none }) (v := ?_) rfl (by kernel_rfl) (by kernel_rfl) (by kernel_rfl) (fun _ _ _ h => h) (Or.inl ⟨by kernel_rfl, ?_⟩) (by assumption) ?_
                        rotate_left
                        · intro w hSw
                          (try dsimp only at hSw)
                          go_simp
                          all_goals (with_reducible rfl)
                        (try simp only [Act.put, List.setIfInBounds_toArray, List.set_cons_zero, List.set_cons_succ])
                        refine wpAnyH_done (by kernel_rfl) ?_ _
                        refine NoPanic.normal ?_
                        have hbD := Lib.hid hHeld.1
                        clear hHeld
                        have HN := Lib.hid (And.intro (HRW.out.1.below hbD.out) (HRW.out.2.trans (hbD.out.mono sri)))
                        clear hbD
                        go_wp2
                        go_roundw
                        case rel => exact ⟨i + 1, by omega, by go_num, HN.out.1, HN.out.2⟩
                        case measure => simp [intOf]; omega)
end Go.Proofs.YtnckpnbecmmcpaaGreatDoor

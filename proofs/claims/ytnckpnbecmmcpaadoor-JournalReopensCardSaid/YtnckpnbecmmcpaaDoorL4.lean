/- nadirlaw34.JournalReopens: the walk. -/
import Derived.Test.YtnckpnbecmmcpaaDoorJL
import Derived.Test.YtnckpnbecmmcpaaDoorJN
import Derived.Test.YtnckpnbecmmcpaaDoorDP
namespace Go.Proofs.YtnckpnbecmmcpaaDoor
open Go.RowKit Lib
set_option maxRecDepth 100000 in
set_option maxHeartbeats 8000000 in
theorem law_reopens (n : Int) (vg : Value) (groups : List (List ByteArray)) (w : World) (hE : EnvJ w) (hn : InR n) (hg : GrpsAt w vg groups) :
    Calls Tryd.prog 4 #[.int .i64 n, vg] w fun e w' => e = .returned (.bool true) ∧ Below w.heap.size w w' := by
  have h3 : 4 < w.heap.size := hE.1.1
  have HE := Lib.hid (fun W (hb : Below w.heap.size w W) => hE.below h3 hb)
  have hsane := Lib.hid (sane8 w hE)
  have hsz := Lib.hid (fun W => size15 n W hn)
  obtain ⟨hN1, hN2⟩ := sizeN_bd n
  generalize sizeN n = N at hsz hN1 hN2
  have hnew := Lib.hid (fun W => new_own N W hN1 (by omega))
  have hg0 := Good.new (n := N) hN1 (by omega)
  obtain ⟨oe1, ol1, g1, l1⟩ := open_good hg0 rfl
  generalize hD1 : openD N (newD N) = D1 at g1 l1
  have P1 := Lib.hid (And.intro oe1 (And.intro ol1 hD1))
  have HI := Lib.hid (And.intro g1 l1)
  clear oe1 ol1 hD1 g1 l1 hg0 hn
  obtain ⟨ga, gc, rfl, hgl1, hgl2⟩ := hg.len
  have HG := Lib.hid hg
  unfold maxLen at hgl2
  clear hg hE
  go_enter Tryd.func4, Tryd.ntmps4
  go_wp2_with fail
  refine hsane.out.mono ?_
  rintro e w1 ⟨rfl, b1⟩
  go_wp2_with fail
  refine (hsz.out _).mono ?_
  rintro e wq ⟨rfl, rfl⟩
  go_wp2_with fail
  refine (hnew.out _).mono ?_
  rintro e w2 ⟨B, rfl, h2, b2⟩
  have s2 := b2.size
  go_wp2_with fail
  have b2' := b1.trans (b2.mono b1.size)
  refine (sys_open h2 s2 (HE.out _ b2') (by show ([] : List WrD).length ≤ 90000; decide) (by omega)).mono ?_
  rw [P1.out.1, P1.out.2.1, P1.out.2.2]
  rintro e w3 ⟨⟨hcon, -⟩ | ⟨-, Jb, rfl, h3'⟩, -, b3⟩
  · exact absurd rfl hcon
  have b3' := b2.trans b3
  have HB1 := Lib.hid b1
  clear b1 b2 b2' b3 h2 s2 hsane hnew P1
  go_wp2
  go_loopw [10] (fun u10 wr => ∃ (k : Nat) (L : List ByteArray) (D : DiskD), k ≤ groups.length ∧ k ≤ 8 ∧ u10 = .int .i64 k ∧ SysB w1.heap.size wr Jb B N ⟨L, false⟩ D ∧ Hid (Good N L D ∧ D.left = 0) ∧ Below w1.heap.size w1 wr) (fun u10 _ => (8 - intOf u10).toNat)
  case atStart => exact ⟨0, [], D1, by omega, by omega, rfl, h3', HI, b3'⟩
  case round =>
    clear HI h3'
    obtain ⟨k, L, D, hkl, hk8, rfl, hS, hI, hBr⟩ := hrel
    rename World => wr
    have sr := hBr.size
    have hLn : L.length ≤ N := by have := tapeN_len L; have := hI.out.1.full.2.1; omega
    have htn := hI.out.1.full.2.1
    have hpe : D.pend.length ≤ 90000 := by rw [hI.out.1.pend]; exact Nat.zero_le _
    have HSS := Lib.hid (And.intro hS hBr)
    by_cases hkk : k < groups.length ∧ k < 8
    · obtain ⟨hkl, hk8⟩ := hkk
      have hx := List.getElem?_eq_getElem hkl
      generalize groups[k] = g at hx
      obtain ⟨gb, go, vq, rfl, cg0, hvq0, hgs⟩ := HG.out.get hx
      have hBw := HB1.out.trans (hBr.mono HB1.out.size)
      have cg := (hBw.cell (World.block_lt_of_cell? _ _ cg0)).trans cg0
      have hvq := hvq0.below hBw
      have hki : (0 : Int) ≤ (k : Int) ∧ (k : Int) < (groups.length : Int) := by omega
      have hfl := fewL_len g
      have HF := Lib.hid hI.out.1.full
      clear cg0 hvq0 hS hBr
      go_wp2_with fail
      refine (few11 vq g wr hvq hgs).mono ?_
      rintro e w5 ⟨v5, rfl, ho5, b5⟩
      have s5 := b5.size
      have h5 := HSS.out.1.below b5
      have B5 := HSS.out.2.trans (b5.mono sr)
      clear cg hvq
      go_wp2_with fail
      refine (sys_append h5 B5.size (HE.out _ (HB1.out.trans (B5.mono HB1.out.size))) hpe (by omega) HF.out.2.1 HF.out.1 v5 (fewL g) (strs_own ho5) (by omega)).mono ?_
      rcases app_on hI.out.1 hI.out.2 (fun t ht => Nat.le_trans (fewL_size g t ht) (show 100 ≤ 65536 by decide)) with ⟨-, E1, E2, GG, LL⟩ | ⟨-, E1, E2, E3⟩
      · have HG6 := Lib.hid (And.intro GG LL)
        rw [E1, E2]
        rintro e w6 ⟨rfl, h6, b6⟩
        have HX := Lib.hid (And.intro h6 (B5.trans b6))
        clear h6 b6 h5 B5 ho5 b5 GG LL E1 E2
        go_wp2
        go_roundw
        case rel => exact ⟨k + 1, _, _, by omega, by omega, by go_num, HX.out.1, HG6, HX.out.2⟩
        case measure => simp [intOf]; omega
      · have HG6 := hI
        rw [E1, E2, E3]
        rintro e w6 ⟨rfl, h6, b6⟩
        have HX := Lib.hid (And.intro h6 (B5.trans b6))
        clear h6 b6 h5 B5 ho5 b5 E1 E2 E3
        go_wp2
        go_roundw
        case rel => exact ⟨k + 1, _, _, by omega, by omega, by go_num, HX.out.1, HG6, HX.out.2⟩
        case measure => simp [intOf]; omega
    · have hgc := hI.out.1.cut 1 (by decide) (by decide)
      obtain ⟨oe, ol, od, osz⟩ := open_any hgc
      have hpe2 : (cutD D 1).pend.length ≤ 90000 := by rw [hgc.pend]; exact Nat.zero_le _
      have hp0 : ((cutD D 1).pend.length : Nat) = 0 := by rw [hgc.pend]; rfl
      have P2 := Lib.hid (And.intro oe (And.intro ol od))
      clear hS hBr oe ol od hgc
      go_wp2_with fail
      all_goals (
        refine (sys_cut HSS.out.1 sr 1 (by decide)).mono ?_
        rintro e w4 ⟨rfl, h4, b4⟩
        have B4 := HSS.out.2.trans b4
        have s4 := B4.size
        generalize cutD D 1 = DX at *
        go_wp2_with fail
        refine (rs_reopen h4 (RowsAt.nil _) s4 (HE.out _ (HB1.out.trans (B4.mono HB1.out.size))) hpe2 (by omega)).mono ?_
        unfold Opened
        rw [P2.out.1, P2.out.2.1, P2.out.2.2]
        rintro e w5 ⟨⟨hcon, -⟩ | ⟨-, K, rfl, hKb, k5⟩, h5, -, b5⟩
        · exact absurd rfl hcon
        have B5 := B4.trans b5
        have s5 := B5.size
        have hS5 : SysB w1.heap.size w5 K B N ⟨L, false⟩ DX := ⟨h5.own, k5.mono (Nat.zero_le _), by omega⟩
        clear k5 b5 h4 b4 B4
        go_wp2_with fail
        refine (sys_records h5 (by show L.length ≤ _; omega)).mono ?_
        rintro e w6 ⟨v6, rfl, hv6, h6, b6⟩
        have hS6 := hS5.below b6
        have B6 := B5.trans (b6.mono s5)
        have s6 := B6.size
        have hv6 : StrsAt w6 v6 L := hv6
        clear b6 h5 hS5 B5
        go_wp2_with fail
        refine (sys_records hS6 (by show L.length ≤ _; omega)).mono ?_
        rintro e w7 ⟨v7, rfl, hv7, hS7, b7⟩
        have h7 := h6.below b7
        have hv67 := hv6.below b7
        have B7 := B6.trans (b7.mono s6)
        have s7 := B7.size
        have hv7 : StrsAt w7 v7 L := hv7
        clear b7 h6 hS6 B6 hv6
        go_wp2_with fail
        refine (same18 _ _ _ _ w7 hv67 hv7).mono ?_
        rintro e w8 ⟨rfl, b8⟩
        rw [show sameB L L = true from sameB_iff.2 rfl]
        have h8 := h7.below b8
        have hS8 := hS7.below b8
        have B8 := B7.trans (b8.mono s7)
        have s8 := B8.size
        clear b8 h7 hS7 B7 hv67 hv7
        go_wp2_with fail
        refine (sys_room h8 (by show tapeN L ≤ _; omega)).mono ?_
        rintro e w9 ⟨rfl, h9, b9⟩
        have hS9 := hS8.below b9
        have B9 := B8.trans (b9.mono s8)
        have s9 := B9.size
        clear b9 h8 hS8 B8
        go_wp2_with fail
        refine (sys_room hS9 (by show tapeN L ≤ _; omega)).mono ?_
        rintro e wx ⟨rfl, hx, bx⟩
        have Bx := B9.trans (bx.mono s9)
        have hpe9 := pending_f hx.own
        rw [hp0] at hpe9
        have hct := content22 hx.own
        generalize readS DX 0 N = sc at hct osz
        have hfin := HB1.out.trans (Bx.mono HB1.out.size)
        clear bx hS9 B9 h9
        go_wp2_with fail
        refine hpe9.mono ?_
        rintro e wq ⟨rfl, rfl⟩
        go_wp2_with fail
        refine hct.mono ?_
        rintro e wq ⟨rfl, rfl⟩
        go_wp2_with fail
        refine (hsz.out _).mono ?_
        rintro e wq ⟨rfl, rfl⟩
        go_wp2_with fail
        go_ret
        exact ⟨rfl, hfin⟩)
end Go.Proofs.YtnckpnbecmmcpaaDoor

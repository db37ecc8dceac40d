/- nadirlaw34.JournalRoom: the walk. -/
import Derived.Test.YtnckpnbecmmcpaaDoorJL
import Derived.Test.YtnckpnbecmmcpaaDoorJN
import Derived.Test.YtnckpnbecmmcpaaDoorDR
import Derived.Test.YtnckpnbecmmcpaaDoorDC
namespace Go.Proofs.YtnckpnbecmmcpaaDoor
open Go.RowKit Lib
theorem nil_none {n : Nat} {L : List ByteArray} {D : DiskD} (h : tapeN L ≤ n) : appE n ⟨L, false⟩ D [] = 0 ∧ appJ n ⟨L, false⟩ D [] = ⟨L, false⟩ ∧ appD n ⟨L, false⟩ D [] = D :=
  append_none (by rintro (h | h) <;> cases h) (by show ¬ (n : Int) - (tapeN L : Int) < ((0 : Nat) : Int); omega) rfl
theorem nil_broken {n : Nat} {L : List ByteArray} {D : DiskD} : appE n ⟨L, true⟩ D [] = 340 ∧ appJ n ⟨L, true⟩ D [] = ⟨L, true⟩ ∧ appD n ⟨L, true⟩ D [] = D := append_nilCase (.inl rfl)
theorem long_case {n : Nat} {J : JouD} {D : DiskD} {l : List ByteArray} {k : Nat} (hk : 65536 < k) : appE n J D (l ++ [zeroS k]) = 340 ∧ appJ n J D (l ++ [zeroS k]) = J ∧ appD n J D (l ++ [zeroS k]) = D :=
  append_nilCase (.inr (by unfold longB; rw [List.any_append]; simp [zeroS_size, hk]))
def sX : ByteArray := ⟨#[120]⟩
theorem tape_x : tapeN [sX] = 35 := by rw [tapeN_one, putsT_len1 (by decide)]; rfl
theorem cut_zero {n : Nat} {L : List ByteArray} {D : DiskD} (h : Good n L D) : (cutD D 0).off = true ∧ (cutD D 0).pend = [] := by
  have e : cutE D 0 = 0 := by unfold cutE; rw [h.on]; rfl
  unfold cutD
  rw [if_pos e]
  exact ⟨rfl, h.pend⟩
theorem tapeN_few : ∀ (l : List ByteArray), (∀ t ∈ l, t.size ≤ 100) → tapeN l ≤ 142 * l.length
  | [], _ => Nat.zero_le _
  | t :: l, h => by
    have h1 := tapeN_few l (fun s hs => h s (by simp [hs]))
    have h2 := tapeN_append [t] l
    rw [List.singleton_append, tapeN_one] at h2
    have h3 := h t (by simp)
    have h4 := putsT_size t (by omega)
    rw [List.length_cons]
    omega
theorem app_first_two {n : Nat} {L l : List ByteArray} {D : DiskD} (h : Good n L D) (h0 : D.left = 0) (hl : ∀ t ∈ l, t.size ≤ 65536) (hL : L = []) :
    ∃ f L2 D2, appE n ⟨L, false⟩ D l = f ∧ appJ n ⟨L, false⟩ D l = ⟨L2, false⟩ ∧ appD n ⟨L, false⟩ D l = D2 ∧ Good n L2 D2 ∧ ((tapeN l ≤ n ∧ f = 0 ∧ tapeN L2 = tapeN l ∧ L2.length ≤ l.length) ∨ (n < tapeN l ∧ f = 341 ∧ tapeN L2 = 0 ∧ L2.length ≤ l.length)) := by
  subst hL
  have z : tapeN [] = 0 := rfl
  rcases app_on h h0 hl with ⟨h1, h2, h3, h4, -⟩ | ⟨h1, h2, h3, h4⟩
  · exact ⟨_, _, _, h2, h3, rfl, h4, .inl ⟨by omega, rfl, rfl, Nat.le_refl _⟩⟩
  · exact ⟨_, _, _, h2, h3, rfl, by rw [h4]; exact h, .inr ⟨by omega, rfl, rfl, Nat.zero_le _⟩⟩
set_option maxRecDepth 100000 in
set_option maxHeartbeats 8000000 in
theorem law_room (n more : Int) (vl : Value) (l0 : List ByteArray) (w : World) (hE : EnvJ w) (hn : InR n) (hm : InR more) (hl : StrsAt w vl l0) (hz : ∀ t ∈ l0, t.size ≤ 9223372036854775807) :
    Calls Tryd.prog 3 #[.int .i64 n, vl, .int .i64 more] w fun e w' => e = .returned (.bool true) ∧ Below w.heap.size w w' := by
  have h3 : 4 < w.heap.size := hE.1.1
  have HE := Lib.hid (fun W (hb : Below w.heap.size w W) => hE.below h3 hb)
  have hsane := Lib.hid (sane8 w hE)
  have hsz := Lib.hid (fun W => size15 n W hn)
  obtain ⟨hN1, hN2⟩ := sizeN_bd n
  generalize sizeN n = N at hsz hN1 hN2
  have hnew := Lib.hid (fun W => new_own N W hN1 (by omega))
  have hg0 := Good.new (n := N) hN1 (by omega)
  obtain ⟨oe1, ol1, g1, l1⟩ := open_good hg0 rfl
  generalize hD1 : openD N (newD N) = D1 at g1 l1
  have P1 := Lib.hid (And.intro oe1 (And.intro ol1 hD1))
  have HI := Lib.hid (And.intro g1 l1)
  have HLV := Lib.hid hl
  clear oe1 ol1 hD1 g1 l1 hg0 hn hl hE
  go_enter Tryd.func3, Tryd.ntmps3
  go_wp2_with fail
  refine hsane.out.mono ?_
  rintro e w1 ⟨rfl, b1⟩
  go_wp2_with fail
  refine (hsz.out _).mono ?_
  rintro e wq ⟨rfl, rfl⟩
  go_wp2_with fail
  refine (hnew.out _).mono ?_
  rintro e w2 ⟨B, rfl, h2, b2⟩
  have s2 := b2.size
  go_wp2_with fail
  have b2' := b1.trans (b2.mono b1.size)
  refine (sys_open h2 s2 (HE.out _ b2') (by show ([] : List WrD).length ≤ 90000; decide) (by omega)).mono ?_
  rw [P1.out.1, P1.out.2.1, P1.out.2.2]
  rintro e w3 ⟨⟨hcon, -⟩ | ⟨-, Jb, rfl, h3'⟩, -, b3⟩
  · exact absurd rfl hcon
  have b3' := b2.trans b3
  have HB1 := Lib.hid b1
  have s3 := b3'.size
  clear b1 b2 b2' b3 h2 s2 hsane hnew P1
  go_wp2_with fail
  refine (few11 vl l0 w3 (HLV.out.below (HB1.out.trans (b3'.mono HB1.out.size))) hz).mono ?_
  rintro e w4 ⟨v4, rfl, ho4, b4⟩
  have hS4 := h3'.below b4
  have B4 := b3'.trans (b4.mono s3)
  have s4 := B4.size
  have r4 := (RowsAt.nil w4).cons ho4
  have hfl := fewL_len l0
  have hfs := fewL_size l0
  generalize fewL l0 = l at *
  obtain ⟨a4, c4, rfl, hc41, hc42⟩ : ∃ a c, v4 = .slice a l.length c ∧ l.length ≤ c ∧ c ≤ maxLen := strs_len (r4.strs (p := (v4, l)) (by simp))
  unfold maxLen at hc42
  have HS4 := Lib.hid (And.intro hS4 (And.intro r4 B4))
  clear hS4 r4 B4 ho4 b4 h3' b3' s3
  go_wp2
  go_loopw [12, 13] (fun u12 u13 wr => ∃ i : Nat, i ≤ l.length ∧ u13 = .int .i64 (i : Int) ∧ u12 = .int .i64 (tapeN (l.take i) : Int) ∧ Below w4.heap.size w4 wr) (fun _ u13 _ => (l.length - intOf u13).toNat)
  case atStart => exact ⟨0, by omega, rfl, rfl, Below.refl _ _⟩
  case round =>
    obtain ⟨i, hi, rfl, rfl, hB⟩ := hrel
    rename World => wr
    by_cases hlt : i < l.length
    · have d1 : decide (i < l.length) = true := decide_eq_true hlt
      have i0 : (0 : Int) ≤ (i : Int) ∧ (i : Int) < (l.length : Int) := by omega
      obtain ⟨b, o, rfl, hc⟩ := strs_get ((HS4.out.2.1.strs (p := (.slice a4 l.length c4, l)) (by simp)).below hB) hlt
      have hTk : tapeN (l.take (i + 1)) = tapeN (l.take i) + (33 + (W01.putsT l[i]).size) := by rw [List.take_succ_eq_append_getElem hlt, tapeN_append, tapeN_one]
      have hsz1 : l[i].size ≤ 100 := hfs _ (List.getElem_mem hlt)
      have hput := W01.rputsU l[i] wr (by unfold maxLen; omega)
      have hps := putsT_size l[i] (by omega)
      have htb : tapeN (l.take i) ≤ 142 * (l.take i).length := tapeN_few _ (fun t ht => hfs t (List.mem_of_mem_take ht))
      rw [List.length_take] at htb
      have HTK := Lib.hid hTk
      generalize l[i] = t at hc hput hps HTK hsz1
      generalize tapeN (l.take i) = nd at HTK htb ⊢
      generalize W01.putsT t = pt at hput hps HTK
      generalize W01.putsE t = pe at hput
      have wr1 : IntKind.i64.wrap ((nd : Int) + 33) = (nd : Int) + 33 := wrapS _ (by omega) (by omega)
      have wr2 : IntKind.i64.wrap ((nd : Int) + 33 + (pt.size : Int)) = (nd : Int) + 33 + (pt.size : Int) := wrapS _ (by omega) (by omega)
      have HB := Lib.hid hB
      clear hTk hB
      go_wp2_with fail
      refine hput.mono ?_
      rintro e w5 ⟨rfl, b5⟩
      have B5 := HB.out.trans (b5.mono HB.out.size)
      clear hput b5 hc
      go_wp2
      go_roundw
      case rel => exact ⟨i + 1, by omega, by go_num, by rw [HTK.out]; exact congrArg (Value.int .i64) (by omega), B5⟩
      case measure => simp [intOf]; omega
    · have he : i = l.length := by omega
      have d1 : decide (i < l.length) = false := decide_eq_false hlt
      rw [he, List.take_length]
      obtain ⟨f, L2, D2, ef, eJ, eD, g2, hcase⟩ := app_first_two HI.out.1 HI.out.2 (l := l) (fun t ht => by have := hfs t ht; omega) rfl
      have hS4 := HS4.out.1.below hB
      have hr4 := HS4.out.2.1.below hB
      have hB4 := HS4.out.2.2.trans (hB.mono HS4.out.2.2.size)
      have hsr := hB4.size
      have hpe : D1.pend.length ≤ 90000 := by rw [HI.out.1.pend]; exact Nat.zero_le _
      have hap := rs_append hS4 hr4 hsr (HE.out _ (HB1.out.trans (hB4.mono HB1.out.size))) hpe (by omega) (Nat.zero_le _) (fun t h => by cases h) (.slice a4 l.length c4) l (hr4.strs (p := (.slice a4 l.length c4, l)) (by simp)) (by omega)
      rw [ef, eJ, eD] at hap
      have HAP := Lib.hid hap
      have HBB := Lib.hid hB4
      have HG2 := Lib.hid g2
      have hf2 := g2.full.2.1
      have hz2 := Lib.hid g2.full.1
      have hpe2 : D2.pend.length ≤ 90000 := by rw [g2.pend]; exact Nat.zero_le _
      obtain ⟨hoff, hpn⟩ := cut_zero g2
      have hpe3 : (cutD D2 0).pend.length ≤ 90000 := by rw [hpn]; exact Nat.zero_le _
      have hXs : ∀ t ∈ [sX], t.size ≤ 65536 := fun t ht => by
        simp only [List.mem_cons, List.mem_nil_iff, or_false] at ht
        rw [ht]; decide
      have HDK := Lib.hid (app_dark (n := N) (L := L2) (l := [sX]) hoff hXs hf2)
      have HN0 := Lib.hid (nil_none (n := N) (L := L2) (D := D2) hf2)
      have HN1 := Lib.hid (nil_none (n := N) (L := L2) (D := cutD D2 0) hf2)
      have HN2 := Lib.hid (nil_broken (n := N) (L := L2) (D := cutD D2 0))
      have hpm := pickI_bd more (n := 100) (by decide)
      have hpk := Lib.hid (fun W => pick_any more 100 W hm (by decide) (by decide))
      obtain ⟨kk, hkk⟩ : ∃ kk : Nat, 65537 + pickI more 100 = (kk : Int) := ⟨(65537 + pickI more 100).toNat, by omega⟩
      have hkw : IntKind.i64.wrap (65537 + pickI more 100) = (kk : Int) := by rw [wrapS _ (by omega) (by omega)]; exact hkk
      have HLG := Lib.hid (long_case (n := N) (J := ⟨L2, false⟩) (D := D2) (l := l) (k := kk) (by omega))
      have hmk : ∀ V : World, (Instr.makeSlice 38 (.int .i64 (kk : Int)) (.int .i64 (kk : Int))).run Tryd.prog V = .ok (.slice (some ⟨V.heap.size, 0, none⟩) kk kk) (V.alloc (.cells (bcs (List.replicate kk 0)).toArray 5)) := fun V => mk40 kk (by omega) V
      have hcv : ∀ V : World, (convert 38 9 (.slice (some ⟨V.heap.size, 0, none⟩) kk kk)).run Tryd.prog (V.alloc (.cells (bcs (List.replicate kk 0)).toArray 5)) = .ok (.string (zeroS kk)) (V.alloc (.cells (bcs (List.replicate kk 0)).toArray 5)) := fun V => by
        rw [show zeroS kk = strOf (List.replicate kk 0) from (zero_made kk).symm]
        exact conv_all (n := kk) (Blk.new V _ 5) (by rw [List.length_replicate])
      generalize (bcs (List.replicate kk 0)).toArray = zc at hmk hcv
      generalize zeroS kk = zk at hcv HLG
      generalize pickI more 100 = pm at hpk hkk hkw hpm
      have htx := tape_x
      have hL2 : L2.length ≤ 6 := by omega
      clear ef eJ eD g2 hap hS4 hr4 hB4 HS4 hB he hpn hoff hXs HI hsr hm
      go_wp2_with fail
      refine HAP.out.mono ?_
      rintro e w5 ⟨rfl, h5, r5, b5⟩
      have B5 := HBB.out.trans b5
      have s5 := B5.size
      have H5 := Lib.hid (And.intro h5 (And.intro r5 B5))
      clear h5 r5 B5 b5
      go_wp2_with fail
      refine (hsz.out _).mono ?_
      rintro e wq ⟨rfl, hq⟩
      subst hq
      have hfew := tapeN_few l hfs
      obtain ⟨nd, hnd⟩ : ∃ nd, tapeN l = nd := ⟨_, rfl⟩
      obtain ⟨n2, hn2⟩ : ∃ n2, tapeN L2 = n2 := ⟨_, rfl⟩
      have HN2E := Lib.hid hn2
      rw [hn2] at hf2 hcase HDK
      rw [hnd] at hcase hfew ⊢
      rw [htx] at HDK
      clear htx hn2 hnd
      have wsub : IntKind.i64.wrap ((N : Int) - (nd : Int)) = (N : Int) - (nd : Int) := by
        obtain ⟨h1, -⟩ | ⟨h1, -⟩ := hcase
        · exact wrapS _ (by omega) (by omega)
        · exact wrapS _ (by omega) (by omega)
      rcases hcase with ⟨hc1, rfl, hnn, hc2⟩ | ⟨hc1, rfl, hnn, hc2⟩
      · have x1 : decide ((nd : Int) ≤ (N : Int)) = true := decide_eq_true (by omega)
        have x1b : decide (nd ≤ N) = true := decide_eq_true (by omega)
        have y1 : ((N : Int) - (n2 : Int) == (N : Int) - (nd : Int)) = true := beq_iff_eq.2 (by omega)
        have y1n : ((N : Int) - (n2 : Int) != (N : Int) - (nd : Int)) = false := by rw [bne, y1]; rfl
        have HNN := Lib.hid hnn
        clear hnn hc1 hc2
        go_wp2_with fail
        refine (sys_room H5.out.1 (by show tapeN L2 ≤ _; rw [HN2E.out]; omega)).mono ?_
        rw [show (((N : Nat) : Int) - ((tapeN (JouD.mk L2 false).L : Nat) : Int)) = (N : Int) - (n2 : Int) by show (N : Int) - (tapeN L2 : Int) = _; rw [HN2E.out]]
        rintro e w6 ⟨rfl, h6, b6⟩
        have H6 := Lib.hid (And.intro h6 (And.intro (H5.out.2.1.below b6) (H5.out.2.2.trans (b6.mono s5))))
        clear h6 b6 H5
        go_wp2_with fail
        refine (hsz.out _).mono ?_
        rintro e wq ⟨rfl, hq⟩
        subst hq
        obtain ⟨h6, r6, B6⟩ := H6.out
        have s6 := B6.size
        go_wp2_with fail
        refine (sys_rec h6 (by show L2.length ≤ _; omega)).mono ?_
        rintro e w7 ⟨v7, rfl, o7, h7, b7⟩
        have o7 : w7.ownsRow w6.heap.size 9 1 v7 L2.length (L2.map Value.string) := o7
        have r7 := (r6.below b7).cons o7
        have B7 := B6.trans (b7.mono s6)
        have s7 := B7.size
        have H7 := Lib.hid (And.intro h7 (And.intro r7 B7))
        clear h6 r6 B6 h7 r7 B7 b7 H6
        obtain ⟨bl, hol⟩ := H7.out.2.1 (.slice a4 l.length c4, l) (by simp)
        have HOL := Lib.hid (show (w7.alloc (.cells #[] 9)).ownsRow bl 9 1 (.slice a4 l.length c4) l.length (l.map Value.string) from World.ownsRow.alloc hol _)
        have hOE := Lib.hid (own_emptyS (Blk.new w7 #[] 9) (Nat.le_refl _))
        have bE : Below w7.heap.size w7 (w7.alloc (.cells #[] 9)) := (Below.refl _ _).alloc (Nat.le_refl _) _
        clear hol
        go_wp2_with (at_builtin; refine wpList_cat rfl _ _ rfl w7.heap.size bl (l := []) hOE.out HOL.out rfl rfl (by show 0 + l.length ≤ _; omega) (by simp) ?_; intro v8 w8 hown8 hg8)
        have B8 : Below w7.heap.size w7 w8 := bE.grown hg8 (by simp) (fun k hk => by cases hk; exact Nat.le_refl _)
        have s8 := B8.size
        refine (hpk.out _).mono ?_
        rintro e wq ⟨rfl, hq⟩
        subst hq
        have hown8' : w8.ownsRow w7.heap.size 9 1 v8 l.length (l.map Value.string) := hown8
        have hz8 := Lib.hid (show (w8.alloc (.cells zc 5)).ownsRow w7.heap.size 9 1 v8 l.length (l.map Value.string) from World.ownsRow.alloc hown8' _)
        have hs8 : w7.heap.size ≤ (w8.alloc (.cells zc 5)).heap.size := by simp; omega
        have BZ := B8.alloc s8 (.cells zc 5)
        have hmk8 := hmk w8
        have hcv8 := hcv w8
        generalize w8.alloc (.cells zc 5) = wz at hz8 hs8 BZ hmk8 hcv8
        clear hown8 hown8' hg8 hOE HOL bE hmk hcv
        go_wp2_with (at_builtin; refine wpList_push E22 rfl _ _ rfl w7.heap.size hz8.out rfl rfl rfl (by unfold maxLen; omega) (by omega) (by omega) ?_; intro v9 w9 hown9 hg9 hb9)
        have B9 : Below w7.heap.size w7 w9 := BZ.trans hb9
        have o9 : w9.ownsRow w7.heap.size 9 1 v9 (l ++ [zk]).length ((l ++ [zk]).map Value.string) := by rw [List.length_append, List.map_append]; exact hown9
        have hS9 := H7.out.1.below B9
        have hR9 := H7.out.2.1.below B9
        have BB9 := H7.out.2.2.trans (B9.mono s7)
        have hap9 := rs_append hS9 hR9 BB9.size (HE.out _ (HB1.out.trans (BB9.mono HB1.out.size))) hpe2 (by omega) (by show tapeN L2 ≤ N; rw [HN2E.out]; omega) hz2.out v9 (l ++ [zk]) (strs_own o9) (by rw [List.length_append]; show l.length + 1 ≤ _; omega)
        rw [HLG.out.1, HLG.out.2.1, HLG.out.2.2] at hap9
        have HAP9 := Lib.hid hap9
        have HB9 := Lib.hid BB9
        clear hap9 hS9 hR9 BB9 o9 hown9 hg9 hb9 hz8 B8 BZ hmk8 hcv8
        refine HAP9.out.mono ?_
        rintro e w10 ⟨rfl, h10, r10, b10⟩
        have B10 := HB9.out.trans b10
        have s10 := B10.size
        have hap11 := rs_append h10 r10 s10 (HE.out _ (HB1.out.trans (B10.mono HB1.out.size))) hpe2 (by omega) (by show tapeN L2 ≤ N; rw [HN2E.out]; omega) hz2.out (.slice none 0 0) [] (strs_nil _) (by decide)
        rw [HN0.out.1, HN0.out.2.1, HN0.out.2.2] at hap11
        have HAP11 := Lib.hid hap11
        clear hap11 h10 r10 b10 H7 HAP9 HB9 B9 
        go_wp2_with fail
        refine HAP11.out.mono ?_
        rintro e w11 ⟨rfl, h11, r11, b11⟩
        have B11 := B10.trans b11
        have s11 := B11.size
        have hcut := rs_cut h11 r11 s11 0 (by decide)
        have HCUT := Lib.hid hcut
        clear hcut h11 r11 b11 HAP11 B10 
        go_wp2_with fail
        refine HCUT.out.mono ?_
        rintro e w12 ⟨rfl, h12, r12, b12⟩
        have B12 := B11.trans b12
        have s12 := B12.size
        generalize cutD D2 0 = D3 at *
        have bX : Below w12.heap.size w12 (w12.alloc (.cells #[.string sX] 9)) := (Below.refl _ _).alloc (Nat.le_refl _) _
        have B12x := B12.trans (bX.mono s12)
        obtain ⟨J3, xe, xn, ex, eJ3, eD3, en, enJ, enD, hJ3L, hcase3⟩ : ∃ (J3 : JouD) (xe xn : Int), appE N ⟨L2, false⟩ D3 [sX] = xe ∧ appJ N ⟨L2, false⟩ D3 [sX] = J3 ∧ appD N ⟨L2, false⟩ D3 [sX] = D3 ∧
            appE N J3 D3 [] = xn ∧ appJ N J3 D3 [] = J3 ∧ appD N J3 D3 [] = D3 ∧ J3.L = L2 ∧ ((N < n2 + 35 ∧ xe = 341 ∧ xn = 0) ∨ (n2 + 35 ≤ N ∧ xe = 331 ∧ xn = 340)) := by
          rcases HDK.out with ⟨hc, -⟩ | ⟨hc, q1, q2, q3⟩ | ⟨hc, q1, q2, q3⟩
          · cases hc
          · exact ⟨_, _, _, q1, q2, q3, HN1.out.1, HN1.out.2.1, HN1.out.2.2, rfl, .inl ⟨hc, rfl, rfl⟩⟩
          · exact ⟨_, _, _, q1, q2, q3, HN2.out.1, HN2.out.2.1, HN2.out.2.2, rfl, .inr ⟨hc, rfl, rfl⟩⟩
        have hapx := rs_append (h12.below bX) (r12.below bX) B12x.size (HE.out _ (HB1.out.trans (B12x.mono HB1.out.size))) hpe3 (by omega) (by show tapeN L2 ≤ N; rw [HN2E.out]; omega) hz2.out _ [sX] (strs_blk1 (Blk.new w12 #[.string sX] 9)) (by decide)
        rw [ex, eJ3, eD3] at hapx
        have HAPX := Lib.hid hapx
        have HEN := Lib.hid (And.intro en (And.intro enJ (And.intro enD hJ3L)))
        have HBX := Lib.hid B12x
        have hsx : (⟨#[120]⟩ : ByteArray) = sX := rfl
        clear ex eJ3 eD3 en enJ enD hJ3L hapx h12 r12 b12 HCUT B11 bX B12x B12
        go_wp2_with fail
        (try rw [hsx])
        refine HAPX.out.mono ?_
        rintro e w13 ⟨rfl, h13, r13, b13⟩
        have B13 := HBX.out.trans b13
        have s13 := B13.size
        go_wp2_with fail
        refine (sys_room h13 (by rw [HEN.out.2.2.2, HN2E.out]; omega)).mono ?_
        rw [show (((N : Nat) : Int) - ((tapeN J3.L : Nat) : Int)) = (N : Int) - (n2 : Int) by rw [HEN.out.2.2.2, HN2E.out]]
        rintro e w14 ⟨rfl, h14, b14⟩
        have r14 := r13.below b14
        have B14 := B13.trans (b14.mono s13)
        have s14 := B14.size
        have hapn := rs_append h14 r14 s14 (HE.out _ (HB1.out.trans (B14.mono HB1.out.size))) hpe3 (by omega) (by rw [HEN.out.2.2.2, HN2E.out]; omega) (by rw [HEN.out.2.2.2]; exact hz2.out) (.slice none 0 0) [] (strs_nil _) (by decide)
        rw [HEN.out.1, HEN.out.2.1, HEN.out.2.2.1] at hapn
        have HAPN := Lib.hid hapn
        clear hapn h14 r14 b14 h13 r13 b13 B13 HAPX HBX
        rcases hcase3 with ⟨hcc, rfl, rfl⟩ | ⟨hcc, rfl, rfl⟩
        · have x2 : decide ((N : Int) - (n2 : Int) < 35) = true := decide_eq_true (by omega)
          clear hcc
          go_wp2_with fail
          refine HAPN.out.mono ?_
          rintro e w15 ⟨rfl, h15, r15, b15⟩
          have B15 := B14.trans b15
          have s15 := B15.size
          have HRR := Lib.hid (And.intro r15 B15)
          go_wp2_with fail
          refine (sys_rec h15 (by rw [HEN.out.2.2.2]; omega)).mono ?_
          rintro e w16 ⟨v16, rfl, o16, -, b16⟩
          rw [HEN.out.2.2.2] at o16
          have B16 := B15.trans (b16.mono s15)
          have hsm := same18 v16 v7 L2 L2 w16 (strs_own o16) ((HRR.out.1.below b16).strs (p := (v7, L2)) (by simp))
          rw [show sameB L2 L2 = true from sameB_iff.2 rfl] at hsm
          have HSM := Lib.hid hsm
          have HB16 := Lib.hid B16
          clear h15 r15 b15 b16 o16 B16 B15 hsm HAPN
          go_wp2_with fail
          refine HSM.out.mono ?_
          rintro e w17 ⟨rfl, b17⟩
          have B17 := HB16.out.trans (b17.mono HB16.out.size)
          go_wp2_with (first
            | (go_at_call 11; refine (append_nil10 _ _).mono ?_; rintro e wq ⟨rfl, hq⟩; subst hq)
            | (go_at_call 13; refine (records_nil _).mono ?_; rintro e wq ⟨rfl, hq⟩; subst hq)
            | (go_at_call 12; refine (room_nil _).mono ?_; rintro e wq ⟨rfl, hq⟩; subst hq))
          go_ret
          exact ⟨rfl, HB1.out.trans (B17.mono HB1.out.size)⟩
        · have x2 : decide ((N : Int) - (n2 : Int) < 35) = false := decide_eq_false (by omega)
          clear hcc
          go_wp2_with fail
          refine HAPN.out.mono ?_
          rintro e w15 ⟨rfl, h15, r15, b15⟩
          have B15 := B14.trans b15
          have s15 := B15.size
          have HRR := Lib.hid (And.intro r15 B15)
          go_wp2_with fail
          refine (sys_rec h15 (by rw [HEN.out.2.2.2]; omega)).mono ?_
          rintro e w16 ⟨v16, rfl, o16, -, b16⟩
          rw [HEN.out.2.2.2] at o16
          have B16 := B15.trans (b16.mono s15)
          have hsm := same18 v16 v7 L2 L2 w16 (strs_own o16) ((HRR.out.1.below b16).strs (p := (v7, L2)) (by simp))
          rw [show sameB L2 L2 = true from sameB_iff.2 rfl] at hsm
          have HSM := Lib.hid hsm
          have HB16 := Lib.hid B16
          clear h15 r15 b15 b16 o16 B16 B15 hsm HAPN
          go_wp2_with fail
          refine HSM.out.mono ?_
          rintro e w17 ⟨rfl, b17⟩
          have B17 := HB16.out.trans (b17.mono HB16.out.size)
          go_wp2_with (first
            | (go_at_call 11; refine (append_nil10 _ _).mono ?_; rintro e wq ⟨rfl, hq⟩; subst hq)
            | (go_at_call 13; refine (records_nil _).mono ?_; rintro e wq ⟨rfl, hq⟩; subst hq)
            | (go_at_call 12; refine (room_nil _).mono ?_; rintro e wq ⟨rfl, hq⟩; subst hq))
          go_ret
          exact ⟨rfl, HB1.out.trans (B17.mono HB1.out.size)⟩
      · have x1 : decide ((nd : Int) ≤ (N : Int)) = false := decide_eq_false (by omega)
        have x1b : decide (nd ≤ N) = false := decide_eq_false (by omega)
        have y1 : ((N : Int) - (n2 : Int) == (N : Int)) = true := beq_iff_eq.2 (by omega)
        have y1n : ((N : Int) - (n2 : Int) != (N : Int)) = false := by rw [bne, y1]; rfl
        have HNN := Lib.hid hnn
        clear hnn hc1 hc2
        go_wp2_with fail
        refine (sys_room H5.out.1 (by show tapeN L2 ≤ _; rw [HN2E.out]; omega)).mono ?_
        rw [show (((N : Nat) : Int) - ((tapeN (JouD.mk L2 false).L : Nat) : Int)) = (N : Int) - (n2 : Int) by show (N : Int) - (tapeN L2 : Int) = _; rw [HN2E.out]]
        rintro e w6 ⟨rfl, h6, b6⟩
        have H6 := Lib.hid (And.intro h6 (And.intro (H5.out.2.1.below b6) (H5.out.2.2.trans (b6.mono s5))))
        clear h6 b6 H5
        go_wp2_with fail
        refine (hsz.out _).mono ?_
        rintro e wq ⟨rfl, hq⟩
        subst hq
        obtain ⟨h6, r6, B6⟩ := H6.out
        have s6 := B6.size
        go_wp2_with fail
        refine (sys_rec h6 (by show L2.length ≤ _; omega)).mono ?_
        rintro e w7 ⟨v7, rfl, o7, h7, b7⟩
        have o7 : w7.ownsRow w6.heap.size 9 1 v7 L2.length (L2.map Value.string) := o7
        have r7 := (r6.below b7).cons o7
        have B7 := B6.trans (b7.mono s6)
        have s7 := B7.size
        have H7 := Lib.hid (And.intro h7 (And.intro r7 B7))
        clear h6 r6 B6 h7 r7 B7 b7 H6
        obtain ⟨bl, hol⟩ := H7.out.2.1 (.slice a4 l.length c4, l) (by simp)
        have HOL := Lib.hid (show (w7.alloc (.cells #[] 9)).ownsRow bl 9 1 (.slice a4 l.length c4) l.length (l.map Value.string) from World.ownsRow.alloc hol _)
        have hOE := Lib.hid (own_emptyS (Blk.new w7 #[] 9) (Nat.le_refl _))
        have bE : Below w7.heap.size w7 (w7.alloc (.cells #[] 9)) := (Below.refl _ _).alloc (Nat.le_refl _) _
        clear hol
        go_wp2_with (at_builtin; refine wpList_cat rfl _ _ rfl w7.heap.size bl (l := []) hOE.out HOL.out rfl rfl (by show 0 + l.length ≤ _; omega) (by simp) ?_; intro v8 w8 hown8 hg8)
        have B8 : Below w7.heap.size w7 w8 := bE.grown hg8 (by simp) (fun k hk => by cases hk; exact Nat.le_refl _)
        have s8 := B8.size
        refine (hpk.out _).mono ?_
        rintro e wq ⟨rfl, hq⟩
        subst hq
        have hown8' : w8.ownsRow w7.heap.size 9 1 v8 l.length (l.map Value.string) := hown8
        have hz8 := Lib.hid (show (w8.alloc (.cells zc 5)).ownsRow w7.heap.size 9 1 v8 l.length (l.map Value.string) from World.ownsRow.alloc hown8' _)
        have hs8 : w7.heap.size ≤ (w8.alloc (.cells zc 5)).heap.size := by simp; omega
        have BZ := B8.alloc s8 (.cells zc 5)
        have hmk8 := hmk w8
        have hcv8 := hcv w8
        generalize w8.alloc (.cells zc 5) = wz at hz8 hs8 BZ hmk8 hcv8
        clear hown8 hown8' hg8 hOE HOL bE hmk hcv
        go_wp2_with (at_builtin; refine wpList_push E22 rfl _ _ rfl w7.heap.size hz8.out rfl rfl rfl (by unfold maxLen; omega) (by omega) (by omega) ?_; intro v9 w9 hown9 hg9 hb9)
        have B9 : Below w7.heap.size w7 w9 := BZ.trans hb9
        have o9 : w9.ownsRow w7.heap.size 9 1 v9 (l ++ [zk]).length ((l ++ [zk]).map Value.string) := by rw [List.length_append, List.map_append]; exact hown9
        have hS9 := H7.out.1.below B9
        have hR9 := H7.out.2.1.below B9
        have BB9 := H7.out.2.2.trans (B9.mono s7)
        have hap9 := rs_append hS9 hR9 BB9.size (HE.out _ (HB1.out.trans (BB9.mono HB1.out.size))) hpe2 (by omega) (by show tapeN L2 ≤ N; rw [HN2E.out]; omega) hz2.out v9 (l ++ [zk]) (strs_own o9) (by rw [List.length_append]; show l.length + 1 ≤ _; omega)
        rw [HLG.out.1, HLG.out.2.1, HLG.out.2.2] at hap9
        have HAP9 := Lib.hid hap9
        have HB9 := Lib.hid BB9
        clear hap9 hS9 hR9 BB9 o9 hown9 hg9 hb9 hz8 B8 BZ hmk8 hcv8
        refine HAP9.out.mono ?_
        rintro e w10 ⟨rfl, h10, r10, b10⟩
        have B10 := HB9.out.trans b10
        have s10 := B10.size
        have hap11 := rs_append h10 r10 s10 (HE.out _ (HB1.out.trans (B10.mono HB1.out.size))) hpe2 (by omega) (by show tapeN L2 ≤ N; rw [HN2E.out]; omega) hz2.out (.slice none 0 0) [] (strs_nil _) (by decide)
        rw [HN0.out.1, HN0.out.2.1, HN0.out.2.2] at hap11
        have HAP11 := Lib.hid hap11
        clear hap11 h10 r10 b10 H7 HAP9 HB9 B9 
        go_wp2_with fail
        refine HAP11.out.mono ?_
        rintro e w11 ⟨rfl, h11, r11, b11⟩
        have B11 := B10.trans b11
        have s11 := B11.size
        have hcut := rs_cut h11 r11 s11 0 (by decide)
        have HCUT := Lib.hid hcut
        clear hcut h11 r11 b11 HAP11 B10 
        go_wp2_with fail
        refine HCUT.out.mono ?_
        rintro e w12 ⟨rfl, h12, r12, b12⟩
        have B12 := B11.trans b12
        have s12 := B12.size
        generalize cutD D2 0 = D3 at *
        have bX : Below w12.heap.size w12 (w12.alloc (.cells #[.string sX] 9)) := (Below.refl _ _).alloc (Nat.le_refl _) _
        have B12x := B12.trans (bX.mono s12)
        obtain ⟨J3, xe, xn, ex, eJ3, eD3, en, enJ, enD, hJ3L, hcase3⟩ : ∃ (J3 : JouD) (xe xn : Int), appE N ⟨L2, false⟩ D3 [sX] = xe ∧ appJ N ⟨L2, false⟩ D3 [sX] = J3 ∧ appD N ⟨L2, false⟩ D3 [sX] = D3 ∧
            appE N J3 D3 [] = xn ∧ appJ N J3 D3 [] = J3 ∧ appD N J3 D3 [] = D3 ∧ J3.L = L2 ∧ ((N < n2 + 35 ∧ xe = 341 ∧ xn = 0) ∨ (n2 + 35 ≤ N ∧ xe = 331 ∧ xn = 340)) := by
          rcases HDK.out with ⟨hc, -⟩ | ⟨hc, q1, q2, q3⟩ | ⟨hc, q1, q2, q3⟩
          · cases hc
          · exact ⟨_, _, _, q1, q2, q3, HN1.out.1, HN1.out.2.1, HN1.out.2.2, rfl, .inl ⟨hc, rfl, rfl⟩⟩
          · exact ⟨_, _, _, q1, q2, q3, HN2.out.1, HN2.out.2.1, HN2.out.2.2, rfl, .inr ⟨hc, rfl, rfl⟩⟩
        have hapx := rs_append (h12.below bX) (r12.below bX) B12x.size (HE.out _ (HB1.out.trans (B12x.mono HB1.out.size))) hpe3 (by omega) (by show tapeN L2 ≤ N; rw [HN2E.out]; omega) hz2.out _ [sX] (strs_blk1 (Blk.new w12 #[.string sX] 9)) (by decide)
        rw [ex, eJ3, eD3] at hapx
        have HAPX := Lib.hid hapx
        have HEN := Lib.hid (And.intro en (And.intro enJ (And.intro enD hJ3L)))
        have HBX := Lib.hid B12x
        have hsx : (⟨#[120]⟩ : ByteArray) = sX := rfl
        clear ex eJ3 eD3 en enJ enD hJ3L hapx h12 r12 b12 HCUT B11 bX B12x B12
        go_wp2_with fail
        (try rw [hsx])
        refine HAPX.out.mono ?_
        rintro e w13 ⟨rfl, h13, r13, b13⟩
        have B13 := HBX.out.trans b13
        have s13 := B13.size
        go_wp2_with fail
        refine (sys_room h13 (by rw [HEN.out.2.2.2, HN2E.out]; omega)).mono ?_
        rw [show (((N : Nat) : Int) - ((tapeN J3.L : Nat) : Int)) = (N : Int) - (n2 : Int) by rw [HEN.out.2.2.2, HN2E.out]]
        rintro e w14 ⟨rfl, h14, b14⟩
        have r14 := r13.below b14
        have B14 := B13.trans (b14.mono s13)
        have s14 := B14.size
        have hapn := rs_append h14 r14 s14 (HE.out _ (HB1.out.trans (B14.mono HB1.out.size))) hpe3 (by omega) (by rw [HEN.out.2.2.2, HN2E.out]; omega) (by rw [HEN.out.2.2.2]; exact hz2.out) (.slice none 0 0) [] (strs_nil _) (by decide)
        rw [HEN.out.1, HEN.out.2.1, HEN.out.2.2.1] at hapn
        have HAPN := Lib.hid hapn
        clear hapn h14 r14 b14 h13 r13 b13 B13 HAPX HBX
        rcases hcase3 with ⟨hcc, rfl, rfl⟩ | ⟨hcc, rfl, rfl⟩
        · have x2 : decide ((N : Int) - (n2 : Int) < 35) = true := decide_eq_true (by omega)
          clear hcc
          go_wp2_with fail
          refine HAPN.out.mono ?_
          rintro e w15 ⟨rfl, h15, r15, b15⟩
          have B15 := B14.trans b15
          have s15 := B15.size
          have HRR := Lib.hid (And.intro r15 B15)
          go_wp2_with fail
          refine (sys_rec h15 (by rw [HEN.out.2.2.2]; omega)).mono ?_
          rintro e w16 ⟨v16, rfl, o16, -, b16⟩
          rw [HEN.out.2.2.2] at o16
          have B16 := B15.trans (b16.mono s15)
          have hsm := same18 v16 v7 L2 L2 w16 (strs_own o16) ((HRR.out.1.below b16).strs (p := (v7, L2)) (by simp))
          rw [show sameB L2 L2 = true from sameB_iff.2 rfl] at hsm
          have HSM := Lib.hid hsm
          have HB16 := Lib.hid B16
          clear h15 r15 b15 b16 o16 B16 B15 hsm HAPN
          go_wp2_with fail
          refine HSM.out.mono ?_
          rintro e w17 ⟨rfl, b17⟩
          have B17 := HB16.out.trans (b17.mono HB16.out.size)
          go_wp2_with (first
            | (go_at_call 11; refine (append_nil10 _ _).mono ?_; rintro e wq ⟨rfl, hq⟩; subst hq)
            | (go_at_call 13; refine (records_nil _).mono ?_; rintro e wq ⟨rfl, hq⟩; subst hq)
            | (go_at_call 12; refine (room_nil _).mono ?_; rintro e wq ⟨rfl, hq⟩; subst hq))
          go_ret
          exact ⟨rfl, HB1.out.trans (B17.mono HB1.out.size)⟩
        · have x2 : decide ((N : Int) - (n2 : Int) < 35) = false := decide_eq_false (by omega)
          clear hcc
          go_wp2_with fail
          refine HAPN.out.mono ?_
          rintro e w15 ⟨rfl, h15, r15, b15⟩
          have B15 := B14.trans b15
          have s15 := B15.size
          have HRR := Lib.hid (And.intro r15 B15)
          go_wp2_with fail
          refine (sys_rec h15 (by rw [HEN.out.2.2.2]; omega)).mono ?_
          rintro e w16 ⟨v16, rfl, o16, -, b16⟩
          rw [HEN.out.2.2.2] at o16
          have B16 := B15.trans (b16.mono s15)
          have hsm := same18 v16 v7 L2 L2 w16 (strs_own o16) ((HRR.out.1.below b16).strs (p := (v7, L2)) (by simp))
          rw [show sameB L2 L2 = true from sameB_iff.2 rfl] at hsm
          have HSM := Lib.hid hsm
          have HB16 := Lib.hid B16
          clear h15 r15 b15 b16 o16 B16 B15 hsm HAPN
          go_wp2_with fail
          refine HSM.out.mono ?_
          rintro e w17 ⟨rfl, b17⟩
          have B17 := HB16.out.trans (b17.mono HB16.out.size)
          go_wp2_with (first
            | (go_at_call 11; refine (append_nil10 _ _).mono ?_; rintro e wq ⟨rfl, hq⟩; subst hq)
            | (go_at_call 13; refine (records_nil _).mono ?_; rintro e wq ⟨rfl, hq⟩; subst hq)
            | (go_at_call 12; refine (room_nil _).mono ?_; rintro e wq ⟨rfl, hq⟩; subst hq))
          go_ret
          exact ⟨rfl, HB1.out.trans (B17.mono HB1.out.size)⟩
end Go.Proofs.YtnckpnbecmmcpaaDoor

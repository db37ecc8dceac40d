/- nadirlaw18.LossNeeded. -/
import Derived.Test.YtmajkagmcdlncaaQ2
namespace Go.Proofs.Ytmajkagmcdlncaa
open Go.RowKit Go.Shelf
open L18 (Pass Slot noPass noSlot validB passesG optV pickV X3 ownV mostV sentV)


set_option maxRecDepth 100000 in
set_option maxHeartbeats 4000000 in
theorem needed_true (vx vy : Value) (x : List X3) (y : List Int) (losses set : Int) (w : World) (hx : XsAt w vx x) (hy : IntsAt w vy y) (hxr : ∀ a ∈ x, XR a) (hyr : ∀ a ∈ y, InR a) (hlo : InR losses) (hse : InR set) :
    Calls Try.prog 9 #[vx, vy, .int .i64 losses, .int .i64 set] w fun e w' => e = .returned (.bool true) ∧ Below w.heap.size w w' := by
  have HX := Lib.hid hx
  have HY := Lib.hid hy
  have HXR := Lib.hid hxr
  have HYR := Lib.hid hyr
  clear hx hy hxr hyr
  go_enter Try.func9, Try.ntmps9
  go_wp2_with fail
  refine (sane10 _).mono ?_
  rintro e w1 ⟨rfl, b1⟩
  have hq := passes11 _ x w1 (HX.out.later b1) HXR.out
  go_wp2_with fail
  refine hq.mono ?_
  rintro e w2 ⟨vp, rfl, hp, b2⟩
  clear hq
  have hps := hp.passes
  have b12 := b1.trans (b2.mono b1.size)
  have hq := option12 1 vp _ _ _ w2 hps (HY.out.below b12) (sureOK_G x) HYR.out (by have := passesG_len x; omega)
  obtain ⟨pa, pc, rfl, hple, hpcm⟩ := hps.len
  unfold maxLen at hpcm
  have hpl := passesG_len x
  have HOK := Lib.hid (fun h => L18.optV_ok (x := x) y h)
  have HE := Lib.hid (show (optV (passesG x) y).length = 0 ∨ passesG x ≠ [] from by
    by_cases h : passesG x = []
    · left
      have hv : optV (passesG x) y = [] := by
        rw [h]; exact optV_nil y
      rw [hv]; rfl
    · exact .inr h)
  generalize hl : passesG x = l at hps hq hple hpl HOK HE
  clear hp
  generalize ho : optV l y = o at hq HOK HE
  have HP := Lib.hid hps
  clear hps hl ho
  go_wp2_with fail
  refine hq.mono ?_
  rintro e w3 ⟨⟨vo, rfl, vs, rfl, hs⟩, b3⟩
  dsimp only [optHd] at hs ⊢
  clear hq
  obtain ⟨sa, sc, rfl, hsle, hscm⟩ := hs.len
  unfold maxLen at hscm
  have b13 := b12.trans (b3.mono b12.size)
  by_cases hol : 0 < o.length
  · have d1 : decide (0 < o.length) = true := decide_eq_true hol
    obtain ⟨W, hW⟩ : ∃ W, W = w3.alloc (.cells #[.int .i64 1, .int .i64 0, .int .i64 0, .int .i64 0, .int .i64 0, .int .i64 0, .int .i64 0, .int .i64 1, .slice sa o.length sc] 28) := ⟨_, rfl⟩
    have hbW : Below w3.heap.size w3 W := by rw [hW]; exact (Below.refl _ _).alloc (Nat.le_refl _) _
    have hS : LW w W w3.heap.size (.slice pa l.length pc) (.slice sa o.length sc) l o := ⟨b13.trans (hbW.mono b13.size), PassesAt.later (PassesAt.later HP.out b3) hbW, by rw [hW]; exact Blk.new _ _ _, SlotsAt.later hs hbW⟩
    go_upto_region 5 with (fail)
    rw [← hW]
    clear hW hbW hs b1 b2 b3 b12 b13
    generalize w3.heap.size = B at hS ⊢
    have hv := HOK.out (by rcases HE.out with h | h; omega; exact h)
    have h6 := hv.2.2
    obtain ⟨⟨n1, n2⟩, ⟨n3, n4⟩, ⟨n5, n6⟩, m1, m2⟩ := need_facts hv.1 hol hv.2.2 losses
    have HV := Lib.hid hv.1
    clear HOK HE hv HX HY HXR HYR
    obtain ⟨k, hk⟩ : ∃ k, pickV losses 4 = k := ⟨_, rfl⟩
    obtain ⟨m, hm⟩ : ∃ m, mostV l (ownV o) = m := ⟨_, rfl⟩
    rw [hm] at n1 n4 m1 m2
    have hp13 := fun W => pick13 losses 4 W hlo (by decide) (by decide)
    rw [hk] at hp13 n3 n4
    have HP13 := Lib.hid hp13
    have HN := Lib.hid (And.intro n3 (And.intro n4 (And.intro n5 n6)))
    have hq := needed15 _ _ _ _ _ hS.opt hS.ps
    rw [show (⟨optHd 1, o⟩ : OptD).slots = o from rfl, n1, n2] at hq
    have HS := Lib.hid hS
    obtain ⟨z0, z1, z2, z3, z4, z5, z6, z7, z8⟩ := hS.cells
    clear hp13 n1 n2 n3 n4 n5 n6 hS hk hm
    go_wp2_with fail
    refine (HP13.out _).mono ?_
    rintro e w4 ⟨rfl, rfl⟩
    go_wp2_with fail
    refine hq.mono ?_
    rintro e w5 ⟨rfl, b5⟩
    clear hq z0 z1 z2 z3 z4 z5 z6 z7 z8
    have HS5 := Lib.hid (HS.out.later b5)
    have hq := sure19 _ _ _ _ k _ HS5.out.opt HS5.out.ps
    rw [show (⟨optHd 1, o⟩ : OptD).slots = o from rfl, HN.out.1, HN.out.2.1] at hq
    obtain ⟨z0, z1, z2, z3, z4, z5, z6, z7, z8⟩ := HS5.out.cells
    clear HS b5
    go_wp2_with fail
    refine hq.mono ?_
    rintro e w6 ⟨rfl, b6⟩
    clear hq z0 z1 z2 z3 z4 z5 z6 z7 z8
    have HS6 := Lib.hid (HS5.out.later b6)
    have hq := sent26 _ _ _ _ _ _ _ HS6.out.opt HS6.out.ps (nil_ints _)
    rw [show (⟨optHd 1, o⟩ : OptD).slots = o from rfl, HN.out.2.2.1, HN.out.2.2.2] at hq
    obtain ⟨z0, z1, z2, z3, z4, z5, z6, z7, z8⟩ := HS6.out.cells
    clear HS5 b6
    go_wp2_with fail
    refine hq.mono ?_
    rintro e w7 ⟨rfl, b7⟩
    clear hq z0 z1 z2 z3 z4 z5 z6 z7 z8
    have HS7 := Lib.hid (HS6.out.later b7)
    have hq := own33 _ _ _ HS7.out.opt (by dsimp only; omega)
    rw [show (⟨optHd 1, o⟩ : OptD).slots = o from rfl] at hq
    obtain ⟨z0, z1, z2, z3, z4, z5, z6, z7, z8⟩ := HS7.out.cells
    have e1 : decide ((m : Int) < 1) = false := decide_eq_false (by omega)
    have e2 : decide (6 < (m : Int)) = false := decide_eq_false (by omega)
    clear HS6 b7 HN
    go_wp2_with fail
    refine hq.mono ?_
    rintro e w8 ⟨vm, rfl, hI, b8⟩
    clear hq z0 z1 z2 z3 z4 z5 z6 z7 z8
    have HS8 := Lib.hid (HS7.out.later b8)
    have HI := Lib.hid hI.ints
    clear HS7 b8 hI
    go_wp2
    obtain ⟨s, hs⟩ : ∃ s, pickV set 4096 = s := ⟨_, rfl⟩
    have hsb := L18.pickV_bd set (n := 4096) (by decide)
    have hp13 := fun W => pick13 set 4096 W hse (by decide) (by decide)
    rw [hs] at hsb hp13
    have HP13 := Lib.hid hp13
    clear hp13 hs
    go_loopw [20, 21, 22] (fun u20 u21 u22 wr => ∃ i : Nat, i ≤ l.length ∧ u22 = .int .i64 (i : Int) ∧ OwnI wr w8.heap.size u20 (bitsL s i) ∧ OwnI wr w8.heap.size u21 ((bitsL s i).filter fun z => (ownV o).contains z) ∧ Apart u20 u21 ∧ Below w8.heap.size w8 wr) (fun _ _ u22 _ => (l.length - intOf u22).toNat)
    case atStart => exact ⟨0, by omega, rfl, World.ownsRow_nil _ _ _ _, World.ownsRow_nil _ _ _ _, fun g hg => by simp [Value.ownBlock] at hg, Below.refl _ _⟩
    case round =>
      obtain ⟨i, hi, rfl, ho1, ho2, hap, hBr⟩ := hrel
      by_cases hil : i < l.length
      · have i1 : (i : Int) < 64 := by omega
        have HBZ := Lib.hid (bit_zero i hsb.1)
        have HBS := Lib.hid (bitsL_succ s i)
        have HO1 := Lib.hid ho1
        have HO2 := Lib.hid ho2
        have HAP := Lib.hid hap
        clear ho1 ho2 hap
        go_wp2_with fail
        refine (HP13.out _).mono ?_
        rintro e wq ⟨rfl, rfl⟩
        by_cases hb : bitI s i = true
        · have f1 : ((s / 2 ^ i).tmod 2 == 0) = false := by rw [HBZ.out, hb]; rfl
          have HB1 := Lib.hid (show bitsL s (i + 1) = bitsL s i ++ [(i : Int)] by rw [HBS.out, if_pos hb])
          have hb1 := hBr.alloc hBr.size (.cells #[.int .i64 (i : Int)] 3)
          have hln := bitsL_len s i
          clear HBZ HBS
          go_wp2_with (at_builtin; refine wpList_pushI rfl _ _ rfl HO1.out rfl rfl (by omega) hBr.size ?_; intro v' wr2 hown' hbb hkeep)
          obtain ⟨hk2, hap2⟩ := hkeep _ _ HO2.out HAP.out
          have HK2 := Lib.hid hk2
          have HA2 := Lib.hid hap2
          have HOA := Lib.hid hown'
          have hBr2 := hBr.trans hbb
          have hIm := IntsAt_below HI.out hBr2
          have hq := has35 vm (ownV o) (i : Int) wr2 hIm
          clear hk2 hap2 hown' hkeep
          by_cases hc : (ownV o).contains (i : Int) = true
          · rw [hc] at hq
            have HB2 := Lib.hid (show (bitsL s (i + 1)).filter (fun z => (ownV o).contains z) = (bitsL s i).filter (fun z => (ownV o).contains z) ++ [(i : Int)] by rw [HB1.out, List.filter_append, List.filter_cons, if_pos hc]; rfl)
            have hfl : ((bitsL s i).filter fun z => (ownV o).contains z).length ≤ 100000 := Nat.le_trans List.filter_sublist.length_le (by omega)
            clear hc
            go_wp2_with fail
            refine hq.mono ?_
            rintro e wq ⟨rfl, rfl⟩
            go_wp2_with (at_builtin; refine wpList_pushI rfl _ _ rfl HK2.out rfl rfl hfl hBr2.size ?_; intro v2' wr3 hown2 hbb2 hkeep2)
            obtain ⟨hk3, hap3⟩ := hkeep2 _ _ HOA.out HA2.out.symm
            go_roundw
            case rel => exact ⟨i + 1, by omega, by go_num, by rw [HB1.out]; exact hk3, by rw [HB2.out]; exact hown2, hap3.symm, hBr2.trans hbb2⟩
            case measure => simp [intOf]; omega
          · rw [Bool.eq_false_iff.2 hc] at hq
            have HB2 := Lib.hid (show (bitsL s (i + 1)).filter (fun z => (ownV o).contains z) = (bitsL s i).filter (fun z => (ownV o).contains z) by rw [HB1.out, List.filter_append, List.filter_cons, if_neg hc, List.filter_nil, List.append_nil])
            clear hc
            go_wp2_with fail
            refine hq.mono ?_
            rintro e wq ⟨rfl, rfl⟩
            go_wp2
            go_roundw
            case rel => exact ⟨i + 1, by omega, by go_num, by rw [HB1.out]; exact HOA.out, by rw [HB2.out]; exact HK2.out, HA2.out, hBr2⟩
            case measure => simp [intOf]; omega
        · have f1 : ((s / 2 ^ i).tmod 2 == 0) = true := by rw [HBZ.out, Bool.eq_false_iff.2 hb]; rfl
          have HB1 := Lib.hid (show bitsL s (i + 1) = bitsL s i by rw [HBS.out, if_neg hb])
          clear HBZ HBS hb
          go_wp2
          go_roundw
          case rel => exact ⟨i + 1, by omega, by go_num, by rw [HB1.out]; exact HO1.out, by rw [HB1.out]; exact HO2.out, HAP.out, hBr⟩
          case measure => simp [intOf]; omega
      · obtain rfl : i = l.length := by omega
        have ha := bitsL_asc s l.length
        have hm1 := fun z (h : z ∈ bitsL s l.length) => bitsL_mem h
        obtain ⟨r1, r2⟩ := sent_yes HV.out ha hm1
        obtain ⟨r3, r4⟩ := sent_yes HV.out (L18.asc_filter ha fun z => (ownV o).contains z) (fun z h => hm1 z (List.mem_filter.1 h).1)
        have r5 := L18.sent_mine (o := o) (x := bitsL s l.length)
        rw [r5] at r3
        obtain ⟨q, hqv⟩ : ∃ q, sentV o (bitsL s l.length) = q := ⟨_, rfl⟩
        rw [hqv] at r1 r3
        have HS9 := Lib.hid (HS8.out.later hBr)
        have HO2 := Lib.hid ho2.ints
        have hq := sent26 _ _ _ _ _ _ _ HS9.out.opt HS9.out.ps ho1.ints
        rw [show (⟨optHd 1, o⟩ : OptD).slots = o from rfl, r1, r2] at hq
        have HR := Lib.hid (And.intro r3 r4)
        obtain ⟨z0, z1, z2, z3, z4, z5, z6, z7, z8⟩ := HS9.out.cells
        clear ha hm1 r1 r2 r3 r4 r5 hqv ho1 ho2 hap
        go_wp2_with fail
        refine hq.mono ?_
        rintro e wa ⟨rfl, ba⟩
        clear hq z0 z1 z2 z3 z4 z5 z6 z7 z8
        have HSa := Lib.hid (HS9.out.later ba)
        have hq := sent26 _ _ _ _ _ _ _ HSa.out.opt HSa.out.ps (IntsAt_below HO2.out ba)
        rw [show (⟨optHd 1, o⟩ : OptD).slots = o from rfl, HR.out.1, HR.out.2] at hq
        obtain ⟨z0, z1, z2, z3, z4, z5, z6, z7, z8⟩ := HSa.out.cells
        go_wp2_with fail
        refine hq.mono ?_
        rintro e wb ⟨rfl, bb⟩
        clear hq z0 z1 z2 z3 z4 z5 z6 z7 z8
        go_wp2
        go_ret
        exact ⟨rfl, (HSa.out.later bb).below⟩
  · have d1 : decide (0 < o.length) = false := decide_eq_false hol
    go_wp2
    go_ret
    refine ⟨rfl, ?_⟩
    exact b13.alloc b13.size _
end Go.Proofs.Ytmajkagmcdlncaa

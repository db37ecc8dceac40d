/- nadirlaw18.LossLatest. -/
import Derived.Test.YtmajkagmcdlncaaQ2
namespace Go.Proofs.Ytmajkagmcdlncaa
open Go.RowKit Go.Shelf
open L18 (Pass Slot noPass noSlot validB passesG optV pickV X3 ownV mostV sentV allowB lateL lastV)

set_option maxRecDepth 100000 in
set_option maxHeartbeats 4000000 in
theorem latest_true (vx vy : Value) (x : List X3) (y : List Int) (losses : Int) (w : World) (hx : XsAt w vx x) (hy : IntsAt w vy y) (hxr : ∀ a ∈ x, XR a) (hyr : ∀ a ∈ y, InR a) (hlo : InR losses) :
    Calls Try.prog 6 #[vx, vy, .int .i64 losses] w fun e w' => e = .returned (.bool true) ∧ Below w.heap.size w w' := by
  have HX := Lib.hid hx
  have HY := Lib.hid hy
  have HXR := Lib.hid hxr
  have HYR := Lib.hid hyr
  clear hx hy hxr hyr
  go_enter Try.func6, Try.ntmps6
  go_wp2_with fail
  refine (sane10 _).mono ?_
  rintro e w1 ⟨rfl, b1⟩
  have hq := passes11 _ x w1 (HX.out.later b1) HXR.out
  go_wp2_with fail
  refine hq.mono ?_
  rintro e w2 ⟨vp, rfl, hp, b2⟩
  clear hq
  have hps := hp.passes
  have b12 := b1.trans (b2.mono b1.size)
  have hq := option12 1 vp _ _ _ w2 hps (HY.out.below b12) (sureOK_G x) HYR.out (by have := passesG_len x; omega)
  obtain ⟨pa, pc, rfl, hple, hpcm⟩ := hps.len
  unfold maxLen at hpcm
  have hpl := passesG_len x
  have HOK := Lib.hid (fun h => L18.optV_ok (x := x) y h)
  have HE := Lib.hid (show (optV (passesG x) y).length = 0 ∨ passesG x ≠ [] from by
    by_cases h : passesG x = []
    · left
      have hv : optV (passesG x) y = [] := by
        rw [h]; exact optV_nil y
      rw [hv]; rfl
    · exact .inr h)
  generalize hl : passesG x = l at hps hq hple hpl HOK HE
  clear hp
  generalize ho : optV l y = o at hq HOK HE
  have HP := Lib.hid hps
  clear hps hl ho
  go_wp2_with fail
  refine hq.mono ?_
  rintro e w3 ⟨⟨vo, rfl, vs, rfl, hs⟩, b3⟩
  dsimp only [optHd] at hs ⊢
  clear hq
  obtain ⟨sa, sc, rfl, hsle, hscm⟩ := hs.len
  unfold maxLen at hscm
  have b13 := b12.trans (b3.mono b12.size)
  by_cases hol : 0 < o.length
  · have d1 : decide (0 < o.length) = true := decide_eq_true hol
    obtain ⟨W, hW⟩ : ∃ W, W = w3.alloc (.cells #[.int .i64 1, .int .i64 0, .int .i64 0, .int .i64 0, .int .i64 0, .int .i64 0, .int .i64 0, .int .i64 1, .slice sa o.length sc] 28) := ⟨_, rfl⟩
    have hbW : Below w3.heap.size w3 W := by rw [hW]; exact (Below.refl _ _).alloc (Nat.le_refl _) _
    have hS : LW w W w3.heap.size (.slice pa l.length pc) (.slice sa o.length sc) l o := ⟨b13.trans (hbW.mono b13.size), PassesAt.later (PassesAt.later HP.out b3) hbW, by rw [hW]; exact Blk.new _ _ _, SlotsAt.later hs hbW⟩
    go_upto_region 5 with (fail)
    rw [← hW]
    clear hW hbW hs b1 b2 b3 b12 b13
    generalize w3.heap.size = B at hS ⊢
    have hv := HOK.out (by rcases HE.out with h | h; omega; exact h)
    have h6 := hv.2.2
    have HV := Lib.hid hv.1
    clear HOK HE hv HX HY HXR HYR
    have hp13 := fun W => pick13 losses 4 W hlo (by decide) (by decide)
    obtain ⟨⟨f1, f2, f3⟩, ⟨f4, f5⟩, f6⟩ := late_facts HV.out hol losses
    have hsl := fun x h => sent_last (l := l) (o := o) (k := pickV losses 4) (x := x) h
    have hon := Nat.le_trans (own_len o) h6
    obtain ⟨k, hk⟩ : ∃ k, pickV losses 4 = k := ⟨_, rfl⟩
    rw [hk] at hp13 f1 f2 f3 f4 f5 f6 hsl
    obtain ⟨lv, hlv⟩ : ∃ lv, lastV l o k = lv := ⟨_, rfl⟩
    obtain ⟨ll, hll⟩ : ∃ ll, lateL l o k = ll := ⟨_, rfl⟩
    rw [hlv] at f1 f4 hsl
    rw [hll] at f2 f4 f5 f6
    have hlen : ll.length ≤ 6 := by
      rw [← hll]
      unfold lateL
      exact Nat.le_trans (own_len _) (Nat.le_trans (by rw [List.length_take]; omega) h6)
    have HP13 := Lib.hid hp13
    have HF := Lib.hid (And.intro (And.intro f4 f5) f6)
    have HSL := Lib.hid hsl
    have HSUB := Lib.hid (fun s => sub_sent (l := l) (o := o) HV.out s)
    have HS := Lib.hid hS
    obtain ⟨z0, z1, z2, z3, z4, z5, z6, z7, z8⟩ := hS.cells
    clear hp13 f4 f5 f6 hS hk hlv hll hsl
    go_wp2_with fail
    refine (HP13.out _).mono ?_
    rintro e w4 ⟨rfl, rfl⟩
    have hq := own33 _ _ _ HS.out.opt (by dsimp only; omega)
    rw [show (⟨optHd 1, o⟩ : OptD).slots = o from rfl] at hq
    go_wp2_with fail
    refine hq.mono ?_
    rintro e w5 ⟨vm, rfl, hI, b5⟩
    clear hq z0 z1 z2 z3 z4 z5 z6 z7 z8
    have HS5 := Lib.hid (HS.out.later b5)
    have HI := Lib.hid hI.ints
    obtain ⟨ma, mc, rfl, hmle, hmcm⟩ := SliceOf.len hI.ints
    unfold maxLen at hmcm
    have hq := latest23 _ _ _ _ k _ HS5.out.opt HS5.out.ps
    rw [show (⟨optHd 1, o⟩ : OptD).slots = o from rfl, f1, f2, f3] at hq
    obtain ⟨z0, z1, z2, z3, z4, z5, z6, z7, z8⟩ := HS5.out.cells
    clear HS b5 hI f1 f2 f3
    go_wp2_with fail
    refine hq.mono ?_
    rintro e w6 ⟨⟨v2, rfl, hI2⟩, b6⟩
    clear hq z0 z1 z2 z3 z4 z5 z6 z7 z8
    have HS6 := Lib.hid (HS5.out.later b6)
    have HI := Lib.hid (IntsAt_below HI.out b6)
    have HI2 := Lib.hid hI2
    have hq := sent26 _ _ _ _ _ _ _ HS6.out.opt HS6.out.ps hI2
    rw [show (⟨optHd 1, o⟩ : OptD).slots = o from rfl, HF.out.1.1, HF.out.1.2] at hq
    obtain ⟨z0, z1, z2, z3, z4, z5, z6, z7, z8⟩ := HS6.out.cells
    clear HS5 b6 hI2
    go_wp2_with fail
    refine hq.mono ?_
    rintro e w7 ⟨rfl, b7⟩
    clear hq z0 z1 z2 z3 z4 z5 z6 z7 z8
    have HS7 := Lib.hid (HS6.out.later b7)
    have HI := Lib.hid (IntsAt_below HI.out b7)
    have hq := allowed28 _ _ _ _ k _ HS7.out.ps (IntsAt_below HI2.out b7) (by omega)
    rw [HF.out.2] at hq
    clear HS6 b7 HI2 HF
    go_wp2_with fail
    refine hq.mono ?_
    rintro e w8 ⟨rfl, b8⟩
    clear hq
    have HS8 := Lib.hid (HS7.out.later b8)
    have HI := Lib.hid (IntsAt_below HI.out b8)
    clear HS7 b8
    have e6 : decide (6 < ((ownV o).length : Int)) = false := decide_eq_false (by omega)
    have hpw : (2 : Nat) ^ (ownV o).length ≤ 64 := by
      have : (2 : Nat) ^ (ownV o).length ≤ 2 ^ 6 := Nat.pow_le_pow_right (by decide) (by omega)
      omega
    obtain ⟨N, hN⟩ : ∃ N : Nat, 2 ^ (ownV o).length = N := ⟨_, rfl⟩
    rw [hN] at hpw
    have eN : wrap64 ((2 : Int) ^ (ownV o).length) = (N : Int) := by
      have h : ((2 : Int) ^ (ownV o).length) = (N : Int) := by rw [← hN]; simp
      rw [h]; unfold wrap64; omega
    clear hN
    go_wp2
    go_loopw [17, 18, 19, 20, 21] (fun u17 _ _ _ _ wr => ∃ c : Nat, c ≤ N ∧ u17 = .int .i64 (c : Int) ∧ Below w8.heap.size w8 wr) (fun u17 _ _ _ _ _ => (N - intOf u17).toNat)
    case atStart => exact ⟨0, by omega, rfl, Below.refl _ _⟩
    case round =>
      obtain ⟨c, hc, rfl, hBr⟩ := hrel
      by_cases hlt : c < N
      · go_wp2
        go_loopw [18, 19] (fun u18 u19 wq => ∃ i : Nat, i ≤ (ownV o).length ∧ u19 = .int .i64 (i : Int) ∧ OwnI wq w8.heap.size u18 (subL (ownV o) (c : Int) i) ∧ Below w8.heap.size w8 wq) (fun _ u19 _ => ((ownV o).length - intOf u19).toNat)
        case atStart => exact ⟨0, by omega, rfl, World.ownsRow_nil _ _ _ _, hBr⟩
        case round =>
          obtain ⟨i, hi, rfl, ho1, hBq⟩ := hrel
          by_cases hil : i < (ownV o).length
          · have i1 : (i : Int) < 64 := by omega
            have j1 : (0 : Int) ≤ (i : Int) ∧ (i : Int) < ((ownV o).length : Int) := by omega
            obtain ⟨b, off, rfl, g0⟩ := (IntsAt_below HI.out hBq).get (getD_some 0 hil)
            have hsub := subL_len (ownV o) (c : Int) i hi
            have HO1 := Lib.hid ho1
            clear ho1
            by_cases hb : bitI (c : Int) i = true
            · have q1 : (((c : Int) / 2 ^ i).tmod 2 == 1) = true := hb
              have HB1 := Lib.hid (show subL (ownV o) (c : Int) (i + 1) = subL (ownV o) (c : Int) i ++ [(ownV o).getD i 0] by rw [subL, if_pos hb])
              generalize (ownV o).getD i 0 = z at g0 HB1
              go_wp2_with (at_builtin; refine wpList_pushI rfl _ _ rfl HO1.out rfl rfl (by omega) hBq.size ?_; intro v' wr2 hown' hbb hkeep)
              go_simp
              refine ⟨⟨i + 1, by omega, by omega, by rw [HB1.out]; exact hown', hBq.trans hbb⟩, ?_⟩
              simp [intOf]; omega
            · have q1 : (((c : Int) / 2 ^ i).tmod 2 == 1) = false := Bool.eq_false_iff.2 hb
              have HB1 := Lib.hid (show subL (ownV o) (c : Int) (i + 1) = subL (ownV o) (c : Int) i by rw [subL, if_neg hb])
              clear hb g0
              go_wp2
              go_roundw
              case rel => exact ⟨i + 1, by omega, by go_num, by rw [HB1.out]; exact HO1.out, hBq⟩
              case measure => simp [intOf]; omega
          · obtain rfl : i = (ownV o).length := by omega
            have HS9 := Lib.hid (HS8.out.later hBq)
            have hi1 := ho1.ints
            have hsl := subL_len (ownV o) (c : Int) (ownV o).length (Nat.le_refl _)
            obtain ⟨r1, r2⟩ := HSUB.out (c : Int)
            have hq := sent26 _ _ _ _ _ _ _ HS9.out.opt HS9.out.ps hi1
            rw [show (⟨optHd 1, o⟩ : OptD).slots = o from rfl, r1, r2] at hq
            obtain ⟨z0, z1, z2, z3, z4, z5, z6, z7, z8⟩ := HS9.out.cells
            have HI1 := Lib.hid hi1
            have hla := HSL.out (subL (ownV o) (c : Int) (ownV o).length)
            generalize subL (ownV o) (c : Int) (ownV o).length = zl at hq HI1 hla hsl
            clear ho1 hi1 r1 r2
            go_wp2_with fail
            refine hq.mono ?_
            rintro e wa ⟨rfl, ba⟩
            clear hq z0 z1 z2 z3 z4 z5 z6 z7 z8
            have hBa := hBq.trans (ba.mono hBq.size)
            generalize sentV o zl = sv at hla ⊢
            by_cases hgt : (lv : Int) < sv
            · have q2 : decide ((lv : Int) < sv) = true := decide_eq_true hgt
              have hal : allowB l zl k = false := by
                refine Bool.eq_false_iff.2 fun h => ?_
                have := hla h
                omega
              have hq := allowed28 _ _ _ _ k _ (PassesAt.later HS9.out.ps ba) (IntsAt_below HI1.out ba) (by omega)
              rw [hal] at hq
              clear hgt hla hal
              go_wp2_with fail
              refine hq.mono ?_
              rintro e wb ⟨rfl, bb⟩
              clear hq
              go_wp2
              go_simp
              refine ⟨⟨c + 1, by omega, by omega, hBa.trans (bb.mono hBa.size)⟩, ?_⟩
              simp [intOf]; omega
            · have q2 : decide ((lv : Int) < sv) = false := decide_eq_false hgt
              clear hgt hla
              go_wp2
              go_roundw
              case rel => exact ⟨c + 1, by omega, by go_num, hBa⟩
              case measure => simp [intOf]; omega
      · obtain rfl : c = N := by omega
        go_wp2
        go_ret
        exact ⟨rfl, (HS8.out.later hBr).below⟩
  · have d1 : decide (0 < o.length) = false := decide_eq_false hol
    go_wp2
    go_ret
    refine ⟨rfl, ?_⟩
    exact b13.alloc b13.size _
end Go.Proofs.Ytmajkagmcdlncaa

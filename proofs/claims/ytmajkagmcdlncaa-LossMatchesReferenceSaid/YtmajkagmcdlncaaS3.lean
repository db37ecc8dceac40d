/- nadirlaw18.sane. -/
import Derived.Test.YtmajkagmcdlncaaS2
namespace Go.Proofs.Ytmajkagmcdlncaa
open Go.RowKit Go.Shelf
open L18 (Pass Slot noPass noSlot validB)

theorem one_slot {W : World} {B : Nat} {p f : Int} (h : Blk W B #[.int .i64 p, .int .i64 f, .int .i64 (f + 2)] 63) : SlotsAt W (.slice (some ⟨B, 0, none⟩) 1 1) [exSlot p f] :=
  ⟨_, 1, rfl, Nat.le_refl _, by decide, fun _ => ⟨B, 0, rfl, fun j y hj => ⟨slotCs y, rfl, fun i c hc => by
    match j, i with
    | 0, i => cases hj; (match i with | 0 | 1 | 2 => cases hc; exact h.cell _ | i + 3 => simp [slotCs] at hc)
    | j + 1, i => simp at hj, rfl⟩⟩⟩
theorem ex_opts {W : World} {B A C sc : Nat} {sa : Option Addr} (h : Blk W B #[.int .i64 0, .int .i64 0, .int .i64 0, .int .i64 0, .int .i64 0, .int .i64 0, .int .i64 0, .int .i64 0, .slice sa exO.length sc, .int .i64 0, .int .i64 0, .int .i64 0, .int .i64 0, .int .i64 0, .int .i64 0, .int .i64 0, .int .i64 0, .slice (some ⟨C, 0, none⟩) 1 1, .int .i64 0, .int .i64 0, .int .i64 0, .int .i64 0, .int .i64 0, .int .i64 0, .int .i64 0, .int .i64 0, .slice (some ⟨A, 0, none⟩) 1 1] 28)
    (hs : SlotsAt W (.slice sa exO.length sc) exO) (h1 : SlotsAt W (.slice (some ⟨C, 0, none⟩) 1 1) [exSlot 1 100]) (h2 : SlotsAt W (.slice (some ⟨A, 0, none⟩) 1 1) [exSlot 2 1500]) : OptsAt W (.slice (some ⟨B, 0, none⟩) 3 3) exOs :=
  ⟨_, 3, rfl, by decide, by decide, fun _ => ⟨B, 0, rfl, fun j y hj => by
    match j with
    | 0 => cases hj; exact ⟨optCells exHd (.slice sa exO.length sc), rfl, fun i c hc => (by match i with | 0 | 1 | 2 | 3 | 4 | 5 | 6 | 7 | 8 => cases hc; exact h.cell _ | i + 9 => simp [optCells] at hc), _, rfl, hs⟩
    | 1 => cases hj; exact ⟨optCells exHd (.slice (some ⟨C, 0, none⟩) 1 1), rfl, fun i c hc => (by match i with | 0 | 1 | 2 | 3 | 4 | 5 | 6 | 7 | 8 => cases hc; exact h.cell _ | i + 9 => simp [optCells] at hc), _, rfl, h1⟩
    | 2 => cases hj; exact ⟨optCells exHd (.slice (some ⟨A, 0, none⟩) 1 1), rfl, fun i c hc => (by match i with | 0 | 1 | 2 | 3 | 4 | 5 | 6 | 7 | 8 => cases hc; exact h.cell _ | i + 9 => simp [optCells] at hc), _, rfl, h2⟩
    | j + 3 => simp [exOs] at hj⟩⟩
set_option maxRecDepth 100000 in
set_option maxHeartbeats 4000000 in
theorem sane10 (w : World) : Calls Try.prog 10 #[] w fun e w' => e = .returned (.bool true) ∧ Below w.heap.size w w' := by
  go_enter Try.func10, Try.ntmps10
  go_wp2_with fail
  refine (example36 _).mono ?_
  rintro e w1 ⟨⟨vp, _, rfl, hp, vs, rfl, hs⟩, b1⟩
  dsimp only at hs
  obtain ⟨pa, pc, rfl, hple, hpcm⟩ := hp.len
  obtain ⟨sa, sc, rfl, hsle, hscm⟩ := hs.len
  unfold maxLen at hpcm hscm
  obtain ⟨W, hW⟩ : ∃ W, W = w1.alloc (.cells #[.int .i64 0, .int .i64 0, .int .i64 0, .int .i64 0, .int .i64 0, .int .i64 0, .int .i64 0, .int .i64 0, .slice sa exO.length sc] 28) := ⟨_, rfl⟩
  have hbW : Below w1.heap.size w1 W := by rw [hW]; exact (Below.refl _ _).alloc (Nat.le_refl _) _
  have hS : SW w W w1.heap.size (.slice pa exL.length pc) (.slice sa exO.length sc) := ⟨b1.trans (hbW.mono b1.size), PassesAt.later hp hbW, by rw [hW]; exact Blk.new _ _ _, SlotsAt.later hs hbW⟩
  go_upto_region 2 with (fail)
  rw [← hW]
  clear hW hbW hs hp b1
  generalize w1.heap.size = B at hS ⊢
  have hL0 : Lsts ((((W.alloc (.cells #[.int .i64 0] 3)).alloc (.cells #[.int .i64 0, .int .i64 1] 3)).alloc (.cells #[.int .i64 0, .int .i64 1, .int .i64 2] 3)).alloc (.cells #[.slice none 0 0, .slice (some ⟨W.heap.size, 0, none⟩) 1 1, .slice (some ⟨W.heap.size + 1, 0, none⟩) 2 2, .slice (some ⟨W.heap.size + 1 + 1, 0, none⟩) 3 3] 23)) W.heap.size :=
    ⟨(((Blk.new _ _ _).alloc _).alloc _).alloc _, ((Blk.newAt _ _ _ (by simp)).alloc _).alloc _, (Blk.newAt _ _ _ (by simp)).alloc _, Blk.newAt _ _ _ (by simp)⟩
  have hB0 : Below W.heap.size W ((((W.alloc (.cells #[.int .i64 0] 3)).alloc (.cells #[.int .i64 0, .int .i64 1] 3)).alloc (.cells #[.int .i64 0, .int .i64 1, .int .i64 2] 3)).alloc (.cells #[.slice none 0 0, .slice (some ⟨W.heap.size, 0, none⟩) 1 1, .slice (some ⟨W.heap.size + 1, 0, none⟩) 2 2, .slice (some ⟨W.heap.size + 1 + 1, 0, none⟩) 3 3] 23)) :=
    ((((Below.refl _ _).alloc (Nat.le_refl _) _).alloc (by simp) _).alloc (by simp; omega) _).alloc (by simp; omega) _
  have hS0 := hS.later hB0
  clear hB0
  go_wp2
  go_loopw [3, 4, 5, 6, 39] (fun _ _ _ _ u39 wr => ∃ j : Nat, j ≤ 4 ∧ u39 = .int .i64 (j : Int) ∧ SW w wr B (.slice pa exL.length pc) (.slice sa exO.length sc) ∧ Lsts wr W.heap.size) (fun _ _ _ _ u39 _ => (4 - intOf u39).toNat)
  case atStart => exact ⟨0, by omega, rfl, hS0, hL0⟩
  case round =>
    obtain ⟨j, hj, rfl, hSr, hLr⟩ := hrel
    by_cases hlt : j < 4
    · have i1 : (0 : Int) ≤ (j : Int) ∧ (j : Int) < 4 := by omega
      have d1 : decide ((j : Int) < 4) = true := decide_eq_true (by omega)
      have c1 := hLr.at hlt
      have hI := hLr.ints j
      obtain ⟨xa, hxe⟩ := exV_slice W.heap.size j
      rw [hxe] at c1 hI
      obtain ⟨z0, z1, z2, z3, z4, z5, z6, z7, z8⟩ := hSr.cells
      have hq := sent26 _ _ _ _ _ _ _ hSr.opt hSr.ps hI
      obtain ⟨f1, f2⟩ := sane_sent j hlt
      rw [show (⟨exHd, exO⟩ : OptD).slots = exO from rfl, f1, f2] at hq
      have HS := Lib.hid hSr
      have HL := Lib.hid hLr
      have HA := Lib.hid (fun W => ans_at W hlt)
      clear f1 f2 hI hSr hLr hxe
      generalize (exLost j).length = xn at c1 hq
      go_wp2_with fail
      refine hq.mono ?_
      rintro e w2 ⟨rfl, hB2⟩
      have c2 := HA.out w2
      go_wp2
      have hB3 := hB2.alloc hB2.size (.cells #[.int .i64 0, .int .i64 2, .int .i64 3, .int .i64 (-1)] 3)
      go_roundw
      case rel => exact ⟨j + 1, by omega, by go_num, HS.out.later hB3, HL.out.later hB3⟩
      case measure => simp [intOf]; omega
    · obtain rfl : j = 4 := by omega
      clear hL0 hS0 hLr
      go_wp2
      go_loopw [7, 8, 9, 10, 11, 12] (fun u7 _ _ _ _ _ wr => ∃ j : Nat, j ≤ 3 ∧ u7 = .int .i64 (j : Int) ∧ SW w wr B (.slice pa exL.length pc) (.slice sa exO.length sc)) (fun u7 _ _ _ _ _ _ => (3 - intOf u7).toNat)
      case atStart => exact ⟨0, by omega, rfl, hSr⟩
      case round =>
        clear hSr
        obtain ⟨j, hj, rfl, hSr⟩ := hrel
        by_cases hlt : j < 3
        · have i1 : (0 : Int) ≤ (j : Int) ∧ (j : Int) < 3 := by omega
          have d1 : decide ((j : Int) < 3) = true := decide_eq_true (by omega)
          obtain ⟨⟨f1, f2⟩, f3, f4⟩ := sane_late j hlt
          have F4 := Lib.hid (show decide ((j : Int) < 2) = decide (j < 2) by by_cases h : j < 2 <;> simp [h] <;> omega)
          obtain ⟨z0, z1, z2, z3, z4, z5, z6, z7, z8⟩ := hSr.cells
          have hq := latest23 _ _ _ _ (j : Int) _ hSr.opt hSr.ps
          rw [show (⟨exHd, exO⟩ : OptD).slots = exO from rfl, f1, f2, f3] at hq
          have HS := Lib.hid hSr
          have HF := Lib.hid (And.intro f3 f4)
          clear f1 f2 f3 f4 hSr
          go_wp2_with fail
          refine hq.mono ?_
          rintro e w2 ⟨⟨v2, rfl, hI⟩, hB2⟩
          clear z0 z1 z2 z3 z4 z5 z6 z7 z8 hq
          have hS2 := HS.out.later hB2
          obtain ⟨z0, z1, z2, z3, z4, z5, z6, z7, z8⟩ := hS2.cells
          have hq := sure19 _ _ _ _ (j : Int) _ hS2.opt hS2.ps
          rw [show (⟨exHd, exO⟩ : OptD).slots = exO from rfl, HF.out.1, HF.out.2] at hq
          have HS2 := Lib.hid hS2
          have HI := Lib.hid hI
          clear hS2 hI HS hB2
          go_wp2_with fail
          refine hq.mono ?_
          rintro e w3 ⟨rfl, hB3⟩
          have HS3 := Lib.hid (HS2.out.later hB3)
          have HI3 := Lib.hid (HI.out.below hB3)
          clear z0 z1 z2 z3 z4 z5 z6 z7 z8 hq
          have c2 := ans_at3 w3 hlt
          have F5 := F4.out
          go_wp2_with fail
          have hbl : Below w3.heap.size w3 ((((w3.alloc (.cells #[.int .i64 0, .int .i64 2, .int .i64 3] 3)).alloc (.cells #[.int .i64 0] 3)).alloc (.cells #[.int .i64 0, .int .i64 1] 3)).alloc (.cells #[.slice none 0 0, .slice (some ⟨w3.heap.size + 1, 0, none⟩) 1 1, .slice (some ⟨w3.heap.size + 1 + 1, 0, none⟩) 2 2] 23)) :=
            ((((Below.refl _ _).alloc (Nat.le_refl _) _).alloc (by simp) _).alloc (by simp; omega) _).alloc (by simp; omega) _
          have hgen : ∃ x, IntsAt ((((w3.alloc (.cells #[.int .i64 0, .int .i64 2, .int .i64 3] 3)).alloc (.cells #[.int .i64 0] 3)).alloc (.cells #[.int .i64 0, .int .i64 1] 3)).alloc (.cells #[.slice none 0 0, .slice (some ⟨w3.heap.size + 1, 0, none⟩) 1 1, .slice (some ⟨w3.heap.size + 1 + 1, 0, none⟩) 2 2] 23)) x (exLost j) ∧ ∀ h : j < 3, ([.slice none 0 0, .slice (some ⟨w3.heap.size + 1, 0, none⟩) 1 1, .slice (some ⟨w3.heap.size + 1 + 1, 0, none⟩) 2 2] : List Value)[j] = x := by
            match j, hlt with
            | 0, _ => exact ⟨_, nil_ints _, fun _ => rfl⟩
            | 1, _ => exact ⟨_, ints_one (((Blk.newAt _ _ _ (by simp)).alloc _).alloc _), fun _ => rfl⟩
            | 2, _ => exact ⟨_, ints_two ((Blk.newAt _ _ _ (by simp)).alloc _), fun _ => rfl⟩
          obtain ⟨x, hx1, hx2⟩ := hgen
          rw [hx2 hlt]
          clear hx2
          have hi := ints25 v2 x (exLost j) _ (HI3.out.below hbl) hx1
          refine hi.mono ?_
          rintro e w4 ⟨rfl, hB4⟩
          go_wp2
          go_simp
          refine ⟨⟨j + 1, by omega, by omega, (HS3.out.later hbl).later hB4⟩, ?_⟩
          simp [intOf]
          omega
        · obtain rfl : j = 3 := by omega
          have hE : ∀ {x : Nat}, x = 3 → True := fun _ => trivial
          clear hE
          obtain ⟨⟨r1, r2⟩, ⟨r3, r4, r5⟩, ⟨r6, r7⟩, ⟨r8, r9⟩, r10, r11, r12, r13⟩ := sane_rest
          obtain ⟨s1, s2, s3⟩ := sane_worst
          obtain ⟨z0, z1, z2, z3, z4, z5, z6, z7, z8⟩ := hSr.cells
          have hq := needed15 _ _ _ _ _ hSr.opt hSr.ps
          rw [show (⟨exHd, exO⟩ : OptD).slots = exO from rfl, r1, r2] at hq
          have HS := Lib.hid hSr
          have H34 := Lib.hid (And.intro r3 (And.intro r4 r5))
          have H67 := Lib.hid (And.intro r6 r7)
          have H89 := Lib.hid (And.intro r8 r9)
          have HV := Lib.hid (And.intro r10 (And.intro r11 (And.intro r12 r13)))
          have HW := Lib.hid (And.intro s1 (And.intro s2 s3))
          clear r1 r2 r3 r4 r5 r6 r7 r8 r9 r10 r11 r12 r13 s1 s2 s3 hSr
          go_wp2_with fail
          refine hq.mono ?_
          rintro e w2 ⟨rfl, hB2⟩
          have HS2 := Lib.hid (HS.out.later hB2)
          clear z0 z1 z2 z3 z4 z5 z6 z7 z8 hq HS hB2
          go_wp2_with fail
          refine (slot37 2 1500 _ (by omega)).mono ?_
          rintro e w3 ⟨rfl, hB3⟩
          have HS3 := Lib.hid (HS2.out.later hB3)
          clear HS2 hB3
          unfold slotVal
          dsimp only [exSlot]
          go_upto_region 18 with (fail)
          obtain ⟨Y, hY⟩ : ∃ Y, Y = (w3.alloc (.cells #[.int .i64 2, .int .i64 1500, .int .i64 1502] 63)).alloc (.cells #[.int .i64 0, .int .i64 0, .int .i64 0, .int .i64 0, .int .i64 0, .int .i64 0, .int .i64 0, .int .i64 0, .slice (some ⟨w3.heap.size, 0, none⟩) 1 1] 28) := ⟨_, rfl⟩
          have kA : Blk Y w3.heap.size #[.int .i64 2, .int .i64 1500, .int .i64 1502] 63 := by rw [hY]; exact (Blk.new _ _ _).alloc _
          have kB : Blk Y (w3.heap.size + 1) #[.int .i64 0, .int .i64 0, .int .i64 0, .int .i64 0, .int .i64 0, .int .i64 0, .int .i64 0, .int .i64 0, .slice (some ⟨w3.heap.size, 0, none⟩) 1 1] 28 := by rw [hY]; exact Blk.newAt _ _ _ (by simp)
          have bY : Below w3.heap.size w3 Y := by rw [hY]; exact ((Below.refl _ _).alloc (Nat.le_refl _) _).alloc (by simp) _
          have HSY := Lib.hid (HS3.out.later bY)
          rw [← hY]
          clear hY HS3 bY
          generalize w3.heap.size = A at kA kB ⊢
          go_wp2_with fail
          refine (slot37 1 100 _ (by omega)).mono ?_
          rintro e w4 ⟨rfl, hB4⟩
          have HS4 := Lib.hid (HSY.out.later hB4)
          have kA4 := kA.below hB4 kA.lt
          have kB4 := kB.below hB4 kB.lt
          clear HSY hB4 kA kB
          unfold slotVal
          dsimp only [exSlot]
          go_upto_region 19 with (fail)
          obtain ⟨Z, hZ⟩ : ∃ Z, Z = (w4.alloc (.cells #[.int .i64 1, .int .i64 100, .int .i64 102] 63)).alloc (.cells #[.int .i64 0, .int .i64 0, .int .i64 0, .int .i64 0, .int .i64 0, .int .i64 0, .int .i64 0, .int .i64 0, .slice (some ⟨w4.heap.size, 0, none⟩) 1 1] 28) := ⟨_, rfl⟩
          have kC : Blk Z w4.heap.size #[.int .i64 1, .int .i64 100, .int .i64 102] 63 := by rw [hZ]; exact (Blk.new _ _ _).alloc _
          have kD : Blk Z (w4.heap.size + 1) #[.int .i64 0, .int .i64 0, .int .i64 0, .int .i64 0, .int .i64 0, .int .i64 0, .int .i64 0, .int .i64 0, .slice (some ⟨w4.heap.size, 0, none⟩) 1 1] 28 := by rw [hZ]; exact Blk.newAt _ _ _ (by simp)
          have bZ : Below w4.heap.size w4 Z := by rw [hZ]; exact ((Below.refl _ _).alloc (Nat.le_refl _) _).alloc (by simp) _
          have HSZ := Lib.hid (HS4.out.later bZ)
          have kAZ := kA4.below bZ kA4.lt
          have kBZ := kB4.below bZ kB4.lt
          rw [← hZ]
          clear hZ HS4 bZ kA4 kB4
          generalize w4.heap.size = C at kC kD ⊢
          obtain ⟨z0, z1, z2, z3, z4, z5, z6, z7, z8⟩ := HSZ.out.cells
          have p0 := kBZ.cell 0
          have p1 := kBZ.cell 1
          have p2 := kBZ.cell 2
          have p3 := kBZ.cell 3
          have p4 := kBZ.cell 4
          have p5 := kBZ.cell 5
          have p6 := kBZ.cell 6
          have p7 := kBZ.cell 7
          have p8 := kBZ.cell 8
          have q0 := kD.cell 0
          have q1 := kD.cell 1
          have q2 := kD.cell 2
          have q3 := kD.cell 3
          have q4 := kD.cell 4
          have q5 := kD.cell 5
          have q6 := kD.cell 6
          have q7 := kD.cell 7
          have q8 := kD.cell 8
          simp only [List.getElem?_toArray, List.getElem?_cons_zero, List.getElem?_cons_succ] at p0 p1 p2 p3 p4 p5 p6 p7 p8 q0 q1 q2 q3 q4 q5 q6 q7 q8
          have kAZ := Lib.hid kAZ
          have kC := Lib.hid kC
          clear kBZ kD
          go_wp2_with fail
          have bO : Below Z.heap.size Z (Z.alloc (.cells #[.int .i64 0, .int .i64 0, .int .i64 0, .int .i64 0, .int .i64 0, .int .i64 0, .int .i64 0, .int .i64 0, .slice sa exO.length sc, .int .i64 0, .int .i64 0, .int .i64 0, .int .i64 0, .int .i64 0, .int .i64 0, .int .i64 0, .int .i64 0, .slice (some ⟨C, 0, none⟩) 1 1, .int .i64 0, .int .i64 0, .int .i64 0, .int .i64 0, .int .i64 0, .int .i64 0, .int .i64 0, .int .i64 0, .slice (some ⟨A, 0, none⟩) 1 1] 28)) := (Below.refl _ _).alloc (Nat.le_refl _) _
          have hw := worst31 _ _ exOs exL 1 _ (ex_opts (Blk.new Z #[.int .i64 0, .int .i64 0, .int .i64 0, .int .i64 0, .int .i64 0, .int .i64 0, .int .i64 0, .int .i64 0, .slice sa exO.length sc, .int .i64 0, .int .i64 0, .int .i64 0, .int .i64 0, .int .i64 0, .int .i64 0, .int .i64 0, .int .i64 0, .slice (some ⟨C, 0, none⟩) 1 1, .int .i64 0, .int .i64 0, .int .i64 0, .int .i64 0, .int .i64 0, .int .i64 0, .int .i64 0, .int .i64 0, .slice (some ⟨A, 0, none⟩) 1 1] 28) (SlotsAt.later HSZ.out.sl bO) (one_slot (kC.out.alloc _)) (one_slot (kAZ.out.alloc _))) (PassesAt.later HSZ.out.ps bO) sane_can
          rw [HW.out.1, HW.out.2.1, HW.out.2.2] at hw
          have HSO := Lib.hid (HSZ.out.later bO)
          clear z0 z1 z2 z3 z4 z5 z6 z7 z8 p0 p1 p2 p3 p4 p5 p6 p7 p8 q0 q1 q2 q3 q4 q5 q6 q7 q8 HW kAZ kC HSZ bO
          refine hw.mono ?_
          rintro e w5 ⟨⟨v1, v2, rfl, hI1, hI2⟩, hB5⟩
          have HI1 := Lib.hid hI1
          have HI2 := Lib.hid (show IntsAt w5 v2 [1, 2] from hI2)
          have HS5 := Lib.hid (HSO.out.later hB5)
          clear hw hI1 hI2 hB5 HSO
          obtain ⟨z0, z1, z2, z3, z4, z5, z6, z7, z8⟩ := HS5.out.cells
          have hq := fails21 _ _ _ _ 2 _ HS5.out.opt HS5.out.ps
          rw [show (⟨exHd, exO⟩ : OptD).slots = exO from rfl, H34.out.1, H34.out.2.1, H34.out.2.2] at hq
          go_wp2_with fail
          refine hq.mono ?_
          rintro e w6 ⟨⟨v3, rfl, hI3⟩, hB6⟩
          have HI3 := Lib.hid hI3
          have HI1 := Lib.hid (HI1.out.below hB6)
          have HI2 := Lib.hid (HI2.out.below hB6)
          have HS6 := Lib.hid (HS5.out.later hB6)
          clear z0 z1 z2 z3 z4 z5 z6 z7 z8 hq hI3 hB6 HS5 H34
          obtain ⟨z0, z1, z2, z3, z4, z5, z6, z7, z8⟩ := HS6.out.cells
          have hq := fails21 _ _ _ _ 1 _ HS6.out.opt HS6.out.ps
          rw [show (⟨exHd, exO⟩ : OptD).slots = exO from rfl, H67.out.1, H67.out.2] at hq
          go_wp2_with fail
          refine hq.mono ?_
          rintro e w7 ⟨⟨v4, rfl, -⟩, hB7⟩
          have HI3 := Lib.hid (HI3.out.below hB7)
          have HI1 := Lib.hid (HI1.out.below hB7)
          have HI2 := Lib.hid (HI2.out.below hB7)
          have HS7 := Lib.hid (HS6.out.later hB7)
          clear z0 z1 z2 z3 z4 z5 z6 z7 z8 hq hB7 HS6 H67
          obtain ⟨z0, z1, z2, z3, z4, z5, z6, z7, z8⟩ := HS7.out.cells
          have hq := sure19 _ _ _ _ 4 _ HS7.out.opt HS7.out.ps
          rw [show (⟨exHd, exO⟩ : OptD).slots = exO from rfl, H89.out.1] at hq
          go_wp2_with fail
          refine hq.mono ?_
          rintro e w8 ⟨rfl, hB8⟩
          have HI3 := Lib.hid (HI3.out.below hB8)
          have HI1 := Lib.hid (HI1.out.below hB8)
          have HI2 := Lib.hid (HI2.out.below hB8)
          have HS8 := Lib.hid (HS7.out.later hB8)
          clear z0 z1 z2 z3 z4 z5 z6 z7 z8 hq hB8 HS7
          obtain ⟨z0, z1, z2, z3, z4, z5, z6, z7, z8⟩ := HS8.out.cells
          have bA : Below w8.heap.size w8 (w8.alloc (.cells #[.int .i64 1, .int .i64 0] 3)) := (Below.refl _ _).alloc (Nat.le_refl _) _
          have HSA := Lib.hid (HS8.out.later bA)
          have hq := sent26 _ _ _ _ _ _ _ HSA.out.opt HSA.out.ps (ints_two (Blk.new w8 #[.int .i64 1, .int .i64 0] 3))
          rw [show (⟨exHd, exO⟩ : OptD).slots = exO from rfl, H89.out.2] at hq
          go_wp2_with fail
          refine hq.mono ?_
          rintro e w9 ⟨rfl, hB9⟩
          have hB9 := bA.trans (hB9.mono bA.size)
          have HI3 := Lib.hid (HI3.out.below hB9)
          have HI1 := Lib.hid (HI1.out.below hB9)
          have HI2 := Lib.hid (HI2.out.below hB9)
          have HS9 := Lib.hid (HS8.out.later hB9)
          clear z0 z1 z2 z3 z4 z5 z6 z7 z8 hq hB9 bA HSA HS8 H89
          go_wp2_with fail
          have bA : Below w9.heap.size w9 (w9.alloc (.cells #[.int .i64 0, .int .i64 1, .int .i64 2] 3)) := (Below.refl _ _).alloc (Nat.le_refl _) _
          refine (ints25 v3 (.slice (some ⟨w9.heap.size, 0, none⟩) 3 3) [0, 1, 2] _ (HI3.out.below bA) (ints_three (Blk.new w9 #[.int .i64 0, .int .i64 1, .int .i64 2] 3))).mono ?_
          rintro e wa ⟨rfl, hBn⟩
          have hBn := bA.trans (hBn.mono bA.size)
          have HI1 := Lib.hid (HI1.out.below hBn)
          have HI2 := Lib.hid (HI2.out.below hBn)
          have HS9 := Lib.hid (HS9.out.later hBn)
          clear hBn bA HI3
          go_wp2_with fail
          have bA : Below wa.heap.size wa (wa.alloc (.cells #[.int .i64 1, .int .i64 2] 3)) := (Below.refl _ _).alloc (Nat.le_refl _) _
          refine (ints25 v1 (.slice (some ⟨wa.heap.size, 0, none⟩) 2 2) [1, 2] _ (HI1.out.below bA) (ints_two (Blk.new wa #[.int .i64 1, .int .i64 2] 3))).mono ?_
          rintro e wb ⟨rfl, hBn⟩
          have hBn := bA.trans (hBn.mono bA.size)
          have HI2 := Lib.hid (HI2.out.below hBn)
          have HS9 := Lib.hid (HS9.out.later hBn)
          clear hBn bA HI1
          go_wp2_with fail
          have bA : Below wb.heap.size wb (wb.alloc (.cells #[.int .i64 1, .int .i64 2] 3)) := (Below.refl _ _).alloc (Nat.le_refl _) _
          refine (ints25 v2 (.slice (some ⟨wb.heap.size, 0, none⟩) 2 2) [1, 2] _ (HI2.out.below bA) (ints_two (Blk.new wb #[.int .i64 1, .int .i64 2] 3))).mono ?_
          rintro e wc ⟨rfl, hBn⟩
          have hBn := bA.trans (hBn.mono bA.size)
          have HS9 := Lib.hid (HS9.out.later hBn)
          clear hBn bA HI2
          obtain ⟨z0, z1, z2, z3, z4, z5, z6, z7, z8⟩ := HS9.out.cells
          have hq := valid17 _ _ _ _ _ HS9.out.opt HS9.out.ps
          rw [show (⟨exHd, exO⟩ : OptD).slots = exO from rfl, HV.out.1] at hq
          go_wp2_with fail
          refine hq.mono ?_
          rintro e wd ⟨rfl, hBd⟩
          have HSd := Lib.hid (HS9.out.later hBd)
          clear z0 z1 z2 z3 z4 z5 z6 z7 z8 hq hBd HS9
          have hq := valid17 (.agg #[.int .i64 0, .int .i64 0, .int .i64 0, .int .i64 0, .int .i64 0, .int .i64 0, .int .i64 0, .int .i64 0, .slice none 0 0]) _ ⟨exHd, []⟩ _ wd ⟨_, rfl, none, 0, rfl, Nat.le_refl _, Nat.zero_le _, fun h => absurd h (Nat.lt_irrefl 0)⟩ HSd.out.ps
          rw [show (⟨exHd, []⟩ : OptD).slots = [] from rfl, HV.out.2.1] at hq
          go_wp2_with fail
          refine hq.mono ?_
          rintro e we ⟨rfl, hBe⟩
          have HSe := Lib.hid (HSd.out.later hBe)
          clear hq hBe HSd
          have bA : Below we.heap.size we (we.alloc (.cells #[.int .i64 0, .int .i64 2] 3)) := (Below.refl _ _).alloc (Nat.le_refl _) _
          have hq := allowed28 _ _ _ _ 1 _ (PassesAt.later HSe.out.ps bA) (ints_two (Blk.new we #[.int .i64 0, .int .i64 2] 3)) (by decide)
          rw [HV.out.2.2.1] at hq
          go_wp2_with fail
          refine hq.mono ?_
          rintro e wf ⟨rfl, hBf⟩
          have HSf := Lib.hid (HSe.out.later (bA.trans (hBf.mono bA.size)))
          clear hq hBf HSe bA
          have bA : Below wf.heap.size wf (wf.alloc (.cells #[.int .i64 0, .int .i64 1] 3)) := (Below.refl _ _).alloc (Nat.le_refl _) _
          have hq := allowed28 _ _ _ _ 1 _ (PassesAt.later HSf.out.ps bA) (ints_two (Blk.new wf #[.int .i64 0, .int .i64 1] 3)) (by decide)
          rw [HV.out.2.2.2] at hq
          go_wp2_with fail
          refine hq.mono ?_
          rintro e wg ⟨rfl, hBg⟩
          have HSg := Lib.hid (HSf.out.later (bA.trans (hBg.mono bA.size)))
          clear hq hBg HSf bA
          go_wp2
          go_ret
          exact ⟨rfl, HSg.out.below⟩
end Go.Proofs.Ytmajkagmcdlncaa

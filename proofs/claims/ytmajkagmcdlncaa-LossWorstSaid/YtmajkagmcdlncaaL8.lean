/- nadirlaw18.LossWorst. -/
import Derived.Test.YtmajkagmcdlncaaWF
namespace Go.Proofs.Ytmajkagmcdlncaa
open Go.RowKit Go.Shelf
open L18 (Pass Slot noPass noSlot validB passesG optV pickV X3 ownV mostV sentV allowB limB putV manyV)

set_option maxRecDepth 100000 in
set_option maxHeartbeats 4000000 in
theorem worst_true (vx vy : Value) (x : List X3) (y : List (List Int)) (losses set : Int) (w : World) (hx : XsAt w vx x) (hy : RowsAt w vy y) (hxr : ∀ a ∈ x, XR a) (hyr : ∀ r ∈ y, ∀ a ∈ r, InR a) (hlo : InR losses) (hse : InR set) :
    Calls Try.prog 8 #[vx, vy, .int .i64 losses, .int .i64 set] w fun e w' => e = .returned (.bool true) ∧ Below w.heap.size w w' := by
  have HX := Lib.hid hx
  have HY := Lib.hid hy
  have HXR := Lib.hid hxr
  have HYR := Lib.hid hyr
  clear hx hy hxr hyr
  go_enter Try.func8, Try.ntmps8
  go_wp2_with fail
  refine (sane10 _).mono ?_
  rintro e w1 ⟨rfl, b1⟩
  have hq := passes11 _ x w1 (HX.out.later b1) HXR.out
  go_wp2_with fail
  refine hq.mono ?_
  rintro e w2 ⟨vp, rfl, hp, b2⟩
  clear hq
  have hps := hp.passes
  have b12 := b1.trans (b2.mono b1.size)
  have hpl := passesG_len x
  have hq := options30 vp vy _ y w2 hps (HY.out.later b12) (sureOK_G x) HYR.out (by omega)
  have hfa := worst_facts (L18.properG x) (by have := opts_len (passesG x) y; omega) (opts_valid x y) losses
  have HVA := Lib.hid (opts_valid x y)
  have hol := opts_len (passesG x) y
  have HCAN := Lib.hid (can_proper (L18.properG x))
  obtain ⟨pa, pc, rfl, hple, hpcm⟩ := hps.len
  unfold maxLen at hpcm
  generalize hl : passesG x = l at hps hq hple hpl hfa HVA HCAN hol
  generalize hos : optsG l y = os at hq hfa HVA hol
  have HP := Lib.hid hps
  clear hps hl hos hp
  go_wp2_with fail
  refine hq.mono ?_
  rintro e w3 ⟨vo, rfl, ho, b3⟩
  clear hq
  obtain ⟨oa, oc, rfl, hole, hocm⟩ := ho.len
  unfold maxLen at hocm
  have b13 := b12.trans (b3.mono b12.size)
  have HO := Lib.hid ho
  have HP3 := Lib.hid (PassesAt.later HP.out b3)
  clear ho HX HY HXR HYR HP
  have hk4 := L18.pickV_bd losses (n := 4) (by decide)
  have hp13 := fun W => pick13 losses 4 W hlo (by decide) (by decide)
  have hs13 := fun W => pick13 set 4096 W hse (by decide) (by decide)
  obtain ⟨s, hs⟩ : ∃ s, pickV set 4096 = s := ⟨_, rfl⟩
  have hsb := L18.pickV_bd set (n := 4096) (by decide)
  rw [hs] at hs13 hsb
  obtain ⟨k, hk⟩ : ∃ k, pickV losses 4 = k := ⟨_, rfl⟩
  rw [hk] at hp13 hfa hk4
  have HP13 := Lib.hid hp13
  have HS13 := Lib.hid hs13
  obtain ⟨f1, f2, f3, f4, f5, f6, f7⟩ := hfa
  have HF := Lib.hid (And.intro f3 (And.intro f4 (And.intro f5 f7)))
  have HOTH := Lib.hid (fun i => oth_facts (l := l) (s := s) hk4.1 i)
  have HOS := Lib.hid (fun o hv => oth_sent (l := l) (s := s) hk4.1 (o := o) hv)
  have hq := worst31 _ _ os l k w3 HO.out HP3.out HCAN.out
  rw [f1] at hq
  clear hs hk hp13 hs13 f1 f3 f4 f5 f7 b1 b2 b3 b12
  generalize worstL l os k = wl at hq HF f2 f6
  generalize worstS l os k = ws at hq HF
  go_wp2_with fail
  refine (HP13.out _).mono ?_
  rintro e w4 ⟨rfl, rfl⟩
  go_wp2_with fail
  refine hq.mono ?_
  rintro e w5 ⟨⟨v1, v2, rfl, h1, h2⟩, b5⟩
  clear hq
  have hq := allowed28 _ _ l wl k w5 (PassesAt.later HP3.out b5) h1 f6
  rw [f2] at hq
  have H1 := Lib.hid h1
  have H2 := Lib.hid h2
  clear h1 h2 f2 f6
  go_wp2_with fail
  refine hq.mono ?_
  rintro e w6 ⟨rfl, b6⟩
  clear hq
  have b56 := b5.trans (b6.mono b5.size)
  have HP6 := Lib.hid (PassesAt.later HP3.out b56)
  have HO6 := Lib.hid (OptsAt.later HO.out b56)
  have H16 := Lib.hid (IntsAt_below H1.out b6)
  have H26 := Lib.hid (IntsAt_below H2.out b6)
  have b16 := b13.trans (b56.mono b13.size)
  clear b5 b6 b56 b13 HP3 HO H1 H2
  go_wp2
  go_loopw [15, 16, 17] (fun u15 u16 _ wr => ∃ i : Nat, i ≤ l.length ∧ u16 = .int .i64 (i : Int) ∧ IntsF wr u15 (othK l s k i) ∧ Below w6.heap.size w6 wr) (fun _ u16 _ _ => (l.length - intOf u16).toNat)
  case atStart => exact ⟨0, by omega, rfl, IntsF.nil _, Below.refl _ _⟩
  case round =>
    obtain ⟨i, hi, rfl, hI, hBr⟩ := hrel
    by_cases hil : i < l.length
    · have i1 : (i : Int) < 64 := by omega
      have HI := Lib.hid hI
      have hlen := (HOTH.out i).2.2.2
      clear hI
      by_cases hb : bitI s i = true
      · have q1 : ((s / 2 ^ i).tmod 2 == 1) = true := hb
        have HB := Lib.hid (show othK l s k (i + 1) = if allowB l (putV (othK l s k i) i) k = true then putV (othK l s k i) i else othK l s k i by rw [othK, if_pos hb])
        generalize othK l s k i = ot at HI HB hlen
        have hpln := put_len ot (i : Int)
        clear hb
        go_wp2_with fail
        refine (HS13.out _).mono ?_
        rintro e wq ⟨rfl, rfl⟩
        have hq := put34 _ ot (i : Int) _ HI.out (by omega)
        go_wp2_with fail
        refine hq.mono ?_
        rintro e wa ⟨vn, rfl, hn, ba⟩
        clear hq
        have hBa := hBr.trans (ba.mono hBr.size)
        have HN := Lib.hid hn
        have hq := allowed28 _ _ l _ k wa (PassesAt.later HP6.out hBa) hn.ints (by omega)
        clear hn
        generalize putV ot (i : Int) = pt at hq HN HB hpln
        cases ha : allowB l pt k with
        | true =>
          rw [ha] at hq
          have HR := Lib.hid (HB.out.trans (if_pos ha))
          clear ha HB
          go_wp2_with fail
          refine hq.mono ?_
          rintro e wb ⟨rfl, bb⟩
          clear hq
          go_wp2
          go_roundw
          case rel => exact ⟨i + 1, by omega, by go_num, by rw [HR.out]; exact HN.out.below bb, hBa.trans (bb.mono hBa.size)⟩
          case measure => simp [intOf]; omega
        | false =>
          rw [ha] at hq
          have HR := Lib.hid (HB.out.trans (if_neg (by rw [ha]; decide)))
          clear ha HB
          go_wp2_with fail
          refine hq.mono ?_
          rintro e wb ⟨rfl, bb⟩
          clear hq
          go_wp2
          go_roundw
          case rel => exact ⟨i + 1, by omega, by go_num, by rw [HR.out]; exact (HI.out.below ba).below bb, hBa.trans (bb.mono hBa.size)⟩
          case measure => simp [intOf]; omega
      · have q1 : ((s / 2 ^ i).tmod 2 == 1) = false := Bool.eq_false_iff.2 hb
        have HB := Lib.hid (show othK l s k (i + 1) = othK l s k i by rw [othK, if_neg hb])
        clear hb
        go_wp2_with fail
        refine (HS13.out _).mono ?_
        rintro e wq ⟨rfl, rfl⟩
        go_wp2
        go_roundw
        case rel => exact ⟨i + 1, by omega, by go_num, by rw [HB.out]; exact HI.out, hBr⟩
        case measure => simp [intOf]; omega
    · obtain rfl : i = l.length := by omega
      obtain ⟨w9, hren⟩ : ∃ z, z = wr := ⟨_, rfl⟩
      subst hren
      obtain ⟨t1, -, t3, t4⟩ := HOTH.out l.length
      have hmany := HF.out.2.2.2 _ t1 t3
      have HOS := Lib.hid (fun o hv => HOS.out o hv)
      have HIO := Lib.hid hI.ints
      generalize othK l s k l.length = ot at HIO hmany t4 HOS
      clear hI t1 t3 HS13 HP13 HOTH HCAN
      have HP7 := Lib.hid (PassesAt.later HP6.out hBr)
      have HO7 := Lib.hid (OptsAt.later HO6.out hBr)
      have H17 := Lib.hid (IntsAt_below H16.out hBr)
      have H27 := Lib.hid (IntsAt_below H26.out hBr)
      have b17 := b16.trans (hBr.mono b16.size)
      clear HP6 HO6 H16 H26 b16 hBr
      have hms := fun n => L18.many_succ (slotsL os) ot n
      have hm0 : manyV (slotsL os) ot 0 = 0 := rfl
      obtain ⟨mv, hmv⟩ : ∃ f, manyV (slotsL os) ot = f := ⟨_, rfl⟩
      rw [hmv] at hms hm0 hmany
      have HMS := Lib.hid hms
      have HMY := Lib.hid hmany
      clear hmv hms hmany
      obtain ⟨sa, sc, rfl, hsle, hscm⟩ := SliceOf.len H27.out
      have hnl : (nI ws).length = ws.length := by unfold nI; rw [List.length_map]
      rw [hnl] at hsle ⊢
      unfold maxLen at hscm
      go_wp2
      go_loopw [18, 19, 20, 21, 22, 23] (fun u18 u19 _ _ _ _ wq => ∃ i : Nat, i ≤ os.length ∧ u19 = .int .i64 (i : Int) ∧ u18 = .int .i64 (mv i : Nat) ∧ mv i ≤ i ∧ Below w9.heap.size w9 wq) (fun _ u19 _ _ _ _ _ => (os.length - intOf u19).toNat)
      case atStart => exact ⟨0, by omega, rfl, by rw [hm0]; rfl, by omega, Below.refl _ _⟩
      case round =>
        obtain ⟨wq, hren⟩ : ∃ z, z = wr := ⟨_, rfl⟩
        subst hren
        obtain ⟨i, hi, rfl, rfl, hmi, hBq⟩ := hrel
        by_cases hil : i < os.length
        · have j1 : (0 : Int) ≤ (i : Int) ∧ (i : Int) < (os.length : Int) := by omega
          obtain ⟨b, off, vsl, rfl, d0, d1, d2, d3, d4, d5, d6, d7, d8, hsl⟩ := (HO7.out.later hBq).get (getD_some dOpt hil)
          have hvd := HVA.out _ (L18.getD_mem dOpt hil)
          obtain ⟨u1, u2⟩ := HF.out.1 i hil
          have hmi1 := HMS.out i
          rw [slotsL_at] at hmi1
          obtain ⟨r1, r2⟩ := HOS.out _ hvd
          generalize hod : os.getD i dOpt = od at d0 d1 d2 d3 d4 d5 d6 d7 d8 hsl u1 u2 hmi1 r1 r2
          obtain ⟨sb, sd, rfl, hsle2, hscm2⟩ := hsl.len
          have HOD := Lib.hid hod
          have hq := sent26 (.agg #[.int .i64 od.hd.id, .int .i64 od.hd.order, .int .i64 od.hd.clause, .int .i64 od.hd.sat, .int .i64 od.hd.fr, .int .i64 od.hd.to, .int .i64 od.hd.look, .int .i64 od.hd.size, .slice sb od.slots.length sd]) _ _ od l wl wq ⟨_, rfl, hsl⟩ (PassesAt.later HP7.out hBq) (IntsAt_below H17.out hBq)
          rw [u1] at hq
          generalize sentN l od.slots wl = sn at hq u2
          have HR := Lib.hid (And.intro r1 r2)
          have HU := Lib.hid u2
          have HM1 := Lib.hid hmi1
          have HSL := Lib.hid hsl
          clear u1 u2 r1 r2 hmi1 hsl hvd hod
          go_wp2_with fail
          refine hq.mono ?_
          rintro e wa ⟨rfl, ba⟩
          clear hq d0 d1 d2 d3 d4 d5 d6 d7 d8
          have hBa := hBq.trans (ba.mono hBq.size)
          obtain ⟨b', off', vsl', e', d0, d1, d2, d3, d4, d5, d6, d7, d8, hsl⟩ := (HO7.out.later hBa).get (getD_some dOpt hil)
          cases e'
          rw [HOD.out] at d0 d1 d2 d3 d4 d5 d6 d7 hsl
          have hq := sent26 (.agg #[.int .i64 od.hd.id, .int .i64 od.hd.order, .int .i64 od.hd.clause, .int .i64 od.hd.sat, .int .i64 od.hd.fr, .int .i64 od.hd.to, .int .i64 od.hd.look, .int .i64 od.hd.size, vsl']) _ _ od l ot wa ⟨_, rfl, hsl⟩ (PassesAt.later HP7.out hBa) (IntsAt_below HIO.out hBa)
          rw [HR.out.1, HR.out.2] at hq
          generalize hsm : sentV od.slots ot = sm at hq
          have HSM := Lib.hid hsm
          clear hsm hsl
          go_wp2_with fail
          refine hq.mono ?_
          rintro e wb ⟨rfl, bb⟩
          clear hq d0 d1 d2 d3 d4 d5 d6 d7 d8
          have hBb := hBa.trans (bb.mono hBa.size)
          have hq := has35 _ _ (i : Int) wb (IntsAt_below H27.out hBb)
          rw [← HU.out] at hq
          have q0 : ((sn == -1) != (sn == -1)) = false := bne_self_eq_false _
          have hHM := HM1.out
          rw [HSM.out] at hHM
          have HHM := Lib.hid hHM
          clear hHM
          go_wp2_with fail
          rw [hnl] at hq
          refine hq.mono ?_
          rintro e wc ⟨rfl, rfl⟩
          clear hq
          by_cases hs1 : sm = -1
          · have q1 : (sm == -1) = true := beq_iff_eq.2 hs1
            have hw : mv (i + 1) = mv i + 1 := by rw [HHM.out, if_pos hs1]
            have ew : IntKind.i64.wrap ((mv i : Nat) + 1) = ((mv i : Nat) : Int) + 1 := wrapS _ (by omega) (by omega)
            have HW := Lib.hid hw
            clear hs1 hw HHM
            go_wp2
            go_roundw
            case rel => exact ⟨i + 1, by omega, by go_num, by rw [HW.out]; rfl, by rw [HW.out]; omega, hBb⟩
            case measure => simp [intOf]; omega
          · have q1 : (sm == -1) = false := beq_eq_false_iff_ne.2 hs1
            have hw : mv (i + 1) = mv i := by rw [HHM.out, if_neg hs1]; rfl
            have HW := Lib.hid hw
            clear hs1 hw HHM
            go_wp2
            go_roundw
            case rel => exact ⟨i + 1, by omega, by go_num, by rw [HW.out], by rw [HW.out]; omega, hBb⟩
            case measure => simp [intOf]; omega
        · obtain rfl : i = os.length := by omega
          have hmle := HMY.out
          have H28 := Lib.hid (IntsAt_below H27.out hBq)
          have b18 := b17.trans (hBq.mono b17.size)
          have HF2 := Lib.hid HF.out.2
          clear H27 b17 hBq HMY HMS HF HVA HOS HIO HP7 HO7 H17
          generalize mv os.length = mm at hmle hmi
          go_wp2
          go_loopw [24] (fun u24 wz => ∃ i : Nat, i ≤ ws.length ∧ u24 = .int .i64 (i : Int) ∧ Below wq.heap.size wq wz) (fun u24 _ => (ws.length - intOf u24).toNat)
          case atStart => exact ⟨0, by omega, rfl, Below.refl _ _⟩
          case round =>
            obtain ⟨wz, hren⟩ : ∃ z, z = wr := ⟨_, rfl⟩
            subst hren
            obtain ⟨i, hi2, rfl, hBz⟩ := hrel
            by_cases hil : i < ws.length
            · have i1 : (0 : Int) ≤ (i : Int) ∧ (i : Int) < (ws.length : Int) := by omega
              have hget : ∀ j, j < ws.length → ∃ z : Nat, (nI ws)[j]? = some ((z : Nat) : Int) ∧ z < os.length ∧ ws[j]? = some z := fun j hj => by
                refine ⟨ws[j], ?_, HF2.out.2.1 _ (List.getElem_mem hj), List.getElem?_eq_getElem hj⟩
                unfold nI; rw [List.getElem?_map, List.getElem?_eq_getElem hj]; rfl
              obtain ⟨z, z1, z2, z3⟩ := hget i hil
              obtain ⟨b, off, rfl, c0⟩ := (IntsAt_below H28.out hBz).get z1
              have lb : b < wz.heap.size := World.block_lt_of_cell? _ _ c0
              have e0 : decide ((z : Int) < 0) = false := decide_eq_false (by omega)
              have e1 : decide ((os.length : Int) ≤ (z : Int)) = false := decide_eq_false (by omega)
              have e1b : decide (os.length ≤ z) = false := decide_eq_false (by omega)
              have HZ3 := Lib.hid z3
              clear z1 z3
              go_upto_region 30 with (fail)
              by_cases hi0 : 0 < i
              · obtain ⟨m, hkm⟩ : ∃ m, i = m + 1 := ⟨i - 1, by omega⟩
                obtain ⟨q, q1, q2, q3⟩ := hget m (by omega)
                obtain ⟨b', off', e', d0⟩ := (IntsAt_below H28.out hBz).get q1
                cases e'
                have hqz : q < z := by
                  have := List.pairwise_iff_getElem.1 HF2.out.1 m i (by omega) hil (by omega)
                  have e3 := HZ3.out
                  rw [List.getElem?_eq_getElem hil] at e3
                  rw [List.getElem?_eq_getElem (by omega : m < ws.length)] at q3
                  have e4 := Option.some.inj e3
                  have e5 := Option.some.inj q3
                  rw [e4, e5] at this
                  exact this
                have e2 : decide ((0 : Int) < (i : Int)) = true := decide_eq_true (by omega)
                have e3 : decide ((z : Int) ≤ (q : Int)) = false := decide_eq_false (by omega)
                have e3b : decide (z ≤ q) = false := decide_eq_false (by omega)
                have em : IntKind.i64.wrap ((i : Int) - 1) = (m : Int) := by rw [wrapS _ (by omega) (by omega)]; omega
                have j1 : (0 : Int) ≤ (m : Int) ∧ (m : Int) < (ws.length : Int) := by omega
                have hil2 := hil
                clear hkm
                clear q1 q3 hget
                have HC := Lib.hid (fun W (hW : Below wz.heap.size wz W) => show W.cell? ⟨b, off + i, none⟩ = some (.int .i64 ((z : Nat) : Int)) ∧ W.cell? ⟨b, off + m, none⟩ = some (.int .i64 ((q : Nat) : Int)) from ⟨(hW.cell (p := ⟨b, off + i, none⟩) lb).trans c0, (hW.cell (p := ⟨b, off + m, none⟩) lb).trans d0⟩)
                clear c0 d0
                refine wp_region_noPanic ?_
                refine wp_region_held_drew (S := (fun w' => Below wz.heap.size wz w' ∧ w'.cell? ⟨b, off + i, none⟩ = some (.int .i64 ((z : Nat) : Int)) ∧ w'.cell? ⟨b, off + m, none⟩ = some (.int .i64 ((q : Nat) : Int)))) (by kernel_rfl) ⟨(Below.refl _ _).drew, HC.out _ (Below.refl _ _).drew⟩ (fun hHeld => ?_)
                refine wpAnyH_take (i := 0) (oi := { dst := some 121, op := Op.move (Operand.tmp 13), type := 23, pos := "law.go:285", after := #[], guard := none }) (v := ?_) rfl (by kernel_rfl) (by kernel_rfl) (by kernel_rfl) (fun _ _ _ h => h) (Or.inl ⟨by kernel_rfl, ?_⟩) (by assumption) ?_
                rotate_left
                · intro w hSw
                  (try dsimp only at hSw)
                  go_simp
                  all_goals (with_reducible rfl)
                (try simp only [Act.put, List.setIfInBounds_toArray, List.set_cons_zero, List.set_cons_succ])
                refine wpAnyH_take (i := 1) (oi := { dst := some 122, op := Op.move (Operand.tmp 24), type := 3, pos := "law.go:285", after := #[], guard := none }) (v := ?_) rfl (by kernel_rfl) (by kernel_rfl) (by kernel_rfl) (fun _ _ _ h => h) (Or.inl ⟨by kernel_rfl, ?_⟩) (by assumption) ?_
                rotate_left
                · intro w hSw
                  (try dsimp only at hSw)
                  go_simp
                  all_goals (with_reducible rfl)
                (try simp only [Act.put, List.setIfInBounds_toArray, List.set_cons_zero, List.set_cons_succ])
                refine wpAnyH_take (i := 2) (oi := { dst := some 123, op := Op.indexAddr 23 (Operand.tmp 121) (Operand.tmp 122), type := 0, pos := "law.go:285", after := #[{ on := 0, ground := Ground.data }, { on := 1, ground := Ground.data }], guard := none }) (v := ?_) rfl (by kernel_rfl) (by kernel_rfl) (by kernel_rfl) (fun _ _ _ h => h) (Or.inl ⟨by kernel_rfl, ?_⟩) (by assumption) ?_
                rotate_left
                · intro w hSw
                  (try dsimp only at hSw)
                  go_simp
                  all_goals (with_reducible rfl)
                (try simp only [Act.put, List.setIfInBounds_toArray, List.set_cons_zero, List.set_cons_succ])
                refine wpAnyH_take (i := 3) (oi := { dst := some 124, op := Op.load 3 (Operand.tmp 123), type := 3, pos := "law.go:285", after := #[{ on := 2, ground := Ground.data }], guard := none }) (v := ?_) rfl (by kernel_rfl) (by kernel_rfl) (by kernel_rfl) (fun _ _ _ h => h) (Or.inl ⟨by kernel_rfl, ?_⟩) (by assumption) ?_
                rotate_left
                · intro w hSw
                  (try dsimp only at hSw)
                  go_simp
                  all_goals (with_reducible rfl)
                (try simp only [Act.put, List.setIfInBounds_toArray, List.set_cons_zero, List.set_cons_succ])
                refine wpAnyH_take (i := 4) (oi := { dst := some 125, op := Op.binOp BinOp.lss 3 (Operand.tmp 124) (Operand.const (Value.int IntKind.i64 0)) 3, type := 4, pos := "law.go:285", after := #[{ on := 3, ground := Ground.data }], guard := none }) (v := ?_) rfl (by kernel_rfl) (by kernel_rfl) (by kernel_rfl) (fun _ _ _ h => h) (Or.inl ⟨by kernel_rfl, ?_⟩) (by assumption) ?_
                rotate_left
                · intro w hSw
                  (try dsimp only at hSw)
                  go_simp
                  all_goals (with_reducible rfl)
                (try simp only [Act.put, List.setIfInBounds_toArray, List.set_cons_zero, List.set_cons_succ])
                refine wpAnyH_take (i := 5) (oi := { dst := some 126, op := Op.move (Operand.tmp 125), type := 4, pos := "law.go:285", after := #[{ on := 4, ground := Ground.data }], guard := none }) (v := ?_) rfl (by kernel_rfl) (by kernel_rfl) (by kernel_rfl) (fun _ _ _ h => h) (Or.inl ⟨by kernel_rfl, ?_⟩) (by assumption) ?_
                rotate_left
                · intro w hSw
                  (try dsimp only at hSw)
                  go_simp
                  all_goals (with_reducible rfl)
                (try simp only [Act.put, List.setIfInBounds_toArray, List.set_cons_zero, List.set_cons_succ])
                refine wpAnyH_take (i := 6) (oi := { dst := some 127, op := Op.move (Operand.tmp 13), type := 23, pos := "law.go:285", after := #[{ on := 5, ground := Ground.guard }], guard := some (5, false) }) (v := ?_) rfl (by kernel_rfl) (by kernel_rfl) (by kernel_rfl) (fun _ _ _ h => h) (Or.inl ⟨by kernel_rfl, ?_⟩) (by assumption) ?_
                rotate_left
                · intro w hSw
                  (try dsimp only at hSw)
                  go_simp
                  all_goals (with_reducible rfl)
                (try simp only [Act.put, List.setIfInBounds_toArray, List.set_cons_zero, List.set_cons_succ])
                refine wpAnyH_take (i := 7) (oi := { dst := some 128, op := Op.move (Operand.tmp 24), type := 3, pos := "law.go:285", after := #[{ on := 5, ground := Ground.guard }], guard := some (5, false) }) (v := ?_) rfl (by kernel_rfl) (by kernel_rfl) (by kernel_rfl) (fun _ _ _ h => h) (Or.inl ⟨by kernel_rfl, ?_⟩) (by assumption) ?_
                rotate_left
                · intro w hSw
                  (try dsimp only at hSw)
                  go_simp
                  all_goals (with_reducible rfl)
                (try simp only [Act.put, List.setIfInBounds_toArray, List.set_cons_zero, List.set_cons_succ])
                refine wpAnyH_take (i := 8) (oi := { dst := some 129, op := Op.indexAddr 23 (Operand.tmp 127) (Operand.tmp 128), type := 0, pos := "law.go:285", after := #[{ on := 6, ground := Ground.data }, { on := 7, ground := Ground.data }, { on := 5, ground := Ground.guard }], guard := some (5, false) }) (v := ?_) rfl (by kernel_rfl) (by kernel_rfl) (by kernel_rfl) (fun _ _ _ h => h) (Or.inl ⟨by kernel_rfl, ?_⟩) (by assumption) ?_
                rotate_left
                · intro w hSw
                  (try dsimp only at hSw)
                  go_simp
                  all_goals (with_reducible rfl)
                (try simp only [Act.put, List.setIfInBounds_toArray, List.set_cons_zero, List.set_cons_succ])
                refine wpAnyH_take (i := 9) (oi := { dst := some 130, op := Op.load 3 (Operand.tmp 129), type := 3, pos := "law.go:285", after := #[{ on := 8, ground := Ground.data }, { on := 5, ground := Ground.guard }], guard := some (5, false) }) (v := ?_) rfl (by kernel_rfl) (by kernel_rfl) (by kernel_rfl) (fun _ _ _ h => h) (Or.inl ⟨by kernel_rfl, ?_⟩) (by assumption) ?_
                rotate_left
                · intro w hSw
                  (try dsimp only at hSw)
                  go_simp
                  all_goals (with_reducible rfl)
                (try simp only [Act.put, List.setIfInBounds_toArray, List.set_cons_zero, List.set_cons_succ])
                refine wpAnyH_take (i := 10) (oi := { dst := some 131, op := Op.move (Operand.tmp 10), type := 39, pos := "law.go:285", after := #[{ on := 5, ground := Ground.guard }], guard := some (5, false) }) (v := ?_) rfl (by kernel_rfl) (by kernel_rfl) (by kernel_rfl) (fun _ _ _ h => h) (Or.inl ⟨by kernel_rfl, ?_⟩) (by assumption) ?_
                rotate_left
                · intro w hSw
                  (try dsimp only at hSw)
                  go_simp
                  all_goals (with_reducible rfl)
                (try simp only [Act.put, List.setIfInBounds_toArray, List.set_cons_zero, List.set_cons_succ])
                refine wpAnyH_take (i := 11) (oi := { dst := some 132, op := Op.call { callee := Callee.builtin Builtin.len, args := #[Operand.tmp 131], argTypes := #[39] }, type := 3, pos := "law.go:285", after := #[{ on := 10, ground := Ground.data }, { on := 5, ground := Ground.guard }], guard := some (5, false) }) (v := ?_) rfl (by kernel_rfl) (by kernel_rfl) (by kernel_rfl) (fun _ _ _ h => h) (Or.inl ⟨by kernel_rfl, ?_⟩) (by assumption) ?_
                rotate_left
                · intro w hSw
                  (try dsimp only at hSw)
                  go_simp
                  all_goals (with_reducible rfl)
                (try simp only [Act.put, List.setIfInBounds_toArray, List.set_cons_zero, List.set_cons_succ])
                refine wpAnyH_take (i := 12) (oi := { dst := some 133, op := Op.binOp BinOp.geq 3 (Operand.tmp 130) (Operand.tmp 132) 3, type := 4, pos := "law.go:285", after := #[{ on := 9, ground := Ground.data }, { on := 11, ground := Ground.data }, { on := 5, ground := Ground.guard }], guard := some (5, false) }) (v := ?_) rfl (by kernel_rfl) (by kernel_rfl) (by kernel_rfl) (fun _ _ _ h => h) (Or.inl ⟨by kernel_rfl, ?_⟩) (by assumption) ?_
                rotate_left
                · intro w hSw
                  (try dsimp only at hSw)
                  go_simp
                  all_goals (with_reducible rfl)
                (try simp only [Act.put, List.setIfInBounds_toArray, List.set_cons_zero, List.set_cons_succ])
                refine wpAnyH_take (i := 13) (oi := { dst := some 134, op := Op.pick (Operand.tmp 126) (Operand.const (Value.bool true)) (Operand.tmp 133), type := 4, pos := "law.go:285", after := #[{ on := 5, ground := Ground.data }, { on := 12, ground := Ground.data }], guard := none }) (v := ?_) rfl (by kernel_rfl) (by kernel_rfl) (by kernel_rfl) (fun _ _ _ h => h) (Or.inl ⟨by kernel_rfl, ?_⟩) (by assumption) ?_
                rotate_left
                · intro w hSw
                  (try dsimp only at hSw)
                  go_simp
                  all_goals (with_reducible rfl)
                (try simp only [Act.put, List.setIfInBounds_toArray, List.set_cons_zero, List.set_cons_succ])
                refine wpAnyH_take (i := 14) (oi := { dst := some 135, op := Op.move (Operand.tmp 134), type := 4, pos := "law.go:285", after := #[{ on := 13, ground := Ground.data }, { on := 5, ground := Ground.chain }], guard := none }) (v := ?_) rfl (by kernel_rfl) (by kernel_rfl) (by kernel_rfl) (fun _ _ _ h => h) (Or.inl ⟨by kernel_rfl, ?_⟩) (by assumption) ?_
                rotate_left
                · intro w hSw
                  (try dsimp only at hSw)
                  go_simp
                  all_goals (with_reducible rfl)
                (try simp only [Act.put, List.setIfInBounds_toArray, List.set_cons_zero, List.set_cons_succ])
                refine wpAnyH_take (i := 15) (oi := { dst := some 136, op := Op.move (Operand.tmp 24), type := 3, pos := "law.go:285", after := #[{ on := 14, ground := Ground.guard }], guard := some (14, false) }) (v := ?_) rfl (by kernel_rfl) (by kernel_rfl) (by kernel_rfl) (fun _ _ _ h => h) (Or.inl ⟨by kernel_rfl, ?_⟩) (by assumption) ?_
                rotate_left
                · intro w hSw
                  (try dsimp only at hSw)
                  go_simp
                  all_goals (with_reducible rfl)
                (try simp only [Act.put, List.setIfInBounds_toArray, List.set_cons_zero, List.set_cons_succ])
                refine wpAnyH_take (i := 16) (oi := { dst := some 137, op := Op.binOp BinOp.gtr 3 (Operand.tmp 136) (Operand.const (Value.int IntKind.i64 0)) 3, type := 4, pos := "law.go:285", after := #[{ on := 15, ground := Ground.data }, { on := 14, ground := Ground.guard }], guard := some (14, false) }) (v := ?_) rfl (by kernel_rfl) (by kernel_rfl) (by kernel_rfl) (fun _ _ _ h => h) (Or.inl ⟨by kernel_rfl, ?_⟩) (by assumption) ?_
                rotate_left
                · intro w hSw
                  (try dsimp only at hSw)
                  go_simp
                  all_goals (with_reducible rfl)
                (try simp only [Act.put, List.setIfInBounds_toArray, List.set_cons_zero, List.set_cons_succ])
                refine wpAnyH_take (i := 17) (oi := { dst := some 138, op := Op.move (Operand.tmp 137), type := 4, pos := "law.go:285", after := #[{ on := 16, ground := Ground.data }, { on := 14, ground := Ground.chain }, { on := 14, ground := Ground.guard }], guard := some (14, false) }) (v := ?_) rfl (by kernel_rfl) (by kernel_rfl) (by kernel_rfl) (fun _ _ _ h => h) (Or.inl ⟨by kernel_rfl, ?_⟩) (by assumption) ?_
                rotate_left
                · intro w hSw
                  (try dsimp only at hSw)
                  go_simp
                  all_goals (with_reducible rfl)
                (try simp only [Act.put, List.setIfInBounds_toArray, List.set_cons_zero, List.set_cons_succ])
                refine wpAnyH_take (i := 18) (oi := { dst := some 139, op := Op.move (Operand.tmp 13), type := 23, pos := "law.go:285", after := #[{ on := 17, ground := Ground.guard }], guard := some (17, true) }) (v := ?_) rfl (by kernel_rfl) (by kernel_rfl) (by kernel_rfl) (fun _ _ _ h => h) (Or.inl ⟨by kernel_rfl, ?_⟩) (by assumption) ?_
                rotate_left
                · intro w hSw
                  (try dsimp only at hSw)
                  go_simp
                  all_goals (with_reducible rfl)
                (try simp only [Act.put, List.setIfInBounds_toArray, List.set_cons_zero, List.set_cons_succ])
                refine wpAnyH_take (i := 19) (oi := { dst := some 140, op := Op.move (Operand.tmp 24), type := 3, pos := "law.go:285", after := #[{ on := 17, ground := Ground.guard }], guard := some (17, true) }) (v := ?_) rfl (by kernel_rfl) (by kernel_rfl) (by kernel_rfl) (fun _ _ _ h => h) (Or.inl ⟨by kernel_rfl, ?_⟩) (by assumption) ?_
                rotate_left
                · intro w hSw
                  (try dsimp only at hSw)
                  go_simp
                  all_goals (with_reducible rfl)
                (try simp only [Act.put, List.setIfInBounds_toArray, List.set_cons_zero, List.set_cons_succ])
                refine wpAnyH_take (i := 20) (oi := { dst := some 141, op := Op.indexAddr 23 (Operand.tmp 139) (Operand.tmp 140), type := 0, pos := "law.go:285", after := #[{ on := 18, ground := Ground.data }, { on := 19, ground := Ground.data }, { on := 17, ground := Ground.guard }], guard := some (17, true) }) (v := ?_) rfl (by kernel_rfl) (by kernel_rfl) (by kernel_rfl) (fun _ _ _ h => h) (Or.inl ⟨by kernel_rfl, ?_⟩) (by assumption) ?_
                rotate_left
                · intro w hSw
                  (try dsimp only at hSw)
                  go_simp
                  all_goals (with_reducible rfl)
                (try simp only [Act.put, List.setIfInBounds_toArray, List.set_cons_zero, List.set_cons_succ])
                refine wpAnyH_take (i := 21) (oi := { dst := some 142, op := Op.load 3 (Operand.tmp 141), type := 3, pos := "law.go:285", after := #[{ on := 20, ground := Ground.data }, { on := 17, ground := Ground.guard }], guard := some (17, true) }) (v := ?_) rfl (by kernel_rfl) (by kernel_rfl) (by kernel_rfl) (fun _ _ _ h => h) (Or.inl ⟨by kernel_rfl, ?_⟩) (by assumption) ?_
                rotate_left
                · intro w hSw
                  (try dsimp only at hSw)
                  go_simp
                  all_goals (with_reducible rfl)
                (try simp only [Act.put, List.setIfInBounds_toArray, List.set_cons_zero, List.set_cons_succ])
                refine wpAnyH_take (i := 22) (oi := { dst := some 143, op := Op.move (Operand.tmp 13), type := 23, pos := "law.go:285", after := #[{ on := 17, ground := Ground.guard }], guard := some (17, true) }) (v := ?_) rfl (by kernel_rfl) (by kernel_rfl) (by kernel_rfl) (fun _ _ _ h => h) (Or.inl ⟨by kernel_rfl, ?_⟩) (by assumption) ?_
                rotate_left
                · intro w hSw
                  (try dsimp only at hSw)
                  go_simp
                  all_goals (with_reducible rfl)
                (try simp only [Act.put, List.setIfInBounds_toArray, List.set_cons_zero, List.set_cons_succ])
                refine wpAnyH_take (i := 23) (oi := { dst := some 144, op := Op.move (Operand.tmp 24), type := 3, pos := "law.go:285", after := #[{ on := 17, ground := Ground.guard }], guard := some (17, true) }) (v := ?_) rfl (by kernel_rfl) (by kernel_rfl) (by kernel_rfl) (fun _ _ _ h => h) (Or.inl ⟨by kernel_rfl, ?_⟩) (by assumption) ?_
                rotate_left
                · intro w hSw
                  (try dsimp only at hSw)
                  go_simp
                  all_goals (with_reducible rfl)
                (try simp only [Act.put, List.setIfInBounds_toArray, List.set_cons_zero, List.set_cons_succ])
                refine wpAnyH_take (i := 24) (oi := { dst := some 145, op := Op.binOp BinOp.sub 3 (Operand.tmp 144) (Operand.const (Value.int IntKind.i64 1)) 3, type := 3, pos := "law.go:285", after := #[{ on := 23, ground := Ground.data }, { on := 17, ground := Ground.guard }], guard := some (17, true) }) (v := ?_) rfl (by kernel_rfl) (by kernel_rfl) (by kernel_rfl) (fun _ _ _ h => h) (Or.inl ⟨by kernel_rfl, ?_⟩) (by assumption) ?_
                rotate_left
                · intro w hSw
                  (try dsimp only at hSw)
                  go_simp
                  all_goals (with_reducible rfl)
                (try simp only [Act.put, List.setIfInBounds_toArray, List.set_cons_zero, List.set_cons_succ])
                refine wpAnyH_take (i := 25) (oi := { dst := some 146, op := Op.indexAddr 23 (Operand.tmp 143) (Operand.tmp 145), type := 0, pos := "law.go:285", after := #[{ on := 22, ground := Ground.data }, { on := 24, ground := Ground.data }, { on := 17, ground := Ground.guard }], guard := some (17, true) }) (v := ?_) rfl (by kernel_rfl) (by kernel_rfl) (by kernel_rfl) (fun _ _ _ h => h) (Or.inl ⟨by kernel_rfl, ?_⟩) (by assumption) ?_
                rotate_left
                · intro w hSw
                  (try dsimp only at hSw)
                  go_simp
                  all_goals (with_reducible rfl)
                (try simp only [Act.put, List.setIfInBounds_toArray, List.set_cons_zero, List.set_cons_succ])
                refine wpAnyH_take (i := 26) (oi := { dst := some 147, op := Op.load 3 (Operand.tmp 146), type := 3, pos := "law.go:285", after := #[{ on := 25, ground := Ground.data }, { on := 17, ground := Ground.guard }], guard := some (17, true) }) (v := ?_) rfl (by kernel_rfl) (by kernel_rfl) (by kernel_rfl) (fun _ _ _ h => h) (Or.inl ⟨by kernel_rfl, ?_⟩) (by assumption) ?_
                rotate_left
                · intro w hSw
                  (try dsimp only at hSw)
                  go_simp
                  all_goals (with_reducible rfl)
                (try simp only [Act.put, List.setIfInBounds_toArray, List.set_cons_zero, List.set_cons_succ])
                refine wpAnyH_take (i := 27) (oi := { dst := some 148, op := Op.binOp BinOp.leq 3 (Operand.tmp 142) (Operand.tmp 147) 3, type := 4, pos := "law.go:285", after := #[{ on := 21, ground := Ground.data }, { on := 26, ground := Ground.data }, { on := 17, ground := Ground.guard }], guard := some (17, true) }) (v := ?_) rfl (by kernel_rfl) (by kernel_rfl) (by kernel_rfl) (fun _ _ _ h => h) (Or.inl ⟨by kernel_rfl, ?_⟩) (by assumption) ?_
                rotate_left
                · intro w hSw
                  (try dsimp only at hSw)
                  go_simp
                  all_goals (with_reducible rfl)
                (try simp only [Act.put, List.setIfInBounds_toArray, List.set_cons_zero, List.set_cons_succ])
                refine wpAnyH_take (i := 28) (oi := { dst := some 149, op := Op.pick (Operand.tmp 138) (Operand.tmp 148) (Operand.const (Value.bool false)), type := 4, pos := "law.go:285", after := #[{ on := 17, ground := Ground.data }, { on := 27, ground := Ground.data }, { on := 14, ground := Ground.guard }], guard := some (14, false) }) (v := ?_) rfl (by kernel_rfl) (by kernel_rfl) (by kernel_rfl) (fun _ _ _ h => h) (Or.inl ⟨by kernel_rfl, ?_⟩) (by assumption) ?_
                rotate_left
                · intro w hSw
                  (try dsimp only at hSw)
                  go_simp
                  all_goals (with_reducible rfl)
                (try simp only [Act.put, List.setIfInBounds_toArray, List.set_cons_zero, List.set_cons_succ])
                refine wpAnyH_take (i := 29) (oi := { dst := some 150, op := Op.pick (Operand.tmp 135) (Operand.const (Value.bool true)) (Operand.tmp 149), type := 4, pos := "law.go:285", after := #[{ on := 14, ground := Ground.data }, { on := 28, ground := Ground.data }], guard := none }) (v := ?_) rfl (by kernel_rfl) (by kernel_rfl) (by kernel_rfl) (fun _ _ _ h => h) (Or.inl ⟨by kernel_rfl, ?_⟩) (by assumption) ?_
                rotate_left
                · intro w hSw
                  (try dsimp only at hSw)
                  go_simp
                  all_goals (with_reducible rfl)
                (try simp only [Act.put, List.setIfInBounds_toArray, List.set_cons_zero, List.set_cons_succ])
                refine wpAnyH_done (by kernel_rfl) ?_ _
                refine NoPanic.normal ?_
                have hX := hHeld.1
                clear hHeld
                go_wp2_with fail
                go_roundw
                case rel => exact ⟨i + 1, by omega, by go_num, hBz.trans (hX.mono hBz.size)⟩
                case measure => simp [intOf]; omega
              · obtain rfl : i = 0 := by omega
                have e2 : decide ((0 : Int) < ((0 : Nat) : Int)) = false := decide_eq_false (by omega)
                clear hget
                have HC := Lib.hid (fun W (hW : Below wz.heap.size wz W) => show W.cell? ⟨b, off, none⟩ = some (.int .i64 ((z : Nat) : Int)) from (hW.cell (p := ⟨b, off, none⟩) lb).trans c0)
                clear c0
                refine wp_region_noPanic ?_
                refine wp_region_held_drew (S := (fun w' => Below wz.heap.size wz w' ∧ w'.cell? ⟨b, off, none⟩ = some (.int .i64 ((z : Nat) : Int)))) (by kernel_rfl) ⟨(Below.refl _ _).drew, HC.out _ (Below.refl _ _).drew⟩ (fun hHeld => ?_)
                refine wpAnyH_take (i := 0) (oi := { dst := some 121, op := Op.move (Operand.tmp 13), type := 23, pos := "law.go:285", after := #[], guard := none }) (v := ?_) rfl (by kernel_rfl) (by kernel_rfl) (by kernel_rfl) (fun _ _ _ h => h) (Or.inl ⟨by kernel_rfl, ?_⟩) (by assumption) ?_
                rotate_left
                · intro w hSw
                  (try dsimp only at hSw)
                  go_simp
                  all_goals (with_reducible rfl)
                (try simp only [Act.put, List.setIfInBounds_toArray, List.set_cons_zero, List.set_cons_succ])
                refine wpAnyH_take (i := 1) (oi := { dst := some 122, op := Op.move (Operand.tmp 24), type := 3, pos := "law.go:285", after := #[], guard := none }) (v := ?_) rfl (by kernel_rfl) (by kernel_rfl) (by kernel_rfl) (fun _ _ _ h => h) (Or.inl ⟨by kernel_rfl, ?_⟩) (by assumption) ?_
                rotate_left
                · intro w hSw
                  (try dsimp only at hSw)
                  go_simp
                  all_goals (with_reducible rfl)
                (try simp only [Act.put, List.setIfInBounds_toArray, List.set_cons_zero, List.set_cons_succ])
                refine wpAnyH_take (i := 2) (oi := { dst := some 123, op := Op.indexAddr 23 (Operand.tmp 121) (Operand.tmp 122), type := 0, pos := "law.go:285", after := #[{ on := 0, ground := Ground.data }, { on := 1, ground := Ground.data }], guard := none }) (v := ?_) rfl (by kernel_rfl) (by kernel_rfl) (by kernel_rfl) (fun _ _ _ h => h) (Or.inl ⟨by kernel_rfl, ?_⟩) (by assumption) ?_
                rotate_left
                · intro w hSw
                  (try dsimp only at hSw)
                  go_simp
                  all_goals (with_reducible rfl)
                (try simp only [Act.put, List.setIfInBounds_toArray, List.set_cons_zero, List.set_cons_succ])
                refine wpAnyH_take (i := 3) (oi := { dst := some 124, op := Op.load 3 (Operand.tmp 123), type := 3, pos := "law.go:285", after := #[{ on := 2, ground := Ground.data }], guard := none }) (v := ?_) rfl (by kernel_rfl) (by kernel_rfl) (by kernel_rfl) (fun _ _ _ h => h) (Or.inl ⟨by kernel_rfl, ?_⟩) (by assumption) ?_
                rotate_left
                · intro w hSw
                  (try dsimp only at hSw)
                  go_simp
                  all_goals (with_reducible rfl)
                (try simp only [Act.put, List.setIfInBounds_toArray, List.set_cons_zero, List.set_cons_succ])
                refine wpAnyH_take (i := 4) (oi := { dst := some 125, op := Op.binOp BinOp.lss 3 (Operand.tmp 124) (Operand.const (Value.int IntKind.i64 0)) 3, type := 4, pos := "law.go:285", after := #[{ on := 3, ground := Ground.data }], guard := none }) (v := ?_) rfl (by kernel_rfl) (by kernel_rfl) (by kernel_rfl) (fun _ _ _ h => h) (Or.inl ⟨by kernel_rfl, ?_⟩) (by assumption) ?_
                rotate_left
                · intro w hSw
                  (try dsimp only at hSw)
                  go_simp
                  all_goals (with_reducible rfl)
                (try simp only [Act.put, List.setIfInBounds_toArray, List.set_cons_zero, List.set_cons_succ])
                refine wpAnyH_take (i := 5) (oi := { dst := some 126, op := Op.move (Operand.tmp 125), type := 4, pos := "law.go:285", after := #[{ on := 4, ground := Ground.data }], guard := none }) (v := ?_) rfl (by kernel_rfl) (by kernel_rfl) (by kernel_rfl) (fun _ _ _ h => h) (Or.inl ⟨by kernel_rfl, ?_⟩) (by assumption) ?_
                rotate_left
                · intro w hSw
                  (try dsimp only at hSw)
                  go_simp
                  all_goals (with_reducible rfl)
                (try simp only [Act.put, List.setIfInBounds_toArray, List.set_cons_zero, List.set_cons_succ])
                refine wpAnyH_take (i := 6) (oi := { dst := some 127, op := Op.move (Operand.tmp 13), type := 23, pos := "law.go:285", after := #[{ on := 5, ground := Ground.guard }], guard := some (5, false) }) (v := ?_) rfl (by kernel_rfl) (by kernel_rfl) (by kernel_rfl) (fun _ _ _ h => h) (Or.inl ⟨by kernel_rfl, ?_⟩) (by assumption) ?_
                rotate_left
                · intro w hSw
                  (try dsimp only at hSw)
                  go_simp
                  all_goals (with_reducible rfl)
                (try simp only [Act.put, List.setIfInBounds_toArray, List.set_cons_zero, List.set_cons_succ])
                refine wpAnyH_take (i := 7) (oi := { dst := some 128, op := Op.move (Operand.tmp 24), type := 3, pos := "law.go:285", after := #[{ on := 5, ground := Ground.guard }], guard := some (5, false) }) (v := ?_) rfl (by kernel_rfl) (by kernel_rfl) (by kernel_rfl) (fun _ _ _ h => h) (Or.inl ⟨by kernel_rfl, ?_⟩) (by assumption) ?_
                rotate_left
                · intro w hSw
                  (try dsimp only at hSw)
                  go_simp
                  all_goals (with_reducible rfl)
                (try simp only [Act.put, List.setIfInBounds_toArray, List.set_cons_zero, List.set_cons_succ])
                refine wpAnyH_take (i := 8) (oi := { dst := some 129, op := Op.indexAddr 23 (Operand.tmp 127) (Operand.tmp 128), type := 0, pos := "law.go:285", after := #[{ on := 6, ground := Ground.data }, { on := 7, ground := Ground.data }, { on := 5, ground := Ground.guard }], guard := some (5, false) }) (v := ?_) rfl (by kernel_rfl) (by kernel_rfl) (by kernel_rfl) (fun _ _ _ h => h) (Or.inl ⟨by kernel_rfl, ?_⟩) (by assumption) ?_
                rotate_left
                · intro w hSw
                  (try dsimp only at hSw)
                  go_simp
                  all_goals (with_reducible rfl)
                (try simp only [Act.put, List.setIfInBounds_toArray, List.set_cons_zero, List.set_cons_succ])
                refine wpAnyH_take (i := 9) (oi := { dst := some 130, op := Op.load 3 (Operand.tmp 129), type := 3, pos := "law.go:285", after := #[{ on := 8, ground := Ground.data }, { on := 5, ground := Ground.guard }], guard := some (5, false) }) (v := ?_) rfl (by kernel_rfl) (by kernel_rfl) (by kernel_rfl) (fun _ _ _ h => h) (Or.inl ⟨by kernel_rfl, ?_⟩) (by assumption) ?_
                rotate_left
                · intro w hSw
                  (try dsimp only at hSw)
                  go_simp
                  all_goals (with_reducible rfl)
                (try simp only [Act.put, List.setIfInBounds_toArray, List.set_cons_zero, List.set_cons_succ])
                refine wpAnyH_take (i := 10) (oi := { dst := some 131, op := Op.move (Operand.tmp 10), type := 39, pos := "law.go:285", after := #[{ on := 5, ground := Ground.guard }], guard := some (5, false) }) (v := ?_) rfl (by kernel_rfl) (by kernel_rfl) (by kernel_rfl) (fun _ _ _ h => h) (Or.inl ⟨by kernel_rfl, ?_⟩) (by assumption) ?_
                rotate_left
                · intro w hSw
                  (try dsimp only at hSw)
                  go_simp
                  all_goals (with_reducible rfl)
                (try simp only [Act.put, List.setIfInBounds_toArray, List.set_cons_zero, List.set_cons_succ])
                refine wpAnyH_take (i := 11) (oi := { dst := some 132, op := Op.call { callee := Callee.builtin Builtin.len, args := #[Operand.tmp 131], argTypes := #[39] }, type := 3, pos := "law.go:285", after := #[{ on := 10, ground := Ground.data }, { on := 5, ground := Ground.guard }], guard := some (5, false) }) (v := ?_) rfl (by kernel_rfl) (by kernel_rfl) (by kernel_rfl) (fun _ _ _ h => h) (Or.inl ⟨by kernel_rfl, ?_⟩) (by assumption) ?_
                rotate_left
                · intro w hSw
                  (try dsimp only at hSw)
                  go_simp
                  all_goals (with_reducible rfl)
                (try simp only [Act.put, List.setIfInBounds_toArray, List.set_cons_zero, List.set_cons_succ])
                refine wpAnyH_take (i := 12) (oi := { dst := some 133, op := Op.binOp BinOp.geq 3 (Operand.tmp 130) (Operand.tmp 132) 3, type := 4, pos := "law.go:285", after := #[{ on := 9, ground := Ground.data }, { on := 11, ground := Ground.data }, { on := 5, ground := Ground.guard }], guard := some (5, false) }) (v := ?_) rfl (by kernel_rfl) (by kernel_rfl) (by kernel_rfl) (fun _ _ _ h => h) (Or.inl ⟨by kernel_rfl, ?_⟩) (by assumption) ?_
                rotate_left
                · intro w hSw
                  (try dsimp only at hSw)
                  go_simp
                  all_goals (with_reducible rfl)
                (try simp only [Act.put, List.setIfInBounds_toArray, List.set_cons_zero, List.set_cons_succ])
                refine wpAnyH_take (i := 13) (oi := { dst := some 134, op := Op.pick (Operand.tmp 126) (Operand.const (Value.bool true)) (Operand.tmp 133), type := 4, pos := "law.go:285", after := #[{ on := 5, ground := Ground.data }, { on := 12, ground := Ground.data }], guard := none }) (v := ?_) rfl (by kernel_rfl) (by kernel_rfl) (by kernel_rfl) (fun _ _ _ h => h) (Or.inl ⟨by kernel_rfl, ?_⟩) (by assumption) ?_
                rotate_left
                · intro w hSw
                  (try dsimp only at hSw)
                  go_simp
                  all_goals (with_reducible rfl)
                (try simp only [Act.put, List.setIfInBounds_toArray, List.set_cons_zero, List.set_cons_succ])
                refine wpAnyH_take (i := 14) (oi := { dst := some 135, op := Op.move (Operand.tmp 134), type := 4, pos := "law.go:285", after := #[{ on := 13, ground := Ground.data }, { on := 5, ground := Ground.chain }], guard := none }) (v := ?_) rfl (by kernel_rfl) (by kernel_rfl) (by kernel_rfl) (fun _ _ _ h => h) (Or.inl ⟨by kernel_rfl, ?_⟩) (by assumption) ?_
                rotate_left
                · intro w hSw
                  (try dsimp only at hSw)
                  go_simp
                  all_goals (with_reducible rfl)
                (try simp only [Act.put, List.setIfInBounds_toArray, List.set_cons_zero, List.set_cons_succ])
                refine wpAnyH_take (i := 15) (oi := { dst := some 136, op := Op.move (Operand.tmp 24), type := 3, pos := "law.go:285", after := #[{ on := 14, ground := Ground.guard }], guard := some (14, false) }) (v := ?_) rfl (by kernel_rfl) (by kernel_rfl) (by kernel_rfl) (fun _ _ _ h => h) (Or.inl ⟨by kernel_rfl, ?_⟩) (by assumption) ?_
                rotate_left
                · intro w hSw
                  (try dsimp only at hSw)
                  go_simp
                  all_goals (with_reducible rfl)
                (try simp only [Act.put, List.setIfInBounds_toArray, List.set_cons_zero, List.set_cons_succ])
                refine wpAnyH_take (i := 16) (oi := { dst := some 137, op := Op.binOp BinOp.gtr 3 (Operand.tmp 136) (Operand.const (Value.int IntKind.i64 0)) 3, type := 4, pos := "law.go:285", after := #[{ on := 15, ground := Ground.data }, { on := 14, ground := Ground.guard }], guard := some (14, false) }) (v := ?_) rfl (by kernel_rfl) (by kernel_rfl) (by kernel_rfl) (fun _ _ _ h => h) (Or.inl ⟨by kernel_rfl, ?_⟩) (by assumption) ?_
                rotate_left
                · intro w hSw
                  (try dsimp only at hSw)
                  go_simp
                  all_goals (with_reducible rfl)
                (try simp only [Act.put, List.setIfInBounds_toArray, List.set_cons_zero, List.set_cons_succ])
                refine wpAnyH_take (i := 17) (oi := { dst := some 138, op := Op.move (Operand.tmp 137), type := 4, pos := "law.go:285", after := #[{ on := 16, ground := Ground.data }, { on := 14, ground := Ground.chain }, { on := 14, ground := Ground.guard }], guard := some (14, false) }) (v := ?_) rfl (by kernel_rfl) (by kernel_rfl) (by kernel_rfl) (fun _ _ _ h => h) (Or.inl ⟨by kernel_rfl, ?_⟩) (by assumption) ?_
                rotate_left
                · intro w hSw
                  (try dsimp only at hSw)
                  go_simp
                  all_goals (with_reducible rfl)
                (try simp only [Act.put, List.setIfInBounds_toArray, List.set_cons_zero, List.set_cons_succ])
                refine wpAnyH_take (i := 18) (oi := { dst := some 139, op := Op.move (Operand.tmp 13), type := 23, pos := "law.go:285", after := #[{ on := 17, ground := Ground.guard }], guard := some (17, true) }) (v := undef) rfl (by kernel_rfl) (by kernel_rfl) (by kernel_rfl) (fun _ _ _ h => h) (Or.inr ⟨by kernel_rfl, rfl⟩) (by assumption) ?_
                (try simp only [Act.put, List.setIfInBounds_toArray, List.set_cons_zero, List.set_cons_succ])
                refine wpAnyH_take (i := 19) (oi := { dst := some 140, op := Op.move (Operand.tmp 24), type := 3, pos := "law.go:285", after := #[{ on := 17, ground := Ground.guard }], guard := some (17, true) }) (v := undef) rfl (by kernel_rfl) (by kernel_rfl) (by kernel_rfl) (fun _ _ _ h => h) (Or.inr ⟨by kernel_rfl, rfl⟩) (by assumption) ?_
                (try simp only [Act.put, List.setIfInBounds_toArray, List.set_cons_zero, List.set_cons_succ])
                refine wpAnyH_take (i := 20) (oi := { dst := some 141, op := Op.indexAddr 23 (Operand.tmp 139) (Operand.tmp 140), type := 0, pos := "law.go:285", after := #[{ on := 18, ground := Ground.data }, { on := 19, ground := Ground.data }, { on := 17, ground := Ground.guard }], guard := some (17, true) }) (v := undef) rfl (by kernel_rfl) (by kernel_rfl) (by kernel_rfl) (fun _ _ _ h => h) (Or.inr ⟨by kernel_rfl, rfl⟩) (by assumption) ?_
                (try simp only [Act.put, List.setIfInBounds_toArray, List.set_cons_zero, List.set_cons_succ])
                refine wpAnyH_take (i := 21) (oi := { dst := some 142, op := Op.load 3 (Operand.tmp 141), type := 3, pos := "law.go:285", after := #[{ on := 20, ground := Ground.data }, { on := 17, ground := Ground.guard }], guard := some (17, true) }) (v := undef) rfl (by kernel_rfl) (by kernel_rfl) (by kernel_rfl) (fun _ _ _ h => h) (Or.inr ⟨by kernel_rfl, rfl⟩) (by assumption) ?_
                (try simp only [Act.put, List.setIfInBounds_toArray, List.set_cons_zero, List.set_cons_succ])
                refine wpAnyH_take (i := 22) (oi := { dst := some 143, op := Op.move (Operand.tmp 13), type := 23, pos := "law.go:285", after := #[{ on := 17, ground := Ground.guard }], guard := some (17, true) }) (v := undef) rfl (by kernel_rfl) (by kernel_rfl) (by kernel_rfl) (fun _ _ _ h => h) (Or.inr ⟨by kernel_rfl, rfl⟩) (by assumption) ?_
                (try simp only [Act.put, List.setIfInBounds_toArray, List.set_cons_zero, List.set_cons_succ])
                refine wpAnyH_take (i := 23) (oi := { dst := some 144, op := Op.move (Operand.tmp 24), type := 3, pos := "law.go:285", after := #[{ on := 17, ground := Ground.guard }], guard := some (17, true) }) (v := undef) rfl (by kernel_rfl) (by kernel_rfl) (by kernel_rfl) (fun _ _ _ h => h) (Or.inr ⟨by kernel_rfl, rfl⟩) (by assumption) ?_
                (try simp only [Act.put, List.setIfInBounds_toArray, List.set_cons_zero, List.set_cons_succ])
                refine wpAnyH_take (i := 24) (oi := { dst := some 145, op := Op.binOp BinOp.sub 3 (Operand.tmp 144) (Operand.const (Value.int IntKind.i64 1)) 3, type := 3, pos := "law.go:285", after := #[{ on := 23, ground := Ground.data }, { on := 17, ground := Ground.guard }], guard := some (17, true) }) (v := undef) rfl (by kernel_rfl) (by kernel_rfl) (by kernel_rfl) (fun _ _ _ h => h) (Or.inr ⟨by kernel_rfl, rfl⟩) (by assumption) ?_
                (try simp only [Act.put, List.setIfInBounds_toArray, List.set_cons_zero, List.set_cons_succ])
                refine wpAnyH_take (i := 25) (oi := { dst := some 146, op := Op.indexAddr 23 (Operand.tmp 143) (Operand.tmp 145), type := 0, pos := "law.go:285", after := #[{ on := 22, ground := Ground.data }, { on := 24, ground := Ground.data }, { on := 17, ground := Ground.guard }], guard := some (17, true) }) (v := undef) rfl (by kernel_rfl) (by kernel_rfl) (by kernel_rfl) (fun _ _ _ h => h) (Or.inr ⟨by kernel_rfl, rfl⟩) (by assumption) ?_
                (try simp only [Act.put, List.setIfInBounds_toArray, List.set_cons_zero, List.set_cons_succ])
                refine wpAnyH_take (i := 26) (oi := { dst := some 147, op := Op.load 3 (Operand.tmp 146), type := 3, pos := "law.go:285", after := #[{ on := 25, ground := Ground.data }, { on := 17, ground := Ground.guard }], guard := some (17, true) }) (v := undef) rfl (by kernel_rfl) (by kernel_rfl) (by kernel_rfl) (fun _ _ _ h => h) (Or.inr ⟨by kernel_rfl, rfl⟩) (by assumption) ?_
                (try simp only [Act.put, List.setIfInBounds_toArray, List.set_cons_zero, List.set_cons_succ])
                refine wpAnyH_take (i := 27) (oi := { dst := some 148, op := Op.binOp BinOp.leq 3 (Operand.tmp 142) (Operand.tmp 147) 3, type := 4, pos := "law.go:285", after := #[{ on := 21, ground := Ground.data }, { on := 26, ground := Ground.data }, { on := 17, ground := Ground.guard }], guard := some (17, true) }) (v := undef) rfl (by kernel_rfl) (by kernel_rfl) (by kernel_rfl) (fun _ _ _ h => h) (Or.inr ⟨by kernel_rfl, rfl⟩) (by assumption) ?_
                (try simp only [Act.put, List.setIfInBounds_toArray, List.set_cons_zero, List.set_cons_succ])
                refine wpAnyH_take (i := 28) (oi := { dst := some 149, op := Op.pick (Operand.tmp 138) (Operand.tmp 148) (Operand.const (Value.bool false)), type := 4, pos := "law.go:285", after := #[{ on := 17, ground := Ground.data }, { on := 27, ground := Ground.data }, { on := 14, ground := Ground.guard }], guard := some (14, false) }) (v := ?_) rfl (by kernel_rfl) (by kernel_rfl) (by kernel_rfl) (fun _ _ _ h => h) (Or.inl ⟨by kernel_rfl, ?_⟩) (by assumption) ?_
                rotate_left
                · intro w hSw
                  (try dsimp only at hSw)
                  go_simp
                  all_goals (with_reducible rfl)
                (try simp only [Act.put, List.setIfInBounds_toArray, List.set_cons_zero, List.set_cons_succ])
                refine wpAnyH_take (i := 29) (oi := { dst := some 150, op := Op.pick (Operand.tmp 135) (Operand.const (Value.bool true)) (Operand.tmp 149), type := 4, pos := "law.go:285", after := #[{ on := 14, ground := Ground.data }, { on := 28, ground := Ground.data }], guard := none }) (v := ?_) rfl (by kernel_rfl) (by kernel_rfl) (by kernel_rfl) (fun _ _ _ h => h) (Or.inl ⟨by kernel_rfl, ?_⟩) (by assumption) ?_
                rotate_left
                · intro w hSw
                  (try dsimp only at hSw)
                  go_simp
                  all_goals (with_reducible rfl)
                (try simp only [Act.put, List.setIfInBounds_toArray, List.set_cons_zero, List.set_cons_succ])
                refine wpAnyH_done (by kernel_rfl) ?_ _
                refine NoPanic.normal ?_
                have hX := hHeld.1
                clear hHeld
                go_wp2_with fail
                go_roundw
                case rel => exact ⟨0 + 1, by omega, by go_num, hBz.trans (hX.mono hBz.size)⟩
                case measure => simp [intOf]; omega
            · obtain rfl : i = ws.length := by omega
              have qq : decide ((mm : Int) ≤ (ws.length : Int)) = true := decide_eq_true (by omega)
              have qb : decide (mm ≤ ws.length) = true := decide_eq_true (by omega)
              go_wp2
              go_ret
              exact ⟨rfl, b18.trans (hBz.mono b18.size)⟩
end Go.Proofs.Ytmajkagmcdlncaa

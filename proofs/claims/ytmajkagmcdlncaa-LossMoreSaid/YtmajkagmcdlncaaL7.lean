/- nadirlaw18.LossMore. -/
import Derived.Test.YtmajkagmcdlncaaQ3
namespace Go.Proofs.Ytmajkagmcdlncaa
open Go.RowKit Go.Shelf
open L18 (Pass Slot noPass noSlot validB passesG optV pickV X3 ownV mostV sentV allowB lateL lastV limB)

theorem more_facts {l : List Pass} {o : List Slot} (hv : validB l o = true) (h0 : 0 < o.length) {k : Int} (hk : 0 ≤ k ∧ k < 3) :
    (sureE l o k = 0 ∧ sureB l o k = decide (k < (mostV l (ownV o) : Nat)) ∧ lastN l o k = (lastV l o k : Nat)) ∧ (sureE l o (k + 1) = 0 ∧ sureB l o (k + 1) = decide (k + 1 < (mostV l (ownV o) : Nat)) ∧ lastN l o (k + 1) = (lastV l o (k + 1) : Nat)) ∧ lastV l o k ≤ lastV l o (k + 1) := by
  have h1 : limB k = true := by unfold L18.limB; rw [decide_eq_true hk.1, decide_eq_true (by omega)]; rfl
  have h2 : limB (k + 1) = true := by unfold L18.limB; rw [decide_eq_true (by omega), decide_eq_true (by omega)]; rfl
  have o1 : okV l o k = true := by unfold okV; rw [hv, h1]; rfl
  have o2 : okV l o (k + 1) = true := by unfold okV; rw [hv, h2]; rfl
  refine ⟨⟨if_pos o1, by unfold sureB; rw [o1, Bool.true_and], if_pos o1⟩, ⟨if_pos o2, by unfold sureB; rw [o2, Bool.true_and], if_pos o2⟩, ?_⟩
  obtain ⟨q1, q2, -⟩ := L18.late_sent (l := l) (o := o) hk.1 h0
  have := L18.sent_late (l := l) (o := o) (k := k + 1) (x := lateL l o k) (L18.ownI_asc _) (by omega)
  omega
theorem longer_sure {l : List Pass} {o : List Slot} {s : Slot} (hv : validB l (o ++ [s]) = true) {k : Int} (hk : 0 ≤ k ∧ k < 3) :
    sureE l (o ++ [s]) k = 0 ∧ sureB l (o ++ [s]) k = decide (k < (mostV l (ownV (o ++ [s])) : Nat)) ∧ mostV l (ownV o) ≤ mostV l (ownV (o ++ [s])) := by
  have h1 : limB k = true := by unfold L18.limB; rw [decide_eq_true hk.1, decide_eq_true (by omega)]; rfl
  have o1 : okV l (o ++ [s]) k = true := by unfold okV; rw [hv, h1]; rfl
  refine ⟨if_pos o1, by unfold sureB; rw [o1, Bool.true_and], L18.mostV_sub (L18.own_sub fun x hx => ?_)⟩
  obtain ⟨t, ht, e⟩ := L18.mem_passes.1 hx
  exact L18.mem_passes.2 ⟨t, List.mem_append_left _ ht, e⟩
theorem slots_cells {W : World} {xa : Option Addr} {n cap : Nat} {o : List Slot} (h : SlotsAt W (.slice xa n cap) o) : 0 < o.length → ∃ b off, xa = some ⟨b, off, none⟩ ∧ ∀ j y, o[j]? = some y → ∀ i c, (slotCs y)[i]? = some c → W.cell? ⟨b, off + j * 3 + i, none⟩ = some c := fun h0 => by
  obtain ⟨a, cap', e, -, -, h3⟩ := h
  cases e
  obtain ⟨b, off, e2, h4⟩ := h3 h0
  refine ⟨b, off, e2, fun j y hj i c hic => ?_⟩
  obtain ⟨cs, -, h5, h6⟩ := h4 j y hj
  exact h5 i c (by rw [h6]; exact hic)
theorem last_bd {l : List Pass} {o : List Slot} (hv : validB l o = true) (h0 : 0 < o.length) (hs : SureOK l) : 0 < (o.getD (o.length - 1) noSlot).to ∧ (o.getD (o.length - 1) noSlot).to ≤ 10000 := by
  unfold L18.validB L18.slotsB at hv
  simp only [Bool.and_eq_true, decide_eq_true_eq] at hv
  have h := hv.2.2.2 (o.length - 1) (by omega)
  unfold L18.slotOK at h
  obtain ⟨⟨h1, h2⟩, h3, h4, h5⟩ := h
  have h6 := hs (o.getD (o.length - 1) noSlot).pass.toNat (by omega)
  unfold L18.passAt at h3 h5
  omega
set_option maxRecDepth 100000 in
set_option maxHeartbeats 4000000 in
theorem more_true (vx vy : Value) (x : List X3) (y : List Int) (losses more : Int) (w : World) (hx : XsAt w vx x) (hy : IntsAt w vy y) (hxr : ∀ a ∈ x, XR a) (hyr : ∀ a ∈ y, InR a) (hlo : InR losses) (hmo : InR more) :
    Calls Try.prog 7 #[vx, vy, .int .i64 losses, .int .i64 more] w fun e w' => e = .returned (.bool true) ∧ Below w.heap.size w w' := by
  have HX := Lib.hid hx
  have HY := Lib.hid hy
  have HXR := Lib.hid hxr
  have HYR := Lib.hid hyr
  clear hx hy hxr hyr
  go_enter Try.func7, Try.ntmps7
  go_wp2_with fail
  refine (sane10 _).mono ?_
  rintro e w1 ⟨rfl, b1⟩
  have hq := passes11 _ x w1 (HX.out.later b1) HXR.out
  go_wp2_with fail
  refine hq.mono ?_
  rintro e w2 ⟨vp, rfl, hp, b2⟩
  clear hq
  have hps := hp.passes
  have b12 := b1.trans (b2.mono b1.size)
  have hq := option12 1 vp _ _ _ w2 hps (HY.out.below b12) (sureOK_G x) HYR.out (by have := passesG_len x; omega)
  obtain ⟨pa, pc, rfl, hple, hpcm⟩ := hps.len
  unfold maxLen at hpcm
  have hpl := passesG_len x
  have HOK := Lib.hid (fun h => L18.optV_ok (x := x) y h)
  have HE := Lib.hid (show (optV (passesG x) y).length = 0 ∨ passesG x ≠ [] from by
    by_cases h : passesG x = []
    · left
      have hv : optV (passesG x) y = [] := by
        rw [h]; exact optV_nil y
      rw [hv]; rfl
    · exact .inr h)
  have HSU := Lib.hid (sureOK_G x)
  generalize hl : passesG x = l at hps hq hple hpl HOK HE HSU
  clear hp
  generalize ho : optV l y = o at hq HOK HE
  have HP := Lib.hid hps
  clear hps hl ho
  go_wp2_with fail
  refine hq.mono ?_
  rintro e w3 ⟨⟨vo, rfl, vs, rfl, hs⟩, b3⟩
  dsimp only [optHd] at hs ⊢
  clear hq
  obtain ⟨sa, sc, rfl, hsle, hscm⟩ := hs.len
  unfold maxLen at hscm
  have b13 := b12.trans (b3.mono b12.size)
  by_cases hol : 0 < o.length
  · have d1 : decide (0 < o.length) = true := decide_eq_true hol
    obtain ⟨W, hW⟩ : ∃ W, W = w3.alloc (.cells #[.int .i64 1, .int .i64 0, .int .i64 0, .int .i64 0, .int .i64 0, .int .i64 0, .int .i64 0, .int .i64 1, .slice sa o.length sc] 28) := ⟨_, rfl⟩
    have hbW : Below w3.heap.size w3 W := by rw [hW]; exact (Below.refl _ _).alloc (Nat.le_refl _) _
    have hS : LW w W w3.heap.size (.slice pa l.length pc) (.slice sa o.length sc) l o := ⟨b13.trans (hbW.mono b13.size), PassesAt.later (PassesAt.later HP.out b3) hbW, by rw [hW]; exact Blk.new _ _ _, SlotsAt.later hs hbW⟩
    go_upto_region 5 with (fail)
    rw [← hW]
    clear hW hbW hs b1 b2 b3 b12 b13
    generalize w3.heap.size = B at hS ⊢
    have hv := HOK.out (by rcases HE.out with h | h; omega; exact h)
    have h6 := hv.2.2
    have HV := Lib.hid hv.1
    clear HOK HE hv HX HY HXR HYR
    have hp13 := fun W => pick13 losses 3 W hlo (by decide) (by decide)
    have hkb := L18.pickV_bd losses (n := 3) (by decide)
    obtain ⟨k, hk⟩ : ∃ k, pickV losses 3 = k := ⟨_, rfl⟩
    rw [hk] at hp13 hkb
    obtain ⟨⟨f1, f2, f3⟩, ⟨f4, f5, f6⟩, f7⟩ := more_facts HV.out hol hkb
    have hsuv := HSU.out
    have hlb := last_bd HV.out hol hsuv
    have HP13 := Lib.hid hp13
    have HM13 := Lib.hid (fun W => pick13 more (l.length : Int) W hmo)
    have HSUV := Lib.hid hsuv
    have HKB := Lib.hid hkb
    have HS := Lib.hid hS
    have HLS := Lib.hid (fun s h => longer_sure (l := l) (o := o) (s := s) h hkb)
    have HLO := Lib.hid (fun s a b c => L18.longer_ok (l := l) (o := o) (s := s) HV.out a b c)
    have hwk : IntKind.i64.wrap (k + 1) = k + 1 := wrapS _ (by omega) (by omega)
    obtain ⟨m, hm⟩ : ∃ m, mostV l (ownV o) = m := ⟨_, rfl⟩
    obtain ⟨l1, hl1⟩ : ∃ m, lastV l o k = m := ⟨_, rfl⟩
    obtain ⟨l2, hl2⟩ : ∃ m, lastV l o (k + 1) = m := ⟨_, rfl⟩
    have hls := HLS.out
    rw [hm] at f2 f5 hls
    rw [hl1] at f3 f7
    rw [hl2] at f6 f7
    have HLS := Lib.hid hls
    have F := Lib.hid (And.intro (And.intro f1 (And.intro f2 f3)) (And.intro f4 (And.intro f5 f6)))
    have e2 : decide ((l2 : Int) < (l1 : Int)) = false := decide_eq_false (by omega)
    obtain ⟨z0, z1, z2, z3, z4, z5, z6, z7, z8⟩ := HS.out.cells
    clear hp13 hsuv hkb hk hm hl1 hl2 hls f1 f2 f3 f4 f5 f6 HSU hS
    go_wp2_with fail
    refine (HP13.out _).mono ?_
    rintro e w4 ⟨rfl, rfl⟩
    clear z0 z1 z2 z3 z4 z5 z6 z7 z8
    have hq := sure19 _ _ _ _ k _ HS.out.opt HS.out.ps
    rw [show (⟨optHd 1, o⟩ : OptD).slots = o from rfl, F.out.1.1, F.out.1.2.1] at hq
    obtain ⟨z0, z1, z2, z3, z4, z5, z6, z7, z8⟩ := HS.out.cells
    go_wp2_with fail
    refine hq.mono ?_
    rintro e w5 ⟨rfl, b5⟩
    clear hq z0 z1 z2 z3 z4 z5 z6 z7 z8
    have HS5 := Lib.hid (HS.out.later b5)
    clear HS b5
    have hq := sure19 _ _ _ _ (k + 1) _ HS5.out.opt HS5.out.ps
    rw [show (⟨optHd 1, o⟩ : OptD).slots = o from rfl, F.out.2.1, F.out.2.2.1] at hq
    obtain ⟨z0, z1, z2, z3, z4, z5, z6, z7, z8⟩ := HS5.out.cells
    go_wp2_with fail
    refine hq.mono ?_
    rintro e w6 ⟨rfl, b6⟩
    clear hq z0 z1 z2 z3 z4 z5 z6 z7 z8
    have HS6 := Lib.hid (HS5.out.later b6)
    clear HS5 b6
    have hq := latest23 _ _ _ _ k _ HS6.out.opt HS6.out.ps
    rw [show (⟨optHd 1, o⟩ : OptD).slots = o from rfl, F.out.1.1, F.out.1.2.2] at hq
    obtain ⟨z0, z1, z2, z3, z4, z5, z6, z7, z8⟩ := HS6.out.cells
    go_wp2_with fail
    refine hq.mono ?_
    rintro e w7 ⟨⟨v7, rfl, -⟩, b7⟩
    clear hq z0 z1 z2 z3 z4 z5 z6 z7 z8
    have HS7 := Lib.hid (HS6.out.later b7)
    clear HS6 b7
    have hq := latest23 _ _ _ _ (k + 1) _ HS7.out.opt HS7.out.ps
    rw [show (⟨optHd 1, o⟩ : OptD).slots = o from rfl, F.out.2.1, F.out.2.2.2] at hq
    obtain ⟨z0, z1, z2, z3, z4, z5, z6, z7, z8⟩ := HS7.out.cells
    go_wp2_with fail
    refine hq.mono ?_
    rintro e w8 ⟨⟨v8, rfl, -⟩, b8⟩
    clear hq z0 z1 z2 z3 z4 z5 z6 z7 z8
    have HS8 := Lib.hid (HS7.out.later b8)
    clear HS7 b8 F
    have hpn : 0 < l.length := by
      have := (valid_parts HV.out).2.2.2
      refine Classical.byContradiction fun hc => ?_
      have h := this (o.getD 0 noSlot).pass (L18.mem_passes.2 ⟨_, L18.getD_mem _ hol, rfl⟩)
      omega
    have hpb := L18.pickV_bd more (n := (l.length : Int)) (by omega)
    have hp2 := fun W => HM13.out W (by omega) (by omega)
    obtain ⟨pn, hpe⟩ : ∃ pn : Nat, pickV more l.length = (pn : Int) := ⟨(pickV more l.length).toNat, by omega⟩
    rw [hpe] at hpb hp2
    have HM := Lib.hid hp2
    have hpl2 : pn < l.length := by omega
    have hsu := HSUV.out pn hpl2
    have HPA := Lib.hid (show L18.passAt l (pn : Int) = l.getD pn noPass from rfl)
    obtain ⟨ln, hln⟩ : ∃ ln, o.length = ln + 1 := ⟨o.length - 1, by omega⟩
    have hlb2 := hlb
    rw [show o.length - 1 = ln by omega] at hlb2
    have HEN := Lib.hid (show L18.endAt o o.length = (o.getD ln noSlot).to by unfold L18.endAt; rw [if_neg (by omega), show o.length - 1 = ln by omega])
    have eL : IntKind.i64.wrap ((o.length : Int) - 1) = (ln : Int) := by rw [wrapS _ (by omega) (by omega)]; omega
    have j1 : (0 : Int) ≤ (pn : Int) ∧ (pn : Int) < (l.length : Int) := by omega
    have j2 : (0 : Int) ≤ (ln : Int) ∧ (ln : Int) < (o.length : Int) := by omega
    have hlno : ln < o.length := by omega
    have HLN := Lib.hid hln
    clear hln
    generalize hpx : l.getD pn noPass = px at hsu HPA
    generalize hsx : o.getD ln noSlot = sx at hlb2 HEN
    obtain ⟨fv, hfv⟩ : ∃ m, max px.sf sx.to = m := ⟨_, rfl⟩
    have hfv2 : (if px.sf < sx.to then sx.to else px.sf) = fv := by rw [← hfv, Int.max_def]; split <;> (try split) <;> omega
    have hfb : 0 ≤ fv ∧ fv ≤ 10000 := by omega
    have ew : IntKind.i64.wrap (fv + 1) = fv + 1 := wrapS _ (by omega) (by omega)
    have HVL := HLO.out ⟨pn, fv, fv + 1⟩ (by dsimp only; omega) (by dsimp only; rw [HPA.out, HEN.out]; exact hfv.symm) rfl
    dsimp only at HVL
    rw [HPA.out] at HVL
    have HPX := Lib.hid hpx
    have HSX := Lib.hid hsx
    have HVL := Lib.hid HVL
    have HFV := Lib.hid hfv
    clear HM13 HSUV HPA HEN HLO hpx hsx hfv hpe hpb hp2 hlb hlb2
    obtain ⟨z0, z1, z2, z3, z4, z5, z6, z7, z8⟩ := HS8.out.cells
    by_cases hbb : k + 1 < (m : Int)
    · have q1 : decide (k + 1 < (m : Int)) = true := decide_eq_true hbb
      have q2 : decide (k < (m : Int)) = true := decide_eq_true (by omega)
      go_upto_region 15 with (fail)
      obtain ⟨V, hV⟩ : ∃ V, V = w8.alloc (.cells #[.int .i64 1, .int .i64 0, .int .i64 0, .int .i64 0, .int .i64 0, .int .i64 0, .int .i64 0, .int .i64 1, .slice sa o.length sc] 28) := ⟨_, rfl⟩
      have hbV : Below w8.heap.size w8 V := by rw [hV]; exact (Below.refl _ _).alloc (Nat.le_refl _) _
      have kC : Blk V w8.heap.size #[.int .i64 1, .int .i64 0, .int .i64 0, .int .i64 0, .int .i64 0, .int .i64 0, .int .i64 0, .int .i64 1, .slice sa o.length sc] 28 := by rw [hV]; exact Blk.new _ _ _
      have HSV := Lib.hid (HS8.out.later hbV)
      rw [← hV]
      clear z0 z1 z2 z3 z4 z5 z6 z7 z8 hV
      obtain ⟨C, hC⟩ : ∃ C, w8.heap.size = C := ⟨_, rfl⟩
      rw [hC] at kC ⊢
      obtain ⟨z0, z1, z2, z3, z4, z5, z6, z7, z8⟩ := HSV.out.cells
      go_wp2_with fail
      refine (HM.out _).mono ?_
      rintro e wq ⟨rfl, rfl⟩
      obtain ⟨b, off, rfl, g0, g1, g2, g3, g4, g5⟩ := (PassesAt.get HSV.out.ps) (getD_some noPass hpl2)
      obtain ⟨sb, soff, rfl, s0, s1, s2⟩ := (SlotsAt.get HSV.out.sl) (getD_some noSlot hlno)
      rw [HPX.out] at g0 g1 g2 g3 g4 g5
      rw [HSX.out] at s0 s1 s2
      go_upto_region 16 with (fail)
      refine wp_region_noPanic ?_
      refine wp_region_held_drew (S := (fun w' => w'.cell? ⟨b, off + pn * 6 + 2, none⟩ = some (.int .i64 px.sf) ∧ w'.cell? ⟨sb, soff + ln * 3 + 2, none⟩ = some (.int .i64 sx.to) ∧ w'.cell? ⟨B, 8, none⟩ = some (.slice (some ⟨sb, soff, none⟩) o.length sc))) (by kernel_rfl) ⟨g2, s2, z8⟩ (fun hHeld => ?_)
      refine wpAnyH_take (i := 0) (oi := { dst := some 106, op := Op.move (Operand.tmp 9), type := 32, pos := "law.go:241", after := #[], guard := none }) (v := ?_) rfl (by kernel_rfl) (by kernel_rfl) (by kernel_rfl) (fun _ _ _ h => h) (Or.inl ⟨by kernel_rfl, ?_⟩) (by assumption) ?_
      rotate_left
      · intro w hSw
        (try dsimp only at hSw)
        go_simp
        all_goals (with_reducible rfl)
      (try simp only [Act.put, List.setIfInBounds_toArray, List.set_cons_zero, List.set_cons_succ])
      refine wpAnyH_take (i := 1) (oi := { dst := some 107, op := Op.move (Operand.tmp 24), type := 3, pos := "law.go:241", after := #[], guard := none }) (v := ?_) rfl (by kernel_rfl) (by kernel_rfl) (by kernel_rfl) (fun _ _ _ h => h) (Or.inl ⟨by kernel_rfl, ?_⟩) (by assumption) ?_
      rotate_left
      · intro w hSw
        (try dsimp only at hSw)
        go_simp
        all_goals (with_reducible rfl)
      (try simp only [Act.put, List.setIfInBounds_toArray, List.set_cons_zero, List.set_cons_succ])
      refine wpAnyH_take (i := 2) (oi := { dst := some 108, op := Op.indexAddr 32 (Operand.tmp 106) (Operand.tmp 107), type := 0, pos := "law.go:241", after := #[{ on := 0, ground := Ground.data }, { on := 1, ground := Ground.data }], guard := none }) (v := ?_) rfl (by kernel_rfl) (by kernel_rfl) (by kernel_rfl) (fun _ _ _ h => h) (Or.inl ⟨by kernel_rfl, ?_⟩) (by assumption) ?_
      rotate_left
      · intro w hSw
        (try dsimp only at hSw)
        go_simp
        all_goals (with_reducible rfl)
      (try simp only [Act.put, List.setIfInBounds_toArray, List.set_cons_zero, List.set_cons_succ])
      refine wpAnyH_take (i := 3) (oi := { dst := some 109, op := Op.fieldAddr 30 (Operand.tmp 108) 2, type := 0, pos := "law.go:241", after := #[{ on := 2, ground := Ground.data }], guard := none }) (v := ?_) rfl (by kernel_rfl) (by kernel_rfl) (by kernel_rfl) (fun _ _ _ h => h) (Or.inl ⟨by kernel_rfl, ?_⟩) (by assumption) ?_
      rotate_left
      · intro w hSw
        (try dsimp only at hSw)
        go_simp
        all_goals (with_reducible rfl)
      (try simp only [Act.put, List.setIfInBounds_toArray, List.set_cons_zero, List.set_cons_succ])
      refine wpAnyH_take (i := 4) (oi := { dst := some 110, op := Op.fieldAddr 25 (Operand.tmp 109) 0, type := 0, pos := "law.go:241", after := #[{ on := 3, ground := Ground.data }], guard := none }) (v := ?_) rfl (by kernel_rfl) (by kernel_rfl) (by kernel_rfl) (fun _ _ _ h => h) (Or.inl ⟨by kernel_rfl, ?_⟩) (by assumption) ?_
      rotate_left
      · intro w hSw
        (try dsimp only at hSw)
        go_simp
        all_goals (with_reducible rfl)
      (try simp only [Act.put, List.setIfInBounds_toArray, List.set_cons_zero, List.set_cons_succ])
      refine wpAnyH_take (i := 5) (oi := { dst := some 111, op := Op.load 3 (Operand.tmp 110), type := 3, pos := "law.go:241", after := #[{ on := 4, ground := Ground.data }], guard := none }) (v := ?_) rfl (by kernel_rfl) (by kernel_rfl) (by kernel_rfl) (fun _ _ _ h => h) (Or.inl ⟨by kernel_rfl, ?_⟩) (by assumption) ?_
      rotate_left
      · intro w hSw
        (try dsimp only at hSw)
        go_simp
        all_goals (with_reducible rfl)
      (try simp only [Act.put, List.setIfInBounds_toArray, List.set_cons_zero, List.set_cons_succ])
      refine wpAnyH_take (i := 6) (oi := { dst := some 112, op := Op.fieldAddr 28 (Operand.tmp 10) 7, type := 0, pos := "law.go:241", after := #[], guard := none }) (v := ?_) rfl (by kernel_rfl) (by kernel_rfl) (by kernel_rfl) (fun _ _ _ h => h) (Or.inl ⟨by kernel_rfl, ?_⟩) (by assumption) ?_
      rotate_left
      · intro w hSw
        (try dsimp only at hSw)
        go_simp
        all_goals (with_reducible rfl)
      (try simp only [Act.put, List.setIfInBounds_toArray, List.set_cons_zero, List.set_cons_succ])
      refine wpAnyH_take (i := 7) (oi := { dst := some 113, op := Op.load 26 (Operand.tmp 112), type := 26, pos := "law.go:241", after := #[{ on := 6, ground := Ground.data }], guard := none }) (v := ?_) rfl (by kernel_rfl) (by kernel_rfl) (by kernel_rfl) (fun _ _ _ h => h) (Or.inl ⟨by kernel_rfl, ?_⟩) (by assumption) ?_
      rotate_left
      · intro w hSw
        (try dsimp only at hSw)
        go_simp
        all_goals (with_reducible rfl)
      (try simp only [Act.put, List.setIfInBounds_toArray, List.set_cons_zero, List.set_cons_succ])
      refine wpAnyH_take (i := 8) (oi := { dst := some 114, op := Op.fieldAddr 28 (Operand.tmp 10) 7, type := 0, pos := "law.go:241", after := #[], guard := none }) (v := ?_) rfl (by kernel_rfl) (by kernel_rfl) (by kernel_rfl) (fun _ _ _ h => h) (Or.inl ⟨by kernel_rfl, ?_⟩) (by assumption) ?_
      rotate_left
      · intro w hSw
        (try dsimp only at hSw)
        go_simp
        all_goals (with_reducible rfl)
      (try simp only [Act.put, List.setIfInBounds_toArray, List.set_cons_zero, List.set_cons_succ])
      refine wpAnyH_take (i := 9) (oi := { dst := some 115, op := Op.load 26 (Operand.tmp 114), type := 26, pos := "law.go:241", after := #[{ on := 8, ground := Ground.data }], guard := none }) (v := ?_) rfl (by kernel_rfl) (by kernel_rfl) (by kernel_rfl) (fun _ _ _ h => h) (Or.inl ⟨by kernel_rfl, ?_⟩) (by assumption) ?_
      rotate_left
      · intro w hSw
        (try dsimp only at hSw)
        go_simp
        all_goals (with_reducible rfl)
      (try simp only [Act.put, List.setIfInBounds_toArray, List.set_cons_zero, List.set_cons_succ])
      refine wpAnyH_take (i := 10) (oi := { dst := some 116, op := Op.call { callee := Callee.builtin Builtin.len, args := #[Operand.tmp 115], argTypes := #[26] }, type := 3, pos := "law.go:241", after := #[{ on := 9, ground := Ground.data }], guard := none }) (v := ?_) rfl (by kernel_rfl) (by kernel_rfl) (by kernel_rfl) (fun _ _ _ h => h) (Or.inl ⟨by kernel_rfl, ?_⟩) (by assumption) ?_
      rotate_left
      · intro w hSw
        (try dsimp only at hSw)
        go_simp
        all_goals (with_reducible rfl)
      (try simp only [Act.put, List.setIfInBounds_toArray, List.set_cons_zero, List.set_cons_succ])
      refine wpAnyH_take (i := 11) (oi := { dst := some 117, op := Op.binOp BinOp.sub 3 (Operand.tmp 116) (Operand.const (Value.int IntKind.i64 1)) 3, type := 3, pos := "law.go:241", after := #[{ on := 10, ground := Ground.data }], guard := none }) (v := ?_) rfl (by kernel_rfl) (by kernel_rfl) (by kernel_rfl) (fun _ _ _ h => h) (Or.inl ⟨by kernel_rfl, ?_⟩) (by assumption) ?_
      rotate_left
      · intro w hSw
        (try dsimp only at hSw)
        go_simp
        all_goals (with_reducible rfl)
      (try simp only [Act.put, List.setIfInBounds_toArray, List.set_cons_zero, List.set_cons_succ])
      refine wpAnyH_take (i := 12) (oi := { dst := some 118, op := Op.indexAddr 26 (Operand.tmp 113) (Operand.tmp 117), type := 0, pos := "law.go:241", after := #[{ on := 7, ground := Ground.data }, { on := 11, ground := Ground.data }], guard := none }) (v := ?_) rfl (by kernel_rfl) (by kernel_rfl) (by kernel_rfl) (fun _ _ _ h => h) (Or.inl ⟨by kernel_rfl, ?_⟩) (by assumption) ?_
      rotate_left
      · intro w hSw
        (try dsimp only at hSw)
        go_simp
        all_goals (with_reducible rfl)
      (try simp only [Act.put, List.setIfInBounds_toArray, List.set_cons_zero, List.set_cons_succ])
      refine wpAnyH_take (i := 13) (oi := { dst := some 119, op := Op.fieldAddr 63 (Operand.tmp 118) 1, type := 0, pos := "law.go:241", after := #[{ on := 12, ground := Ground.data }], guard := none }) (v := ?_) rfl (by kernel_rfl) (by kernel_rfl) (by kernel_rfl) (fun _ _ _ h => h) (Or.inl ⟨by kernel_rfl, ?_⟩) (by assumption) ?_
      rotate_left
      · intro w hSw
        (try dsimp only at hSw)
        go_simp
        all_goals (with_reducible rfl)
      (try simp only [Act.put, List.setIfInBounds_toArray, List.set_cons_zero, List.set_cons_succ])
      refine wpAnyH_take (i := 14) (oi := { dst := some 120, op := Op.fieldAddr 25 (Operand.tmp 119) 1, type := 0, pos := "law.go:241", after := #[{ on := 13, ground := Ground.data }], guard := none }) (v := ?_) rfl (by kernel_rfl) (by kernel_rfl) (by kernel_rfl) (fun _ _ _ h => h) (Or.inl ⟨by kernel_rfl, ?_⟩) (by assumption) ?_
      rotate_left
      · intro w hSw
        (try dsimp only at hSw)
        go_simp
        all_goals (with_reducible rfl)
      (try simp only [Act.put, List.setIfInBounds_toArray, List.set_cons_zero, List.set_cons_succ])
      refine wpAnyH_take (i := 15) (oi := { dst := some 121, op := Op.load 3 (Operand.tmp 120), type := 3, pos := "law.go:241", after := #[{ on := 14, ground := Ground.data }], guard := none }) (v := ?_) rfl (by kernel_rfl) (by kernel_rfl) (by kernel_rfl) (fun _ _ _ h => h) (Or.inl ⟨by kernel_rfl, ?_⟩) (by assumption) ?_
      rotate_left
      · intro w hSw
        (try dsimp only at hSw)
        go_simp
        all_goals (with_reducible rfl)
      (try simp only [Act.put, List.setIfInBounds_toArray, List.set_cons_zero, List.set_cons_succ])
      refine wpAnyH_take (i := 16) (oi := { dst := some 122, op := Op.call { callee := Callee.builtin Builtin.max, args := #[Operand.tmp 111, Operand.tmp 121], argTypes := #[3, 3] }, type := 3, pos := "law.go:241", after := #[{ on := 5, ground := Ground.data }, { on := 15, ground := Ground.data }], guard := none }) (v := ?_) rfl (by kernel_rfl) (by kernel_rfl) (by kernel_rfl) (fun _ _ _ h => h) (Or.inl ⟨by kernel_rfl, ?_⟩) (by assumption) ?_
      rotate_left
      · intro w hSw
        (try dsimp only at hSw)
        go_simp
        all_goals (with_reducible rfl)
      (try simp only [Act.put, List.setIfInBounds_toArray, List.set_cons_zero, List.set_cons_succ])
      refine wpAnyH_take (i := 17) (oi := { dst := some 25, op := Op.assign (Operand.tmp 122), type := 3, pos := "law.go:241", after := #[{ on := 16, ground := Ground.data }, { on := 0, ground := Ground.phase }, { on := 1, ground := Ground.phase }, { on := 2, ground := Ground.phase }, { on := 3, ground := Ground.phase }, { on := 4, ground := Ground.phase }, { on := 5, ground := Ground.phase }, { on := 6, ground := Ground.phase }, { on := 7, ground := Ground.phase }, { on := 8, ground := Ground.phase }, { on := 9, ground := Ground.phase }, { on := 10, ground := Ground.phase }, { on := 11, ground := Ground.phase }, { on := 12, ground := Ground.phase }, { on := 13, ground := Ground.phase }, { on := 14, ground := Ground.phase }, { on := 15, ground := Ground.phase }, { on := 16, ground := Ground.phase }], guard := none }) (v := ?_) rfl (by kernel_rfl) (by kernel_rfl) (by kernel_rfl) (fun _ _ _ h => h) (Or.inl ⟨by kernel_rfl, ?_⟩) (by assumption) ?_
      rotate_left
      · intro w hSw
        (try dsimp only at hSw)
        go_simp
        all_goals (with_reducible rfl)
      (try simp only [Act.put, List.setIfInBounds_toArray, List.set_cons_zero, List.set_cons_succ])
      refine wpAnyH_done (by kernel_rfl) ?_ _
      refine NoPanic.normal ?_
      rw [HFV.out]
      have hD : Below V.heap.size V V.drew := (Below.refl _ _).drew
      have hD8 := hbV.trans (hD.mono hbV.size)
      have HSD := Lib.hid (HSV.out.later hD)
      have kD := kC.below hD kC.lt
      clear z0 z1 z2 z3 z4 z5 z6 z7 z8 g0 g1 g2 g3 g4 g5 s0 s1 s2 hHeld HSV kC
      generalize V.drew = D at HSD kD hD8 ⊢
      have lC := kD.lt
      have hsc := slots_cells HSD.out.sl
      have z8 := fun o => (HSD.out.ob.alloc o).cell 8
      simp only [List.getElem?_toArray, List.getElem?_cons_succ, List.getElem?_cons_zero] at z8
      go_wp2_with (at_builtin; first
        | (refine wpList_copyN E26 (f := slotCs) (l := o) rfl _ _ rfl (B := D.heap.size) (Nat.le_refl _) rfl rfl (fun _ => rfl) hsc (by omega) (by decide) ?_; intro v5 w5 ho5 hb5)
        | (refine wpList_pushN E26 rfl _ _ rfl D.heap.size ho5 rfl rfl rfl (by intro u hu; simp at hu; rcases hu with rfl | rfl | rfl <;> rfl) (by unfold maxLen; omega) (by omega) hb5.size ?_; intro v6 w6 ho6 hg6 hb6; obtain ⟨na, nc, rfl, hn1, hn2⟩ := owned_len ho6; have k6 := kD.below (hb5.trans hb6) lC; have c8 := k6.cell 8; have f8 := k6.frozen 8; simp only [List.getElem?_toArray, List.getElem?_cons_succ, List.getElem?_cons_zero] at c8; have kY := k6.set 8 (.slice na (o.length + 1) nc); simp only [List.setIfInBounds_toArray, List.set_cons_succ, List.set_cons_zero] at kY; have KY := Lib.hid kY; have q0 := kY.cell 0; have q1 := kY.cell 1; have q2 := kY.cell 2; have q3 := kY.cell 3; have q4 := kY.cell 4; have q5 := kY.cell 5; have q6 := kY.cell 6; have q7 := kY.cell 7; have q8 := kY.cell 8; simp only [List.getElem?_toArray, List.getElem?_cons_zero, List.getElem?_cons_succ] at q0 q1 q2 q3 q4 q5 q6 q7 q8; clear kY z8))
      have bY8 : Below w8.heap.size w8 (w6.setCell ⟨C, 8, none⟩ (.slice na (o.length + 1) nc)) := (hD8.trans ((hb5.mono hD8.size).trans (hb6.mono hD8.size))).setCell (by rw [hC]; exact Nat.le_refl _) _
      have hown : OwnS (w6.setCell ⟨C, 8, none⟩ (.slice na (o.length + 1) nc)) D.heap.size (.slice na (o.length + 1) nc) (o ++ [(⟨pn, fv, fv + 1⟩ : Slot)]) := by
        unfold OwnS
        rw [List.length_append, show flat slotCs (o ++ [(⟨pn, fv, fv + 1⟩ : Slot)]) = flat slotCs o ++ [.int .i64 (pn : Int), .int .i64 fv, .int .i64 (fv + 1)] from by simp [flat, slotCs]]
        exact owned_kept ho6 (fun g hg => by
          obtain ⟨cur, -, h2⟩ := owned_block ho6 hg
          exact Below.heap_setCell _ _ _ _ (by simp; omega))
      have hsl := hown.slots
      have hps := PassesAt.later HS8.out.ps bY8
      have hBY := HS8.out.below.trans (bY8.mono HS8.out.below.size)
      have hkY := KY.out
      clear q0 q1 q2 q3 q4 q5 q6 q7 q8 KY c8 f8 hown ho5 ho6 hg6 bY8 k6 kD
      generalize (w6.setCell ⟨C, 8, none⟩ (.slice na (o.length + 1) nc)) = Y at hsl hps hBY hkY ⊢
      have hq := valid17 (.agg #[.int .i64 1, .int .i64 0, .int .i64 0, .int .i64 0, .int .i64 0, .int .i64 0, .int .i64 0, .int .i64 1, .slice na (o.length + 1) nc]) _ ⟨optHd 1, o ++ [(⟨pn, fv, fv + 1⟩ : Slot)]⟩ l Y ⟨_, rfl, hsl⟩ hps
      rw [show (⟨optHd 1, o ++ [(⟨pn, fv, fv + 1⟩ : Slot)]⟩ : OptD).slots = o ++ [(⟨pn, fv, fv + 1⟩ : Slot)] from rfl] at hq
      have hvl := HVL.out
      have HSL := Lib.hid hsl
      have HPS := Lib.hid hps
      have HKY := Lib.hid hkY
      clear hsl hps hkY
      cases hvb : validB l (o ++ [(⟨pn, fv, fv + 1⟩ : Slot)]) with
      | true =>
        rw [hvb] at hq
        obtain ⟨t1, t2, t3⟩ := HLS.out _ hvb
        generalize mostV l (ownV (o ++ [(⟨pn, fv, fv + 1⟩ : Slot)])) = m2 at t2 t3
        clear hvb hvl
        go_wp2_with fail
        refine hq.mono ?_
        rintro e wv ⟨rfl, bv⟩
        clear hq
        have kv := HKY.out.below bv HKY.out.lt
        have hBv := hBY.trans (bv.mono hBY.size)
        have q0 := kv.cell 0
        have q1 := kv.cell 1
        have q2 := kv.cell 2
        have q3 := kv.cell 3
        have q4 := kv.cell 4
        have q5 := kv.cell 5
        have q6 := kv.cell 6
        have q7 := kv.cell 7
        have q8 := kv.cell 8
        simp only [List.getElem?_toArray, List.getElem?_cons_zero, List.getElem?_cons_succ] at q0 q1 q2 q3 q4 q5 q6 q7 q8
        have hq := sure19 (.agg #[.int .i64 1, .int .i64 0, .int .i64 0, .int .i64 0, .int .i64 0, .int .i64 0, .int .i64 0, .int .i64 1, .slice na (o.length + 1) nc]) _ ⟨optHd 1, o ++ [(⟨pn, fv, fv + 1⟩ : Slot)]⟩ l k wv ⟨_, rfl, SlotsAt.later HSL.out bv⟩ (PassesAt.later HPS.out bv)
        rw [show (⟨optHd 1, o ++ [(⟨pn, fv, fv + 1⟩ : Slot)]⟩ : OptD).slots = o ++ [(⟨pn, fv, fv + 1⟩ : Slot)] from rfl, t1, t2] at hq
        clear kv t1 t2
        by_cases ha : k < (m : Int)
        · have qa : decide (k < (m : Int)) = true := decide_eq_true ha
          have qc : decide (k < (m2 : Int)) = true := decide_eq_true (by omega)
          go_wp2_with fail
          refine hq.mono ?_
          rintro e wu ⟨rfl, bu⟩
          go_wp2
          go_ret
          exact ⟨rfl, hBv.trans (bu.mono hBv.size)⟩
        · have qa : decide (k < (m : Int)) = false := decide_eq_false ha
          by_cases hbb2 : k + 1 < (m : Int)
          · exfalso; omega
          · first
            | exact absurd hbb hbb2
            | (go_wp2_with fail
               refine hq.mono ?_
               rintro e wu ⟨rfl, bu⟩
               go_wp2
               go_ret
               exact ⟨rfl, hBv.trans (bu.mono hBv.size)⟩)
      | false =>
        rw [hvb] at hq
        rw [hvb] at hvl
        clear hvb
        go_wp2_with fail
        refine hq.mono ?_
        rintro e wv ⟨rfl, bv⟩
        clear hq
        have kv := HKY.out.below bv HKY.out.lt
        have hBv := hBY.trans (bv.mono hBY.size)
        obtain ⟨b', off', e', g0, g1, g2, g3, g4, g5⟩ := (PassesAt.get (PassesAt.later HPS.out bv)) (getD_some noPass hpl2)
        cases e'
        rw [HPX.out] at g0 g1 g2 g3 g4 g5
        have q0 := kv.cell 0
        have q1 := kv.cell 1
        have q2 := kv.cell 2
        have q3 := kv.cell 3
        have q4 := kv.cell 4
        have q5 := kv.cell 5
        have q6 := kv.cell 6
        have q7 := kv.cell 7
        have q8 := kv.cell 8
        simp only [List.getElem?_toArray, List.getElem?_cons_zero, List.getElem?_cons_succ] at q0 q1 q2 q3 q4 q5 q6 q7 q8
        clear kv
        by_cases h7 : o.length + 1 ≤ 6
        · have r1 : decide (6 < (o.length : Int) + 1) = false := decide_eq_false (by omega)
          have r2 : decide (px.su ≤ fv) = true := by
            rw [decide_eq_true h7, Bool.true_and] at hvl
            have := of_decide_eq_false hvl.symm
            exact decide_eq_true (by omega)
          clear hvl
          go_wp2
          go_ret
          exact ⟨rfl, hBv⟩
        · have r1 : decide (6 < (o.length : Int) + 1) = true := decide_eq_true (by omega)
          clear hvl
          go_wp2
          go_ret
          exact ⟨rfl, hBv⟩
    · have q1 : decide (k + 1 < (m : Int)) = false := decide_eq_false hbb
      go_upto_region 15 with (fail)
      obtain ⟨V, hV⟩ : ∃ V, V = w8.alloc (.cells #[.int .i64 1, .int .i64 0, .int .i64 0, .int .i64 0, .int .i64 0, .int .i64 0, .int .i64 0, .int .i64 1, .slice sa o.length sc] 28) := ⟨_, rfl⟩
      have hbV : Below w8.heap.size w8 V := by rw [hV]; exact (Below.refl _ _).alloc (Nat.le_refl _) _
      have kC : Blk V w8.heap.size #[.int .i64 1, .int .i64 0, .int .i64 0, .int .i64 0, .int .i64 0, .int .i64 0, .int .i64 0, .int .i64 1, .slice sa o.length sc] 28 := by rw [hV]; exact Blk.new _ _ _
      have HSV := Lib.hid (HS8.out.later hbV)
      rw [← hV]
      clear z0 z1 z2 z3 z4 z5 z6 z7 z8 hV
      obtain ⟨C, hC⟩ : ∃ C, w8.heap.size = C := ⟨_, rfl⟩
      rw [hC] at kC ⊢
      obtain ⟨z0, z1, z2, z3, z4, z5, z6, z7, z8⟩ := HSV.out.cells
      go_wp2_with fail
      refine (HM.out _).mono ?_
      rintro e wq ⟨rfl, rfl⟩
      obtain ⟨b, off, rfl, g0, g1, g2, g3, g4, g5⟩ := (PassesAt.get HSV.out.ps) (getD_some noPass hpl2)
      obtain ⟨sb, soff, rfl, s0, s1, s2⟩ := (SlotsAt.get HSV.out.sl) (getD_some noSlot hlno)
      rw [HPX.out] at g0 g1 g2 g3 g4 g5
      rw [HSX.out] at s0 s1 s2
      go_upto_region 16 with (fail)
      refine wp_region_noPanic ?_
      refine wp_region_held_drew (S := (fun w' => w'.cell? ⟨b, off + pn * 6 + 2, none⟩ = some (.int .i64 px.sf) ∧ w'.cell? ⟨sb, soff + ln * 3 + 2, none⟩ = some (.int .i64 sx.to) ∧ w'.cell? ⟨B, 8, none⟩ = some (.slice (some ⟨sb, soff, none⟩) o.length sc))) (by kernel_rfl) ⟨g2, s2, z8⟩ (fun hHeld => ?_)
      refine wpAnyH_take (i := 0) (oi := { dst := some 106, op := Op.move (Operand.tmp 9), type := 32, pos := "law.go:241", after := #[], guard := none }) (v := ?_) rfl (by kernel_rfl) (by kernel_rfl) (by kernel_rfl) (fun _ _ _ h => h) (Or.inl ⟨by kernel_rfl, ?_⟩) (by assumption) ?_
      rotate_left
      · intro w hSw
        (try dsimp only at hSw)
        go_simp
        all_goals (with_reducible rfl)
      (try simp only [Act.put, List.setIfInBounds_toArray, List.set_cons_zero, List.set_cons_succ])
      refine wpAnyH_take (i := 1) (oi := { dst := some 107, op := Op.move (Operand.tmp 24), type := 3, pos := "law.go:241", after := #[], guard := none }) (v := ?_) rfl (by kernel_rfl) (by kernel_rfl) (by kernel_rfl) (fun _ _ _ h => h) (Or.inl ⟨by kernel_rfl, ?_⟩) (by assumption) ?_
      rotate_left
      · intro w hSw
        (try dsimp only at hSw)
        go_simp
        all_goals (with_reducible rfl)
      (try simp only [Act.put, List.setIfInBounds_toArray, List.set_cons_zero, List.set_cons_succ])
      refine wpAnyH_take (i := 2) (oi := { dst := some 108, op := Op.indexAddr 32 (Operand.tmp 106) (Operand.tmp 107), type := 0, pos := "law.go:241", after := #[{ on := 0, ground := Ground.data }, { on := 1, ground := Ground.data }], guard := none }) (v := ?_) rfl (by kernel_rfl) (by kernel_rfl) (by kernel_rfl) (fun _ _ _ h => h) (Or.inl ⟨by kernel_rfl, ?_⟩) (by assumption) ?_
      rotate_left
      · intro w hSw
        (try dsimp only at hSw)
        go_simp
        all_goals (with_reducible rfl)
      (try simp only [Act.put, List.setIfInBounds_toArray, List.set_cons_zero, List.set_cons_succ])
      refine wpAnyH_take (i := 3) (oi := { dst := some 109, op := Op.fieldAddr 30 (Operand.tmp 108) 2, type := 0, pos := "law.go:241", after := #[{ on := 2, ground := Ground.data }], guard := none }) (v := ?_) rfl (by kernel_rfl) (by kernel_rfl) (by kernel_rfl) (fun _ _ _ h => h) (Or.inl ⟨by kernel_rfl, ?_⟩) (by assumption) ?_
      rotate_left
      · intro w hSw
        (try dsimp only at hSw)
        go_simp
        all_goals (with_reducible rfl)
      (try simp only [Act.put, List.setIfInBounds_toArray, List.set_cons_zero, List.set_cons_succ])
      refine wpAnyH_take (i := 4) (oi := { dst := some 110, op := Op.fieldAddr 25 (Operand.tmp 109) 0, type := 0, pos := "law.go:241", after := #[{ on := 3, ground := Ground.data }], guard := none }) (v := ?_) rfl (by kernel_rfl) (by kernel_rfl) (by kernel_rfl) (fun _ _ _ h => h) (Or.inl ⟨by kernel_rfl, ?_⟩) (by assumption) ?_
      rotate_left
      · intro w hSw
        (try dsimp only at hSw)
        go_simp
        all_goals (with_reducible rfl)
      (try simp only [Act.put, List.setIfInBounds_toArray, List.set_cons_zero, List.set_cons_succ])
      refine wpAnyH_take (i := 5) (oi := { dst := some 111, op := Op.load 3 (Operand.tmp 110), type := 3, pos := "law.go:241", after := #[{ on := 4, ground := Ground.data }], guard := none }) (v := ?_) rfl (by kernel_rfl) (by kernel_rfl) (by kernel_rfl) (fun _ _ _ h => h) (Or.inl ⟨by kernel_rfl, ?_⟩) (by assumption) ?_
      rotate_left
      · intro w hSw
        (try dsimp only at hSw)
        go_simp
        all_goals (with_reducible rfl)
      (try simp only [Act.put, List.setIfInBounds_toArray, List.set_cons_zero, List.set_cons_succ])
      refine wpAnyH_take (i := 6) (oi := { dst := some 112, op := Op.fieldAddr 28 (Operand.tmp 10) 7, type := 0, pos := "law.go:241", after := #[], guard := none }) (v := ?_) rfl (by kernel_rfl) (by kernel_rfl) (by kernel_rfl) (fun _ _ _ h => h) (Or.inl ⟨by kernel_rfl, ?_⟩) (by assumption) ?_
      rotate_left
      · intro w hSw
        (try dsimp only at hSw)
        go_simp
        all_goals (with_reducible rfl)
      (try simp only [Act.put, List.setIfInBounds_toArray, List.set_cons_zero, List.set_cons_succ])
      refine wpAnyH_take (i := 7) (oi := { dst := some 113, op := Op.load 26 (Operand.tmp 112), type := 26, pos := "law.go:241", after := #[{ on := 6, ground := Ground.data }], guard := none }) (v := ?_) rfl (by kernel_rfl) (by kernel_rfl) (by kernel_rfl) (fun _ _ _ h => h) (Or.inl ⟨by kernel_rfl, ?_⟩) (by assumption) ?_
      rotate_left
      · intro w hSw
        (try dsimp only at hSw)
        go_simp
        all_goals (with_reducible rfl)
      (try simp only [Act.put, List.setIfInBounds_toArray, List.set_cons_zero, List.set_cons_succ])
      refine wpAnyH_take (i := 8) (oi := { dst := some 114, op := Op.fieldAddr 28 (Operand.tmp 10) 7, type := 0, pos := "law.go:241", after := #[], guard := none }) (v := ?_) rfl (by kernel_rfl) (by kernel_rfl) (by kernel_rfl) (fun _ _ _ h => h) (Or.inl ⟨by kernel_rfl, ?_⟩) (by assumption) ?_
      rotate_left
      · intro w hSw
        (try dsimp only at hSw)
        go_simp
        all_goals (with_reducible rfl)
      (try simp only [Act.put, List.setIfInBounds_toArray, List.set_cons_zero, List.set_cons_succ])
      refine wpAnyH_take (i := 9) (oi := { dst := some 115, op := Op.load 26 (Operand.tmp 114), type := 26, pos := "law.go:241", after := #[{ on := 8, ground := Ground.data }], guard := none }) (v := ?_) rfl (by kernel_rfl) (by kernel_rfl) (by kernel_rfl) (fun _ _ _ h => h) (Or.inl ⟨by kernel_rfl, ?_⟩) (by assumption) ?_
      rotate_left
      · intro w hSw
        (try dsimp only at hSw)
        go_simp
        all_goals (with_reducible rfl)
      (try simp only [Act.put, List.setIfInBounds_toArray, List.set_cons_zero, List.set_cons_succ])
      refine wpAnyH_take (i := 10) (oi := { dst := some 116, op := Op.call { callee := Callee.builtin Builtin.len, args := #[Operand.tmp 115], argTypes := #[26] }, type := 3, pos := "law.go:241", after := #[{ on := 9, ground := Ground.data }], guard := none }) (v := ?_) rfl (by kernel_rfl) (by kernel_rfl) (by kernel_rfl) (fun _ _ _ h => h) (Or.inl ⟨by kernel_rfl, ?_⟩) (by assumption) ?_
      rotate_left
      · intro w hSw
        (try dsimp only at hSw)
        go_simp
        all_goals (with_reducible rfl)
      (try simp only [Act.put, List.setIfInBounds_toArray, List.set_cons_zero, List.set_cons_succ])
      refine wpAnyH_take (i := 11) (oi := { dst := some 117, op := Op.binOp BinOp.sub 3 (Operand.tmp 116) (Operand.const (Value.int IntKind.i64 1)) 3, type := 3, pos := "law.go:241", after := #[{ on := 10, ground := Ground.data }], guard := none }) (v := ?_) rfl (by kernel_rfl) (by kernel_rfl) (by kernel_rfl) (fun _ _ _ h => h) (Or.inl ⟨by kernel_rfl, ?_⟩) (by assumption) ?_
      rotate_left
      · intro w hSw
        (try dsimp only at hSw)
        go_simp
        all_goals (with_reducible rfl)
      (try simp only [Act.put, List.setIfInBounds_toArray, List.set_cons_zero, List.set_cons_succ])
      refine wpAnyH_take (i := 12) (oi := { dst := some 118, op := Op.indexAddr 26 (Operand.tmp 113) (Operand.tmp 117), type := 0, pos := "law.go:241", after := #[{ on := 7, ground := Ground.data }, { on := 11, ground := Ground.data }], guard := none }) (v := ?_) rfl (by kernel_rfl) (by kernel_rfl) (by kernel_rfl) (fun _ _ _ h => h) (Or.inl ⟨by kernel_rfl, ?_⟩) (by assumption) ?_
      rotate_left
      · intro w hSw
        (try dsimp only at hSw)
        go_simp
        all_goals (with_reducible rfl)
      (try simp only [Act.put, List.setIfInBounds_toArray, List.set_cons_zero, List.set_cons_succ])
      refine wpAnyH_take (i := 13) (oi := { dst := some 119, op := Op.fieldAddr 63 (Operand.tmp 118) 1, type := 0, pos := "law.go:241", after := #[{ on := 12, ground := Ground.data }], guard := none }) (v := ?_) rfl (by kernel_rfl) (by kernel_rfl) (by kernel_rfl) (fun _ _ _ h => h) (Or.inl ⟨by kernel_rfl, ?_⟩) (by assumption) ?_
      rotate_left
      · intro w hSw
        (try dsimp only at hSw)
        go_simp
        all_goals (with_reducible rfl)
      (try simp only [Act.put, List.setIfInBounds_toArray, List.set_cons_zero, List.set_cons_succ])
      refine wpAnyH_take (i := 14) (oi := { dst := some 120, op := Op.fieldAddr 25 (Operand.tmp 119) 1, type := 0, pos := "law.go:241", after := #[{ on := 13, ground := Ground.data }], guard := none }) (v := ?_) rfl (by kernel_rfl) (by kernel_rfl) (by kernel_rfl) (fun _ _ _ h => h) (Or.inl ⟨by kernel_rfl, ?_⟩) (by assumption) ?_
      rotate_left
      · intro w hSw
        (try dsimp only at hSw)
        go_simp
        all_goals (with_reducible rfl)
      (try simp only [Act.put, List.setIfInBounds_toArray, List.set_cons_zero, List.set_cons_succ])
      refine wpAnyH_take (i := 15) (oi := { dst := some 121, op := Op.load 3 (Operand.tmp 120), type := 3, pos := "law.go:241", after := #[{ on := 14, ground := Ground.data }], guard := none }) (v := ?_) rfl (by kernel_rfl) (by kernel_rfl) (by kernel_rfl) (fun _ _ _ h => h) (Or.inl ⟨by kernel_rfl, ?_⟩) (by assumption) ?_
      rotate_left
      · intro w hSw
        (try dsimp only at hSw)
        go_simp
        all_goals (with_reducible rfl)
      (try simp only [Act.put, List.setIfInBounds_toArray, List.set_cons_zero, List.set_cons_succ])
      refine wpAnyH_take (i := 16) (oi := { dst := some 122, op := Op.call { callee := Callee.builtin Builtin.max, args := #[Operand.tmp 111, Operand.tmp 121], argTypes := #[3, 3] }, type := 3, pos := "law.go:241", after := #[{ on := 5, ground := Ground.data }, { on := 15, ground := Ground.data }], guard := none }) (v := ?_) rfl (by kernel_rfl) (by kernel_rfl) (by kernel_rfl) (fun _ _ _ h => h) (Or.inl ⟨by kernel_rfl, ?_⟩) (by assumption) ?_
      rotate_left
      · intro w hSw
        (try dsimp only at hSw)
        go_simp
        all_goals (with_reducible rfl)
      (try simp only [Act.put, List.setIfInBounds_toArray, List.set_cons_zero, List.set_cons_succ])
      refine wpAnyH_take (i := 17) (oi := { dst := some 25, op := Op.assign (Operand.tmp 122), type := 3, pos := "law.go:241", after := #[{ on := 16, ground := Ground.data }, { on := 0, ground := Ground.phase }, { on := 1, ground := Ground.phase }, { on := 2, ground := Ground.phase }, { on := 3, ground := Ground.phase }, { on := 4, ground := Ground.phase }, { on := 5, ground := Ground.phase }, { on := 6, ground := Ground.phase }, { on := 7, ground := Ground.phase }, { on := 8, ground := Ground.phase }, { on := 9, ground := Ground.phase }, { on := 10, ground := Ground.phase }, { on := 11, ground := Ground.phase }, { on := 12, ground := Ground.phase }, { on := 13, ground := Ground.phase }, { on := 14, ground := Ground.phase }, { on := 15, ground := Ground.phase }, { on := 16, ground := Ground.phase }], guard := none }) (v := ?_) rfl (by kernel_rfl) (by kernel_rfl) (by kernel_rfl) (fun _ _ _ h => h) (Or.inl ⟨by kernel_rfl, ?_⟩) (by assumption) ?_
      rotate_left
      · intro w hSw
        (try dsimp only at hSw)
        go_simp
        all_goals (with_reducible rfl)
      (try simp only [Act.put, List.setIfInBounds_toArray, List.set_cons_zero, List.set_cons_succ])
      refine wpAnyH_done (by kernel_rfl) ?_ _
      refine NoPanic.normal ?_
      rw [HFV.out]
      have hD : Below V.heap.size V V.drew := (Below.refl _ _).drew
      have hD8 := hbV.trans (hD.mono hbV.size)
      have HSD := Lib.hid (HSV.out.later hD)
      have kD := kC.below hD kC.lt
      clear z0 z1 z2 z3 z4 z5 z6 z7 z8 g0 g1 g2 g3 g4 g5 s0 s1 s2 hHeld HSV kC
      generalize V.drew = D at HSD kD hD8 ⊢
      have lC := kD.lt
      have hsc := slots_cells HSD.out.sl
      have z8 := fun o => (HSD.out.ob.alloc o).cell 8
      simp only [List.getElem?_toArray, List.getElem?_cons_succ, List.getElem?_cons_zero] at z8
      go_wp2_with (at_builtin; first
        | (refine wpList_copyN E26 (f := slotCs) (l := o) rfl _ _ rfl (B := D.heap.size) (Nat.le_refl _) rfl rfl (fun _ => rfl) hsc (by omega) (by decide) ?_; intro v5 w5 ho5 hb5)
        | (refine wpList_pushN E26 rfl _ _ rfl D.heap.size ho5 rfl rfl rfl (by intro u hu; simp at hu; rcases hu with rfl | rfl | rfl <;> rfl) (by unfold maxLen; omega) (by omega) hb5.size ?_; intro v6 w6 ho6 hg6 hb6; obtain ⟨na, nc, rfl, hn1, hn2⟩ := owned_len ho6; have k6 := kD.below (hb5.trans hb6) lC; have c8 := k6.cell 8; have f8 := k6.frozen 8; simp only [List.getElem?_toArray, List.getElem?_cons_succ, List.getElem?_cons_zero] at c8; have kY := k6.set 8 (.slice na (o.length + 1) nc); simp only [List.setIfInBounds_toArray, List.set_cons_succ, List.set_cons_zero] at kY; have KY := Lib.hid kY; have q0 := kY.cell 0; have q1 := kY.cell 1; have q2 := kY.cell 2; have q3 := kY.cell 3; have q4 := kY.cell 4; have q5 := kY.cell 5; have q6 := kY.cell 6; have q7 := kY.cell 7; have q8 := kY.cell 8; simp only [List.getElem?_toArray, List.getElem?_cons_zero, List.getElem?_cons_succ] at q0 q1 q2 q3 q4 q5 q6 q7 q8; clear kY z8))
      have bY8 : Below w8.heap.size w8 (w6.setCell ⟨C, 8, none⟩ (.slice na (o.length + 1) nc)) := (hD8.trans ((hb5.mono hD8.size).trans (hb6.mono hD8.size))).setCell (by rw [hC]; exact Nat.le_refl _) _
      have hown : OwnS (w6.setCell ⟨C, 8, none⟩ (.slice na (o.length + 1) nc)) D.heap.size (.slice na (o.length + 1) nc) (o ++ [(⟨pn, fv, fv + 1⟩ : Slot)]) := by
        unfold OwnS
        rw [List.length_append, show flat slotCs (o ++ [(⟨pn, fv, fv + 1⟩ : Slot)]) = flat slotCs o ++ [.int .i64 (pn : Int), .int .i64 fv, .int .i64 (fv + 1)] from by simp [flat, slotCs]]
        exact owned_kept ho6 (fun g hg => by
          obtain ⟨cur, -, h2⟩ := owned_block ho6 hg
          exact Below.heap_setCell _ _ _ _ (by simp; omega))
      have hsl := hown.slots
      have hps := PassesAt.later HS8.out.ps bY8
      have hBY := HS8.out.below.trans (bY8.mono HS8.out.below.size)
      have hkY := KY.out
      clear q0 q1 q2 q3 q4 q5 q6 q7 q8 KY c8 f8 hown ho5 ho6 hg6 bY8 k6 kD
      generalize (w6.setCell ⟨C, 8, none⟩ (.slice na (o.length + 1) nc)) = Y at hsl hps hBY hkY ⊢
      have hq := valid17 (.agg #[.int .i64 1, .int .i64 0, .int .i64 0, .int .i64 0, .int .i64 0, .int .i64 0, .int .i64 0, .int .i64 1, .slice na (o.length + 1) nc]) _ ⟨optHd 1, o ++ [(⟨pn, fv, fv + 1⟩ : Slot)]⟩ l Y ⟨_, rfl, hsl⟩ hps
      rw [show (⟨optHd 1, o ++ [(⟨pn, fv, fv + 1⟩ : Slot)]⟩ : OptD).slots = o ++ [(⟨pn, fv, fv + 1⟩ : Slot)] from rfl] at hq
      have hvl := HVL.out
      have HSL := Lib.hid hsl
      have HPS := Lib.hid hps
      have HKY := Lib.hid hkY
      clear hsl hps hkY
      cases hvb : validB l (o ++ [(⟨pn, fv, fv + 1⟩ : Slot)]) with
      | true =>
        rw [hvb] at hq
        obtain ⟨t1, t2, t3⟩ := HLS.out _ hvb
        generalize mostV l (ownV (o ++ [(⟨pn, fv, fv + 1⟩ : Slot)])) = m2 at t2 t3
        clear hvb hvl
        go_wp2_with fail
        refine hq.mono ?_
        rintro e wv ⟨rfl, bv⟩
        clear hq
        have kv := HKY.out.below bv HKY.out.lt
        have hBv := hBY.trans (bv.mono hBY.size)
        have q0 := kv.cell 0
        have q1 := kv.cell 1
        have q2 := kv.cell 2
        have q3 := kv.cell 3
        have q4 := kv.cell 4
        have q5 := kv.cell 5
        have q6 := kv.cell 6
        have q7 := kv.cell 7
        have q8 := kv.cell 8
        simp only [List.getElem?_toArray, List.getElem?_cons_zero, List.getElem?_cons_succ] at q0 q1 q2 q3 q4 q5 q6 q7 q8
        have hq := sure19 (.agg #[.int .i64 1, .int .i64 0, .int .i64 0, .int .i64 0, .int .i64 0, .int .i64 0, .int .i64 0, .int .i64 1, .slice na (o.length + 1) nc]) _ ⟨optHd 1, o ++ [(⟨pn, fv, fv + 1⟩ : Slot)]⟩ l k wv ⟨_, rfl, SlotsAt.later HSL.out bv⟩ (PassesAt.later HPS.out bv)
        rw [show (⟨optHd 1, o ++ [(⟨pn, fv, fv + 1⟩ : Slot)]⟩ : OptD).slots = o ++ [(⟨pn, fv, fv + 1⟩ : Slot)] from rfl, t1, t2] at hq
        clear kv t1 t2
        by_cases ha : k < (m : Int)
        · have qa : decide (k < (m : Int)) = true := decide_eq_true ha
          have qc : decide (k < (m2 : Int)) = true := decide_eq_true (by omega)
          go_wp2_with fail
          refine hq.mono ?_
          rintro e wu ⟨rfl, bu⟩
          go_wp2
          go_ret
          exact ⟨rfl, hBv.trans (bu.mono hBv.size)⟩
        · have qa : decide (k < (m : Int)) = false := decide_eq_false ha
          by_cases hbb2 : k + 1 < (m : Int)
          · exfalso; omega
          · first
            | exact absurd hbb hbb2
            | (go_wp2_with fail
               refine hq.mono ?_
               rintro e wu ⟨rfl, bu⟩
               go_wp2
               go_ret
               exact ⟨rfl, hBv.trans (bu.mono hBv.size)⟩)
      | false =>
        rw [hvb] at hq
        rw [hvb] at hvl
        clear hvb
        go_wp2_with fail
        refine hq.mono ?_
        rintro e wv ⟨rfl, bv⟩
        clear hq
        have kv := HKY.out.below bv HKY.out.lt
        have hBv := hBY.trans (bv.mono hBY.size)
        obtain ⟨b', off', e', g0, g1, g2, g3, g4, g5⟩ := (PassesAt.get (PassesAt.later HPS.out bv)) (getD_some noPass hpl2)
        cases e'
        rw [HPX.out] at g0 g1 g2 g3 g4 g5
        have q0 := kv.cell 0
        have q1 := kv.cell 1
        have q2 := kv.cell 2
        have q3 := kv.cell 3
        have q4 := kv.cell 4
        have q5 := kv.cell 5
        have q6 := kv.cell 6
        have q7 := kv.cell 7
        have q8 := kv.cell 8
        simp only [List.getElem?_toArray, List.getElem?_cons_zero, List.getElem?_cons_succ] at q0 q1 q2 q3 q4 q5 q6 q7 q8
        clear kv
        by_cases h7 : o.length + 1 ≤ 6
        · have r1 : decide (6 < (o.length : Int) + 1) = false := decide_eq_false (by omega)
          have r2 : decide (px.su ≤ fv) = true := by
            rw [decide_eq_true h7, Bool.true_and] at hvl
            have := of_decide_eq_false hvl.symm
            exact decide_eq_true (by omega)
          clear hvl
          go_wp2
          go_ret
          exact ⟨rfl, hBv⟩
        · have r1 : decide (6 < (o.length : Int) + 1) = true := decide_eq_true (by omega)
          clear hvl
          go_wp2
          go_ret
          exact ⟨rfl, hBv⟩
  · have d1 : decide (0 < o.length) = false := decide_eq_false hol
    go_wp2
    go_ret
    refine ⟨rfl, ?_⟩
    exact b13.alloc b13.size _
end Go.Proofs.Ytmajkagmcdlncaa

/- package loss: Worst. -/
import Derived.Test.YtmajkagmcdlncaaE5
namespace Go.Proofs.Ytmajkagmcdlncaa
open Go.RowKit Go.Shelf
open L18 (Pass Slot noPass noSlot validB ownI passesV ownV mostV goneV accW worstV pickL limB)

def worstB (l : List Pass) (os : List OptD) (k : Int) : Bool := decide (os.length ≤ 12) && (limB k && os.all fun o => validB l o.slots)
def worstS (l : List Pass) (os : List OptD) (k : Int) : List Nat := if worstB l os k = true then worstV (accW l (slotsL os) k) os.length else []
def worstL (l : List Pass) (os : List OptD) (k : Int) : List Int := if worstB l os k = true then goneV (slotsL os) (worstV (accW l (slotsL os) k) os.length) else []
def worstE (l : List Pass) (os : List OptD) (k : Int) : Int := if worstB l os k = true then 0 else 180
theorem worst_dfs (acc : List Nat → Bool) (n : Nat) : (extL acc n [] 0).foldl pickL [] = worstV acc n := by
  rw [← dfs_ext, L18.dfs_wrs acc n [] 0 [] (Nat.le_refl _)]; rfl
theorem run_store_func2 {P : Program} (w : World) (a : Addr) (m : Mode) (f : Fn) (x y : Array Value) : (store a (.func f x y) m).run P w = stored P w a (.func f x y) m := run_store P w a _ m rfl
attribute [local go_sem] run_store_func2 Oper.semAt_some
set_option maxRecDepth 100000 in
set_option maxHeartbeats 4000000 in
theorem worst_yes (vo vp : Value) (os : List OptD) (l : List Pass) (k : Int) (w : World) (ho : OptsAt w vo os) (hp : PassesAt w vp l) (hcan : CanOK l) (h12 : os.length ≤ 12) (hl : limB k = true) (hall : (os.any fun o => !validB l o.slots) = false) :
    Calls Try.prog 31 #[vo, vp, .int .i64 k] w fun e w' => (∃ v1 v2, e = .returned (.tuple #[v1, v2, .int .i64 0]) ∧ IntsAt w' v1 (goneV (slotsL os) (worstV (accW l (slotsL os) k) os.length)) ∧ IntsAt w' v2 (nI (worstV (accW l (slotsL os) k) os.length))) ∧ Below w.heap.size w w' := by
  have hA : AllOK l os := all_ok hcan fun o h => by
    have := List.any_eq_false.1 hall o h
    simpa using this
  have hL := limit45 k
  rw [hl] at hL
  have HL := Lib.hid hL
  obtain ⟨V, hV⟩ : ∃ V, V = (((w.alloc (.cells #[vo] 39)).alloc (.cells #[vp] 32)).alloc (.cells #[.int .i64 k] 3)).alloc (.cells #[.slice none 0 0] 23) := ⟨_, rfl⟩
  have hB0 : Below w.heap.size w V := by rw [hV]; exact ((((Below.refl _ _).alloc (Nat.le_refl _) _).alloc (by simp) _).alloc (by simp; omega) _).alloc (by simp; omega) _
  have kO : Blk V w.heap.size #[vo] 39 := by rw [hV]; exact (((Blk.new _ _ _).alloc _).alloc _).alloc _
  have kP : Blk V (w.heap.size + 1) #[vp] 32 := by rw [hV]; exact ((Blk.newAt _ _ _ (by simp)).alloc _).alloc _
  have kK : Blk V (w.heap.size + 2) #[.int .i64 k] 3 := by rw [hV]; exact (Blk.newAt _ _ _ (by simp)).alloc _
  have kS : Blk V (w.heap.size + 3) #[.slice none 0 0] 23 := by rw [hV]; exact Blk.newAt _ _ _ (by simp)
  have hsV : V.heap.size = w.heap.size + 4 := by rw [hV]; simp
  have hx := contains54 vo _ os _ V (ho.later hB0) (bad53_ans V os ⟨w.heap.size + 1, 0, none⟩ vp l (kP.cell 0) (hp.later hB0))
  rw [hall] at hx
  have cO := kO.cell 0
  have cK := kK.cell 0
  simp at cO cK
  have HX := Lib.hid hx
  have HO := Lib.hid ho
  have HP := Lib.hid hp
  have HA := Lib.hid hA
  obtain ⟨oa, oc, rfl, ole, ocm⟩ := ho.len
  unfold maxLen at ocm
  obtain ⟨pa, pc, rfl, ple, pcm⟩ := hp.len
  unfold maxLen at pcm
  have d12 : decide ((12 : Int) < (os.length : Int)) = false := decide_eq_false (by omega)
  clear hx ho hp hA hl hall hL hcan
  refine (callsIn_wide (n := 6)).1 ?_
  refine callsIn_of_wp_marks Try.func31 rfl trivial ?_ rfl
  simp only [Try.ntmps31, List.size_toArray, List.length_cons, List.length_nil, Nat.reduceAdd, Nat.reduceSub, Array.replicate_succ, Array.replicate_zero, List.push_toArray, List.append_toArray, List.nil_append, List.cons_append]
  refine wpIn_wide.2 ?_
  go_upto_region 2 with (fail)
  rw [← hV]
  clear hV
  go_wp2_with fail
  refine (HL.out _).mono ?_
  rintro e w2 ⟨rfl, rfl⟩
  go_wp2_with fail
  refine HX.out.mono ?_
  rintro e w1 ⟨rfl, hB1⟩
  have kO1 := kO.below hB1 kO.lt
  have kP1 := kP.below hB1 kP.lt
  have kK1 := kK.below hB1 kK.lt
  have kS1 := kS.below hB1 kS.lt
  have hs1 : w.heap.size + 4 ≤ w1.heap.size := by have := hB1.size; omega
  have hBw1 := hB0.trans (hB1.mono hB0.size)
  clear HX kO kP kK kS cO cK hB1 hsV hB0
  have cO := fun o => (kO1.alloc o).cell 0
  simp at cO
  go_wp2_with fail
  refine (lists57 _ _ _).mono ?_
  rintro e w2 ⟨rfl, rfl⟩
  go_wp2_with fail
  refine (wpIn_wide (n := 6)).1 ?_
  obtain ⟨R, hR⟩ : ∃ R, R = ((w1.alloc (.cells #[.func (.func 55) #[] #[.pointer (some ⟨w.heap.size, 0, none⟩)]] 83)).alloc (.cells #[.int .i64 (os.length : Int)] 3)).alloc (.cells #[.func (.func 56) #[] #[.pointer (some ⟨w.heap.size + 1, 0, none⟩), .pointer (some ⟨w1.heap.size, 0, none⟩), .pointer (some ⟨w.heap.size + 2, 0, none⟩)]] 84) := ⟨_, rfl⟩
  have hBR : Below w1.heap.size w1 R := by rw [hR]; exact (((Below.refl _ _).alloc (Nat.le_refl _) _).alloc (by simp) _).alloc (by simp; omega) _
  have kG : Blk R w1.heap.size #[.func (.func 55) #[] #[.pointer (some ⟨w.heap.size, 0, none⟩)]] 83 := by rw [hR]; exact ((Blk.new _ _ _).alloc _).alloc _
  have kN : Blk R (w1.heap.size + 1) #[.int .i64 (os.length : Int)] 3 := by rw [hR]; exact (Blk.newAt _ _ _ (by simp)).alloc _
  have kA : Blk R (w1.heap.size + 1 + 1) #[.func (.func 56) #[] #[.pointer (some ⟨w.heap.size + 1, 0, none⟩), .pointer (some ⟨w1.heap.size, 0, none⟩), .pointer (some ⟨w.heap.size + 2, 0, none⟩)]] 84 := by rw [hR]; exact Blk.newAt _ _ _ (by simp)
  have hsR : w1.heap.size + 3 ≤ R.heap.size := by have := kA.lt; omega
  have hBwR := hBw1.trans (hBR.mono hBw1.size)
  have HEN : WEnv w (w.heap.size + 3) R (w.heap.size + 1) w1.heap.size (w.heap.size + 2) w.heap.size (w1.heap.size + 1) (w1.heap.size + 1 + 1) (.slice pa l.length pc) (.slice oa os.length oc) os.length k :=
    ⟨hBwR, (kP1.below hBR kP1.lt).cell 0, kG.cell 0, (kK1.below hBR kK1.lt).cell 0, (kO1.below hBR kO1.lt).cell 0, kN.cell 0, kA.cell 0, by omega, by omega⟩
  have kS := kS1.below hBR kS1.lt
  rw [← hR]
  have hseq := lists_seq 5 w (w.heap.size + 3) R.heap.size (w.heap.size + 4) (by omega) hBwR.size _ _ _ _ _ _ _ _ k l os R HEN HA.out HP.out HO.out h12 (by omega)
  clear hR kG kN kA kO1 kP1 kK1 kS1 hBR cO
  refine wpIn_rangeFunc_Tf (zs := fun _ => False) rfl (by omega) (gf := 72) (lb := #[.pointer (some ⟨w1.heap.size + 1, 0, none⟩), .pointer (some ⟨w1.heap.size + 1 + 1, 0, none⟩)]) rfl trivial Try.call72
    (fun k hk => hk.elim) hseq
    (fun x _ A B h ht => ⟨h.1.turn ht (fun _ hk => hk.elim), h.2⟩)
    (fun h k => h.trans k)
    (fun W l o o' hl ho hc _ => Turn.putObj o' hl ho hc) (Below.refl _ _) (fun _ => rfl)
    (fun pre W => WEnv w (w.heap.size + 3) W (w.heap.size + 1) w1.heap.size (w.heap.size + 2) w.heap.size (w1.heap.size + 1) (w1.heap.size + 1 + 1) (.slice pa l.length pc) (.slice oa os.length oc) os.length k ∧ (∃ v, Blk W (w.heap.size + 3) #[v] 23 ∧ IntsG (w.heap.size + 4) W v (nI ((pre.map (·.2)).foldl pickL []))) ∧ R.heap.size ≤ W.heap.size)
    (fun s A B hs ht => ⟨hs.1.turn hBwR.size ⟨ht.os, ht.tape, ht.output, ht.size, fun k hk _ hc => ht.block k hk (fun h => h) hc⟩, (by
      obtain ⟨v, h1, h2⟩ := hs.2.1
      exact ⟨v, ht.heap h1 (fun h => h) (.inr rfl), h2.turn ht (fun _ hk => hk.elim)⟩), Nat.le_trans hs.2.2 ht.size⟩)
    ⟨HEN, ⟨_, kS, IntsG.nil _ _⟩, Nat.le_refl _⟩
    (fun x t => (t.setIfInBounds 33 (.slice x.1.1 x.2.length x.1.2)).setIfInBounds 12 (.slice x.1.1 x.2.length x.1.2)) ?assign ?body ?done
  case assign =>
    rintro ly ⟨⟨xa, xc⟩, xl⟩ W K hK
    dsimp only [encL] at hK ⊢
    gi_wp2
    exact hK
  case body =>
    rintro ly pre ⟨⟨xa, xc⟩, xl⟩ W ⟨hE, ⟨v, hb, hg⟩, hsz⟩ ⟨hx1, hx2, hx3⟩
    dsimp only at hx1 hx2 hx3 ⊢
    have hfo : ((pre ++ [(((xa, xc), xl) : LV)]).map (·.2)).foldl pickL [] = pickL ((pre.map (·.2)).foldl pickL []) xl := by rw [List.map_append, List.foldl_append]; rfl
    generalize hbe : (pre.map (·.2)).foldl pickL [] = best at hg hfo
    clear hbe
    obtain ⟨ba, bc, rfl, b1, b2, b3⟩ := id hg
    rw [nI_len] at hb hg b1
    have j0 : W.cell? ⟨w.heap.size + 1 + 1 + 1, 0, none⟩ = some (.slice ba best.length bc) := hb.cell 0
    have f0 : W.frozen? ⟨w.heap.size + 1 + 1 + 1, 0, none⟩ = false := hb.frozen 0
    have hlen : xl.length ≤ 12 := hx3
    unfold maxLen at b2
    by_cases hlt : best.length < xl.length
    · have d1 : decide (best.length < xl.length) = true := decide_eq_true hlt
      have hpk : pickL best xl = xl := if_pos hlt
      rw [hpk] at hfo
      have HF := Lib.hid hfo
      have hcl := clone58 hx1 (by rw [nI_len]; omega) (by rw [nI_len]; omega)
      have HE := Lib.hid hE
      have HB := Lib.hid hb
      clear hfo hpk hE hb hg hx1 hx2 b3
      gi_wp2_with fail
      refine ⟨trivial, ?_⟩
      refine (CallsIn.inRound ly (callsIn_wide.2 hcl)).mono ?_
      rintro e w2 ⟨v2, rfl, hg2, hb2⟩
      obtain ⟨ca, cc, rfl, e1, e2, e3⟩ := id hg2
      have hbl := HB.out.below hb2 HB.out.lt
      have j1 : w2.cell? ⟨w.heap.size + 1 + 1 + 1, 0, none⟩ = some (.slice ba best.length bc) := hbl.cell 0
      have f1 : w2.frozen? ⟨w.heap.size + 1 + 1 + 1, 0, none⟩ = false := hbl.frozen 0
      gi_wp2
      have hE2 := HE.out.later hb2
      refine ⟨(keeps_below hb2).trans (KeepsOthers.setCell _ _ _), (Turn.of_below hb2).trans ((Chg.setCell (zs := fun j => j = w.heap.size + 3) rfl 0 _).turn _), ?_, ?_, ?_⟩
      · exact hE2.turn hBwR.size ((Chg.setCell (zs := fun j => j = w.heap.size + 3) rfl 0 _).turn R.heap.size)
      · refine ⟨_, hbl.set 0 _, ?_⟩
        rw [HF.out]
        exact (hg2.mono (by have := hBwR.size; omega)).turn ((Chg.setCell (zs := fun j => j = w.heap.size + 3) rfl 0 _).turn R.heap.size) (fun k hk => by cases hk; exact Nat.lt_succ_self _)
      · have := hb2.size
        simp [World.setCell]
        omega
    · have d1 : decide (best.length < xl.length) = false := decide_eq_false hlt
      have hpk : pickL best xl = best := if_neg hlt
      rw [hpk] at hfo
      have HF := Lib.hid hfo
      have HE := Lib.hid hE
      have HB := Lib.hid hb
      have HG := Lib.hid hg
      clear hfo hpk hE hb hg hx1 hx2 b3
      gi_wp2
      exact ⟨KeepsOthers.refl _, (Chg.refl _ _).turn _, HE.out, ⟨_, HB.out, by rw [HF.out]; exact HG.out⟩, hsz⟩
  case done =>
    rintro D ys W hD hxs ⟨hE, ⟨v, hb, hg⟩, hsz⟩ hK
    rw [hxs, worst_dfs] at hg
    have hgood := L18.worst_good l (slotsL os) k os.length
    obtain ⟨S, hS⟩ : ∃ S, worstV (accW l (slotsL os) k) os.length = S := ⟨_, rfl⟩
    rw [hS] at hg hgood
    have HS := Lib.hid hS
    clear hxs hS
    obtain ⟨ba, bc, rfl, b1, b2, b3⟩ := id hg
    rw [nI_len] at hb hg b1
    have hlS : S.length ≤ 12 := by
      have h1 := L18.ascN_sub hgood.1 (List.pairwise_lt_range (n := os.length)) (fun x hx => List.mem_range.2 (hgood.2.1 x hx))
      have := h1.length_le
      rw [List.length_range] at this; omega
    have hgo := gone55 _ ⟨w.heap.size, 0, none⟩ _ os S W.drew hE.co ((HO.out.later hE.below).later (Below.refl _ _).drew) (hg.ints.below (Below.refl _ _).drew) HA.out.six hgood.2.1 hlS
    have HGO := Lib.hid hgo
    have j0 : W.cell? ⟨w.heap.size + 1 + 1 + 1, 0, none⟩ = some (.slice ba S.length bc) := hb.cell 0
    have f0 : W.frozen? ⟨w.heap.size + 1 + 1 + 1, 0, none⟩ = false := hb.frozen 0
    have g0 : W.cell? ⟨w1.heap.size, 0, none⟩ = some (.func (.func 55) #[] #[.pointer (some ⟨w.heap.size, 0, none⟩)]) := hE.cg
    have hlD : D < W.heap.size := (Array.getElem?_eq_some_iff.1 hK).1
    have lb := hb.lt
    have lg : w1.heap.size < W.heap.size := by have := hsR; omega
    have HE := Lib.hid hE
    have HB := Lib.hid hb
    have HG := Lib.hid hg
    clear hgo hE hb hg hgood b3
    unfold maxLen at b2
    go_wp2_with fail
    refine wp_region_noPanic ?_
    refine wp_region_held_drew (S := (fun w' => w'.cell? ⟨w1.heap.size, 0, none⟩ = some (.func (.func 55) #[] #[.pointer (some ⟨w.heap.size, 0, none⟩)]) ∧ w'.cell? ⟨w.heap.size + 1 + 1 + 1, 0, none⟩ = some (.slice ba S.length bc))) (by kernel_rfl) ⟨g0, j0⟩ (fun hHeld => ?_)
    refine wpAnyH_take (i := 0) (oi := { dst := some 41, op := Op.load 83 (Operand.tmp 10), type := 83, pos := "loss.go:155", after := #[], guard := none }) (v := ?_) rfl (by kernel_rfl) (by kernel_rfl) (by kernel_rfl) (fun _ _ _ h => h) (Or.inl ⟨by kernel_rfl, ?_⟩) (by assumption) ?_
    rotate_left
    · intro w hSw
      (try dsimp only at hSw)
      go_simp
      all_goals (with_reducible rfl)
    (try simp only [Act.put, List.setIfInBounds_toArray, List.set_cons_zero, List.set_cons_succ])
    refine wpAnyH_take (i := 1) (oi := { dst := some 42, op := Op.load 23 (Operand.tmp 7), type := 23, pos := "loss.go:155", after := #[], guard := none }) (v := ?_) rfl (by kernel_rfl) (by kernel_rfl) (by kernel_rfl) (fun _ _ _ h => h) (Or.inl ⟨by kernel_rfl, ?_⟩) (by assumption) ?_
    rotate_left
    · intro w hSw
      (try dsimp only at hSw)
      go_simp
      all_goals (with_reducible rfl)
    (try simp only [Act.put, List.setIfInBounds_toArray, List.set_cons_zero, List.set_cons_succ])
    refine wpAnyH_take (i := 3) (oi := { dst := some 44, op := Op.load 23 (Operand.tmp 7), type := 23, pos := "loss.go:155", after := #[{ on := 4, ground := Ground.gcOnly Departure.lateStores }], guard := none }) (v := ?_) rfl (by kernel_rfl) (by kernel_rfl) (by kernel_rfl) (fun _ _ _ h => h) (Or.inl ⟨by kernel_rfl, ?_⟩) (by assumption) ?_
    rotate_left
    · intro w hSw
      (try dsimp only at hSw)
      go_simp
      all_goals (with_reducible rfl)
    (try simp only [Act.put, List.setIfInBounds_toArray, List.set_cons_zero, List.set_cons_succ])
    refine wpAnyH_one1 (i := 2) (o := { dst := some 43, op := Op.call { callee := Callee.value (Operand.tmp 41), args := #[Operand.tmp 42], argTypes := #[23] }, type := 23, pos := "loss.go:155", after := #[{ on := 0, ground := Ground.data }, { on := 1, ground := Ground.data }], guard := none }) (by kernel_rfl) rfl (fun K hK => ?_)
    go_simp
    go_at_call 55
    refine HGO.out.mono ?_
    rintro e wq ⟨v1, rfl, hI, hBq⟩
    have hkq : wq.cell? ⟨w1.heap.size, 0, none⟩ = some (.func (.func 55) #[] #[.pointer (some ⟨w.heap.size, 0, none⟩)]) ∧ wq.cell? ⟨w.heap.size + 1 + 1 + 1, 0, none⟩ = some (.slice ba S.length bc) := ⟨(hBq.cell (p := ⟨w1.heap.size, 0, none⟩) lg).trans g0, (hBq.cell (p := ⟨w.heap.size + 1 + 1 + 1, 0, none⟩) lb).trans j0⟩
    have fq : wq.frozen? ⟨w.heap.size + 1 + 1 + 1, 0, none⟩ = false := (hBq.frozen (p := ⟨w.heap.size + 1 + 1 + 1, 0, none⟩) lb).trans f0
    have HI := Lib.hid hI
    clear hI
    refine hK.out _ _ ?_ (fun hHeld2 => ?_)
    · first | exact hkq | exact ⟨(World.cell?_setCell_other _ _ _ _ (by intro h; injection h with h1; omega)).trans hkq.1, World.cell?_setCell_same _ _ _ hkq.2⟩
    clear hHeld
    have hHeld := hHeld2
    clear hHeld2
    clear hK K
    (try simp only [Act.put, List.setIfInBounds_toArray, List.set_cons_zero, List.set_cons_succ])
    refine wpAnyH_take (i := 4) (oi := { dst := some 6, op := Op.assign (Operand.tmp 43), type := 23, pos := "loss.go:155", after := #[{ on := 2, ground := Ground.data }, { on := 2, ground := Ground.chain }, { on := 0, ground := Ground.phase }, { on := 1, ground := Ground.phase }, { on := 2, ground := Ground.phase }, { on := 3, ground := Ground.textOnly Departure.lateStores }], guard := none }) (v := ?_) rfl (by kernel_rfl) (by kernel_rfl) (by kernel_rfl) (fun _ _ _ h => h) (Or.inl ⟨by kernel_rfl, ?_⟩) (by assumption) ?_
    rotate_left
    · intro w hSw
      (try dsimp only at hSw)
      go_simp
      all_goals (with_reducible rfl)
    (try simp only [Act.put, List.setIfInBounds_toArray, List.set_cons_zero, List.set_cons_succ])
    refine wpAnyH_one1 (i := 5) (o := { dst := none, op := Op.store 23 (Operand.tmp 7) (Operand.tmp 44), type := 0, pos := "loss.go:155", after := #[{ on := 3, ground := Ground.data }, { on := 4, ground := Ground.chain }, { on := 0, ground := Ground.phase }, { on := 1, ground := Ground.phase }, { on := 2, ground := Ground.phase }, { on := 3, ground := Ground.phase }, { on := 4, ground := Ground.phase }], guard := none }) (by kernel_rfl) rfl (fun K hK => ?_)
    have kq1 := hkq.1
    have kq2 := hkq.2
    go_simp
    refine hK.out _ _ ?_ (fun hHeld2 => ?_)
    · first | exact hkq | exact ⟨(World.cell?_setCell_other _ _ _ _ (by intro h; injection h with h1; omega)).trans hkq.1, World.cell?_setCell_same _ _ _ hkq.2⟩
    clear hHeld
    have hHeld := hHeld2
    clear hHeld2
    clear hK K
    (try simp only [Act.put, List.setIfInBounds_toArray, List.set_cons_zero, List.set_cons_succ])
    refine wpAnyH_take (i := 6) (oi := { dst := some 8, op := Op.assign (Operand.const (Value.int IntKind.i64 0)), type := 40, pos := "loss.go:155", after := #[{ on := 5, ground := Ground.chain }, { on := 0, ground := Ground.phase }, { on := 1, ground := Ground.phase }, { on := 2, ground := Ground.phase }, { on := 3, ground := Ground.phase }, { on := 4, ground := Ground.phase }, { on := 5, ground := Ground.phase }], guard := none }) (v := ?_) rfl (by kernel_rfl) (by kernel_rfl) (by kernel_rfl) (fun _ _ _ h => h) (Or.inl ⟨by kernel_rfl, ?_⟩) (by assumption) ?_
    rotate_left
    · intro w hSw
      (try dsimp only at hSw)
      go_simp
      all_goals (with_reducible rfl)
    (try simp only [Act.put, List.setIfInBounds_toArray, List.set_cons_zero, List.set_cons_succ])
    refine wpAnyH_done (by kernel_rfl) ?_ _
    refine NoPanic.normal ?_
    clear hHeld
    have hX1 : Turn (fun j => j = w.heap.size + 3) R.heap.size W wq := Turn.of_below ((Below.refl _ _).drew.trans hBq)
    have hX2 : Turn (fun j => j = w.heap.size + 3) R.heap.size wq (wq.setCell ⟨w.heap.size + 1 + 1 + 1, 0, none⟩ (.slice ba S.length bc)) := (Chg.setCell (zs := fun j => j = w.heap.size + 3) rfl 0 _).turn _
    have hK3 : (wq.setCell ⟨w.heap.size + 1 + 1 + 1, 0, none⟩ (.slice ba S.length bc)).heap[D]? = some (.deferred (some [])) := (Below.heap_setCell wq ⟨w.heap.size + 1 + 1 + 1, 0, none⟩ (.slice ba S.length bc) D (by simp; have := hBwR.size; omega)).trans ((hBq.block D hlD).trans hK)
    have hB3 : Blk (wq.setCell ⟨w.heap.size + 1 + 1 + 1, 0, none⟩ (.slice ba S.length bc)) (w.heap.size + 3) #[.slice ba S.length bc] 23 := (HB.out.below ((Below.refl _ _).drew.trans hBq) lb).set 0 _
    have hX3 := fun o => Turn.putObj (zs := fun j => j = w.heap.size + 3) (D := R.heap.size) o hD hK3 rfl
    have hF := fun o => (show Blk (World.putObj _ D o) (w.heap.size + 3) _ 23 from (World.putObj_heap_other (by omega)).trans hB3)
    have c0 := fun o => (hF o).cell 0
    simp only [List.getElem?_toArray, List.getElem?_cons_zero] at c0
    generalize wq.setCell ⟨w.heap.size + 1 + 1 + 1, 0, none⟩ (.slice ba S.length bc) = X at hX2 hX3 hK3 hF c0 ⊢
    go_wp2
    refine ⟨by simp, .inl ⟨_, _, rfl, run_takeDeferred hK3, ?_⟩⟩
    have c1 := fun o => (show (World.putObj X D o).cell? ⟨w.heap.size + 1 + 1 + 1, 0, none⟩ = some (.slice ba S.length bc) from c0 o)
    refine ⟨.tuple #[v1, .slice ba S.length bc, .int .i64 0], by simp [results, Try.results31, go_sem, c1], ⟨_, _, rfl, ?_, ?_⟩, ?_⟩
    · rw [HS.out]
      exact OwnI.ints ((hX3 _).ownsRow (hX2.ownsRow HI.out (fun k hk he => by subst he; have : W.drew.heap.size = W.heap.size := rfl; omega)) (fun k hk he => by subst he; have : W.drew.heap.size = W.heap.size := rfl; omega))
    · rw [HS.out]
      exact IntsG.ints (((HG.out.turn hX1 (fun k hk => by cases hk; exact Nat.lt_succ_self _)).turn hX2 (fun k hk => by cases hk; exact Nat.lt_succ_self _)).turn (hX3 _) (fun k hk => by cases hk; exact Nat.lt_succ_self _))
    · exact (hX3 _).below (hX2.below (hX1.below HE.out.below (Nat.le_refl _) hBwR.size (fun k hk he => by subst he; omega)) (Nat.le_refl _) hBwR.size (fun k hk he => by subst he; omega)) (Nat.le_refl _) hBwR.size (fun k hk he => by subst he; omega)
end Go.Proofs.Ytmajkagmcdlncaa

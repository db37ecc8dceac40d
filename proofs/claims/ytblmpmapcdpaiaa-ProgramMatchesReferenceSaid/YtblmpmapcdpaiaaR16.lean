/- nadirref23.Without: the loop, and the whole. -/
import Derived.Test.YtblmpmapcdpaiaaR15
import Derived.StillTailTactics
namespace Go.Proofs.Ytblmpmapcdpaiaa
open Go.RowKit Go.Shelf Lib Go.Joins

/-- The rows among the first k that the reference keeps. -/
def rK (rows : List RowD) (l : List Int) : Nat → List RowD
  | 0 => []
  | k + 1 => rK rows l k ++ if l[atK l k]? = some (k : Int) then [] else [rows.getD k dR]
theorem rK_len (rows : List RowD) (l : List Int) : ∀ k, (rK rows l k).length ≤ k := by
  intro k
  induction k with
  | zero => exact Nat.le_refl _
  | succ k ih =>
    simp only [rK, List.length_append]
    split <;> simp <;> omega
theorem rK_wK {rows : List RowD} {l : List Int} {n : Nat} (h : idxK l n l.length = true) : ∀ k, k ≤ n → rK rows l k = wK rows l k := by
  intro k
  induction k with
  | zero => intro _; rfl
  | succ k ih =>
    intro hk
    simp only [rK, wK]
    rw [ih (by omega)]
    by_cases hm : (k : Int) ∈ l
    · rw [if_pos ((at_mem h (by omega)).1 hm), if_pos (decide_eq_true hm)]
    · rw [if_neg (fun hc => hm ((at_mem h (by omega)).2 hc)), if_neg (by simp [hm])]
theorem without_at {p : ProgD} {l : List Int} (hv : validB p = true) (h : atK l p.rows.length = l.length) : withoutE p l = 0 ∧ withoutV p l = ⟨p.vars, rK p.rows l p.rows.length, p.gain⟩ := by
  have hi := idxK_of_at h
  obtain ⟨h1, h2⟩ := with_good (p := p) (l := l) (by unfold withoutOK; rw [hi, hv]; rfl)
  exact ⟨h1, by rw [h2, rK_wK hi _ (Nat.le_refl _)]⟩
theorem without_nat {p : ProgD} {l : List Int} (h : atK l p.rows.length ≠ l.length) : withoutE p l = 230 ∧ withoutV p l = ⟨0, [], []⟩ := by
  refine with_bad ?_
  unfold withoutOK
  refine Bool.eq_false_iff.2 fun hc => ?_
  rw [Bool.and_eq_true] at hc
  exact h (at_full hc.1)
set_option maxRecDepth 100000 in
set_option maxHeartbeats 2000000 in
theorem without_ref_loop (v vl : Value) (p : ProgD) (l : List Int) (w : World) (hv : ProgV w v p) (hl : IntsAt w vl l) (hval : validB p = true) (hlen : ¬ p.rows.length < l.length) :
    Calls Try.prog 37 #[v, vl] w fun e w' => ∃ v', e = .returned (.tuple #[v', .int .i64 (withoutE p l)]) ∧ ProgV w' v' (withoutV p l) ∧ Below w.heap.size w w' := by
  obtain ⟨vr, vg, rfl, hvr, hvg⟩ := hv
  have hB0 : Below w.heap.size w ((w.alloc (.cells #[.int .i64 p.vars, vr, vg] 29)).alloc (.cells #[.int .i64 0, .slice none 0 0, .slice none 0 0] 29)) := ((Below.refl _ _).alloc (Nat.le_refl _) _).alloc (by simp) _
  have hx := valid_ref _ p _ ⟨vr, vg, rfl, hvr.below hB0, hvg.below hB0⟩
  rw [hval] at hx
  have HG := Lib.hid hvg
  have HR := Lib.hid hvr
  have HL := Lib.hid hl
  obtain ⟨ra, rc, rfl, hr1, hr2⟩ := (show SlicesLen vr p.rows.length from hvr.len)
  obtain ⟨ga, gc, rfl, -, -⟩ := (show SlicesLen vg p.gain.length from hvg.len)
  obtain ⟨la, lc, rfl, hl1, hl2⟩ := hl.len
  have hrn : p.rows.length ≤ 300 := by obtain ⟨v1, v2, v3, v4, v5, v6⟩ := validB_true hval; omega
  have HW1 := Lib.hid (fun h => without_at (l := l) hval h)
  have HW2 := Lib.hid (fun h => without_nat (p := p) (l := l) h)
  have hat := fun k => (atK_inv l k).1
  have HAT := Lib.hid hat
  have HZ : Hid (p.rows.length = p.rows.length) := rfl
  clear hvr hvg hl hval hat
  go_enter Try.func37, Try.ntmps37
  go_wp2_with fail
  refine hx.mono ?_
  rintro e w1 ⟨rfl, hB⟩
  have hB1 := hB0.trans (hB.mono hB0.size)
  have kb : Blk w1 (w.heap.size + 1) #[.int .i64 0, .slice none 0 0, .slice none 0 0] 29 := (Blk.newAt _ _ _ (by simp)).below hB (by simp)
  have kp : Blk w1 w.heap.size #[.int .i64 p.vars, .slice ra p.rows.length rc, .slice ga p.gain.length gc] 29 := ((Blk.new w _ 29).alloc _).below hB (by simp; omega)
  have i0 := kp.cell 0
  have i1 := kp.cell 1
  have i2 := kp.cell 2
  simp only [List.getElem?_toArray, List.getElem?_cons_succ, List.getElem?_cons_zero] at i0 i1 i2
  have lp := kp.lt
  have lb := kb.lt
  clear hx
  go_wp2
  have hB2 : Below w1.heap.size w1 (w1.alloc (.cells #[.int .i64 p.vars, .slice none 0 0, .slice ga p.gain.length gc] 29)) := (Below.refl _ _).alloc (Nat.le_refl _) _
  have ko := Blk.new w1 #[.int .i64 p.vars, .slice none 0 0, .slice ga p.gain.length gc] 29
  have hXs : (w1.alloc (.cells #[.int .i64 p.vars, .slice none 0 0, .slice ga p.gain.length gc] 29)).heap.size = w1.heap.size + 1 := by simp
  generalize w1.alloc (.cells #[.int .i64 p.vars, .slice none 0 0, .slice ga p.gain.length gc] 29) = X at hB2 ko hXs ⊢
  have HXS := Lib.hid hXs
  clear hXs i0 i1 i2
  have HL1 := Lib.hid (HL.out.below (hB1.trans (hB2.mono hB1.size)))
  go_loopw [7, 8] (fun u7 u8 wr => ∃ (k : Nat) (vk : Value) (cs : List Value), k ≤ p.rows.length ∧ u8 = .int .i64 k ∧ u7 = .int .i64 (atK l k : Nat) ∧ Blk wr w1.heap.size #[.int .i64 p.vars, vk, .slice ga p.gain.length gc] 29 ∧ wr.ownsRow (w1.heap.size + 1) 26 6 vk (rK p.rows l k).length cs ∧ FlatC 6 RowCs w cs (rK p.rows l k) ∧ Below w1.heap.size w1 wr ∧ w1.heap.size < wr.heap.size) (fun _ u8 _ => (p.rows.length - intOf u8).toNat)
  case atStart => exact ⟨0, _, [], by omega, rfl, rfl, ko, World.ownsRow_nil _ _ _ _, rfl, hB2, by have := HXS.out; omega⟩
  case round =>
    obtain ⟨k, vk, cs, hk, rfl, rfl, hob, hown, hfl, hBk, hsz⟩ := hrel
    rename World => wr
    have hBw := hB1.trans (hBk.mono hB1.size)
    have kpk := kp.below hBk lp
    have kbk := kb.below hBk lb
    obtain ⟨ka, kc, rfl, hk1, hk2⟩ := owned_len hown
    have i1 := kpk.cell 1
    simp only [List.getElem?_toArray, List.getElem?_cons_succ, List.getElem?_cons_zero] at i1
    have ha := HAT.out k
    by_cases hkl : k < p.rows.length
    · have hsome := getD_some dR hkl
      have hki : (0 : Int) ≤ (k : Int) ∧ (k : Int) < (p.rows.length : Int) := by omega
      have hrk : rK p.rows l (k + 1) = rK p.rows l k ++ if l[atK l k]? = some (k : Int) then [] else [p.rows.getD k dR] := rfl
      have hak : atK l (k + 1) = if l[atK l k]? = some (k : Int) then atK l k + 1 else atK l k := rfl
      have hrl := rK_len p.rows l k
      by_cases hx : l[atK l k]? = some (k : Int)
      · rw [if_pos hx, List.append_nil] at hrk
        rw [if_pos hx] at hak
        obtain ⟨lb, lo, rfl, hlc⟩ := (HL.out.below hBw).get hx
        have hal : atK l k < l.length := (List.getElem?_eq_some_iff.1 hx).1
        have HF := Lib.hid (And.intro hrk hak)
        have HFL := Lib.hid hfl
        have HOWN := Lib.hid hown
        have hq : decide (atK l k < l.length) = true := decide_eq_true hal
        have hqi : (0 : Int) ≤ (atK l k : Int) ∧ (atK l k : Int) < (l.length : Int) := by omega
        clear hrk hak hsome hfl hown hx
        generalize atK l k = a at *
        generalize rK p.rows l k = R at *
        go_wp2
        go_roundw
        case rel => exact ⟨k + 1, _, _, by omega, by go_num, by rw [HF.out.2]; go_num, hob, by rw [HF.out.1]; exact HOWN.out, by rw [HF.out.1]; exact HFL.out, hBk, hsz⟩
        case measure => simp [intOf]; omega
      · rw [if_neg hx] at hrk hak
        have HF := Lib.hid (And.intro hrk hak)
        obtain ⟨b, off, vc, rfl, c0, c1, c2, c3, c4, c5, hcs⟩ := (HR.out.below hBw).get hsome
        obtain ⟨b', off', vc', e, -, -, -, -, d4, -, hcs0⟩ := HR.out.get hsome
        cases e
        obtain rfl : vc' = vc := by have := (hBw.cell (World.block_lt_of_cell? _ _ d4)).trans d4; exact Option.some.inj (this.symm.trans c4)
        generalize p.rows.getD k dR = r at *
        obtain ⟨ca, cc, rfl, hc1, hc2⟩ := hcs.len
        have e1 := hob.cell 1
        simp only [List.getElem?_toArray, List.getElem?_cons_succ, List.getElem?_cons_zero] at e1
        have HFL := Lib.hid hfl
        have HOWN := Lib.hid hown
        have hbl : b < w.heap.size := World.block_lt_of_cell? _ _ d4
        clear hrk hak hsome hfl hown d4 hcs
        by_cases hal : atK l k < l.length
        · have hs2 := getD_some 0 hal
          obtain ⟨lb, lo, rfl, hlc⟩ := (HL.out.below hBw).get hs2
          have hne : l.getD (atK l k) 0 ≠ (k : Int) := fun e => hx (by rw [hs2, e])
          have hq : decide (atK l k < l.length) = true := decide_eq_true hal
          have hqi : (0 : Int) ≤ (atK l k : Int) ∧ (atK l k : Int) < (l.length : Int) := by omega
          have hq2 : (l.getD (atK l k) 0 == (k : Int)) = false := beq_eq_false_iff_ne.2 hne
          clear hs2 hne hx
          generalize l.getD (atK l k) 0 = x at *
          generalize atK l k = a at *
          generalize rK p.rows l k = R at *
          go_wp2_with fail
          have hA : Below wr.heap.size wr (wr.alloc (.cells #[.int .i64 r.kind, .int .i64 r.a, .int .i64 r.b, .int .i64 r.at_, .slice ca r.coef.length cc, .int .i64 r.most] 26)).drew := ((Below.refl _ _).alloc (Nat.le_refl _) _).drew
          have hset := owned_below HOWN.out hA
          have HNW : Hid (∀ p, some (⟨wr.heap.size, 0, none⟩ : Addr) = some p → ∀ j u, ([.int .i64 r.kind, .int .i64 r.a, .int .i64 r.b, .int .i64 r.at_, .slice ca r.coef.length cc, .int .i64 r.most] : List Value)[j]? = some u → (wr.alloc (.cells #[.int .i64 r.kind, .int .i64 r.a, .int .i64 r.b, .int .i64 r.at_, .slice ca r.coef.length cc, .int .i64 r.most] 26)).drew.cell? (p.add j) = some u) := fun p hp j u hj => by cases hp; rw [add_zero_off]; exact ((Blk.new wr _ 26).cell j).trans (by simpa using hj)
          have HO1 : Hid (∀ u ∈ ([.int .i64 r.kind, .int .i64 r.a, .int .i64 r.b, .int .i64 r.at_, .slice ca r.coef.length cc, .int .i64 r.most] : List Value), u.oneCell' = true) := fun u hu => by simp at hu; rcases hu with rfl | rfl | rfl | rfl | rfl | rfl <;> rfl
          have HSET := Lib.hid hset
          have hsz2 : w1.heap.size + 1 ≤ (wr.alloc (.cells #[.int .i64 r.kind, .int .i64 r.a, .int .i64 r.b, .int .i64 r.at_, .slice ca r.coef.length cc, .int .i64 r.most] 26)).drew.heap.size := Nat.le_trans hsz hA.size
          have HSZ2 := Lib.hid hsz2
          clear hset hsz2
          go_region_law (first | (refine step_app (w := (wr.alloc (.cells #[.int .i64 r.kind, .int .i64 r.a, .int .i64 r.b, .int .i64 r.at_, .slice ca r.coef.length cc, .int .i64 r.most] 26)).drew) (v := .slice ka R.length kc) (n := R.length) (m := 1) (c := 1) (xs := cs) (xa := some ⟨wr.heap.size, 0, none⟩) (news := [.int .i64 r.kind, .int .i64 r.a, .int .i64 r.b, .int .i64 r.at_, .slice ca r.coef.length cc, .int .i64 r.most]) rfl (.tmp 48) (.tmp 54) rfl (w1.heap.size + 1) HSET.out (by simp [Act.eval]) (by simp [Act.eval]) rfl HNW.out (fun h => by cases h) HO1.out (by omega) HSZ2.out ?_; intro v' w5 hown' hgrow; obtain ⟨na, nc, rfl, hn1, hn2⟩ := owned_len hown'; have hb5 : Below (w1.heap.size + 1) wr w5 := (hA.mono hsz).grown hgrow HSZ2.out (fun j hj => (HSET.out.lt j hj).1); have hbx : Blk w5 w1.heap.size _ _ := hob.below hb5 (Nat.lt_succ_self _); have f1 := hbx.frozen 1; have x1 := hbx.cell 1; simp only [List.getElem?_toArray, List.getElem?_cons_succ, List.getElem?_cons_zero] at x1))
          all_goals (
            go_wp2_with fail
            go_roundw
            case rel =>
              refine ⟨k + 1, _, _, by omega, by go_num, by rw [HF.out.2], hbx.set 1 _, by rw [HF.out.1, List.length_append]; exact ownsRow_setCell_below (a := ⟨w1.heap.size, 1, none⟩) hown' (by simp) _, ?_, (hBk.trans (hb5.mono (Nat.le_succ _))).setCell (p := ⟨w1.heap.size, 1, none⟩) (Nat.le_refl _) _, by have := hb5.size; simp; omega⟩
              rw [HF.out.1]
              exact FlatC.app HFL.out (FlatC.one rfl ⟨_, rfl, hcs0⟩)
            case measure => simp [intOf]; omega)
        · have hq : decide (atK l k < l.length) = false := decide_eq_false hal
          clear hx
          generalize atK l k = a at *
          generalize rK p.rows l k = R at *
          go_wp2_with fail
          have hA : Below wr.heap.size wr (wr.alloc (.cells #[.int .i64 r.kind, .int .i64 r.a, .int .i64 r.b, .int .i64 r.at_, .slice ca r.coef.length cc, .int .i64 r.most] 26)).drew := ((Below.refl _ _).alloc (Nat.le_refl _) _).drew
          have hset := owned_below HOWN.out hA
          have HNW : Hid (∀ p, some (⟨wr.heap.size, 0, none⟩ : Addr) = some p → ∀ j u, ([.int .i64 r.kind, .int .i64 r.a, .int .i64 r.b, .int .i64 r.at_, .slice ca r.coef.length cc, .int .i64 r.most] : List Value)[j]? = some u → (wr.alloc (.cells #[.int .i64 r.kind, .int .i64 r.a, .int .i64 r.b, .int .i64 r.at_, .slice ca r.coef.length cc, .int .i64 r.most] 26)).drew.cell? (p.add j) = some u) := fun p hp j u hj => by cases hp; rw [add_zero_off]; exact ((Blk.new wr _ 26).cell j).trans (by simpa using hj)
          have HO1 : Hid (∀ u ∈ ([.int .i64 r.kind, .int .i64 r.a, .int .i64 r.b, .int .i64 r.at_, .slice ca r.coef.length cc, .int .i64 r.most] : List Value), u.oneCell' = true) := fun u hu => by simp at hu; rcases hu with rfl | rfl | rfl | rfl | rfl | rfl <;> rfl
          have HSET := Lib.hid hset
          have hsz2 : w1.heap.size + 1 ≤ (wr.alloc (.cells #[.int .i64 r.kind, .int .i64 r.a, .int .i64 r.b, .int .i64 r.at_, .slice ca r.coef.length cc, .int .i64 r.most] 26)).drew.heap.size := Nat.le_trans hsz hA.size
          have HSZ2 := Lib.hid hsz2
          clear hset hsz2
          go_region_law (first | (refine step_app (w := (wr.alloc (.cells #[.int .i64 r.kind, .int .i64 r.a, .int .i64 r.b, .int .i64 r.at_, .slice ca r.coef.length cc, .int .i64 r.most] 26)).drew) (v := .slice ka R.length kc) (n := R.length) (m := 1) (c := 1) (xs := cs) (xa := some ⟨wr.heap.size, 0, none⟩) (news := [.int .i64 r.kind, .int .i64 r.a, .int .i64 r.b, .int .i64 r.at_, .slice ca r.coef.length cc, .int .i64 r.most]) rfl (.tmp 48) (.tmp 54) rfl (w1.heap.size + 1) HSET.out (by simp [Act.eval]) (by simp [Act.eval]) rfl HNW.out (fun h => by cases h) HO1.out (by omega) HSZ2.out ?_; intro v' w5 hown' hgrow; obtain ⟨na, nc, rfl, hn1, hn2⟩ := owned_len hown'; have hb5 : Below (w1.heap.size + 1) wr w5 := (hA.mono hsz).grown hgrow HSZ2.out (fun j hj => (HSET.out.lt j hj).1); have hbx : Blk w5 w1.heap.size _ _ := hob.below hb5 (Nat.lt_succ_self _); have f1 := hbx.frozen 1; have x1 := hbx.cell 1; simp only [List.getElem?_toArray, List.getElem?_cons_succ, List.getElem?_cons_zero] at x1))
          all_goals (
            go_wp2_with fail
            go_roundw
            case rel =>
              refine ⟨k + 1, _, _, by omega, by go_num, by rw [HF.out.2], hbx.set 1 _, by rw [HF.out.1, List.length_append]; exact ownsRow_setCell_below (a := ⟨w1.heap.size, 1, none⟩) hown' (by simp) _, ?_, (hBk.trans (hb5.mono (Nat.le_succ _))).setCell (p := ⟨w1.heap.size, 1, none⟩) (Nat.le_refl _) _, by have := hb5.size; simp; omega⟩
              rw [HF.out.1]
              exact FlatC.app HFL.out (FlatC.one rfl ⟨_, rfl, hcs0⟩)
            case measure => simp [intOf]; omega)
    · obtain rfl : k = p.rows.length := by omega
      have a0 := hob.cell 0
      have a1 := hob.cell 1
      have a2 := hob.cell 2
      have b0 := kbk.cell 0
      have b1 := kbk.cell 1
      have b2 := kbk.cell 2
      have g0 := kbk.frozen 0
      have g1 := kbk.frozen 1
      have g2 := kbk.frozen 2
      simp only [List.getElem?_toArray, List.getElem?_cons_succ, List.getElem?_cons_zero] at a0 a1 a2 b0 b1 b2
      have HFL := Lib.hid hfl
      have HOWN := Lib.hid hown
      have hB2 : ∀ (i : Nat) (u : Value) (W : World), Below w.heap.size w W → Below w.heap.size w (W.setCell ⟨w.heap.size + 1, i, none⟩ u) := fun i u W h => h.setCell (p := ⟨w.heap.size + 1, i, none⟩) (by simp) u
      by_cases hfull : atK l p.rows.length = l.length
      · have HE := Lib.hid (HW1.out hfull)
        have hq : ((atK l p.rows.length : Int) == (l.length : Int)) = true := by rw [hfull]; exact beq_self_eq_true _
        have hq2 : (atK l p.rows.length : Int) = (l.length : Int) := by omega
        clear hfl hown hfull
        generalize atK l p.rows.length = a at *
        go_wp2
        refine bodyPost_ret (v := .tuple #[.agg #[.int .i64 p.vars, .slice ka (rK p.rows l p.rows.length).length kc, .slice ga p.gain.length gc], .int .i64 0]) (by simp [results, Try.results37, go_sem, b0, b1, b2]) rfl ?_
        rw [HE.out.1, HE.out.2]
        have hlo : w.heap.size + 1 < w1.heap.size + 1 := by omega
        have ho := ownsRow_setCell_below (a := ⟨w.heap.size + 1, 2, none⟩) (ownsRow_setCell_below (a := ⟨w.heap.size + 1, 1, none⟩) (ownsRow_setCell_below (a := ⟨w.heap.size + 1, 0, none⟩) HOWN.out hlo (.int .i64 p.vars)) hlo (.slice ka (rK p.rows l p.rows.length).length kc)) hlo (.slice ga p.gain.length gc)
        have hBf := hB2 2 (.slice ga p.gain.length gc) _ (hB2 1 (.slice ka (rK p.rows l p.rows.length).length kc) _ (hB2 0 (.int .i64 p.vars) _ hBw))
        exact ⟨_, rfl, ⟨_, _, rfl, flat_view ho (HFL.out.to (fun _ _ h => h.below hBf)), HG.out.below hBf⟩, hBf⟩
      · have HE := Lib.hid (HW2.out hfull)
        have hq : ((atK l p.rows.length : Int) == (l.length : Int)) = false := beq_eq_false_iff_ne.2 (by omega)
        have hq2 : ¬ (atK l p.rows.length : Int) = (l.length : Int) := by omega
        clear hfl hown hfull
        generalize atK l p.rows.length = a at *
        go_wp2
        refine bodyPost_ret (v := .tuple #[.agg #[.int .i64 0, .slice none 0 0, .slice none 0 0], .int .i64 230]) (by simp [results, Try.results37, go_sem, b0, b1, b2]) rfl ?_
        rw [HE.out.1, HE.out.2]
        exact ⟨_, rfl, progV_zero _, hB2 _ _ _ (hB2 _ _ _ (hB2 _ _ _ hBw))⟩
theorem without_ref (v vl : Value) (p : ProgD) (l : List Int) (w : World) (hv : ProgV w v p) (hl : IntsAt w vl l) :
    Calls Try.prog 37 #[v, vl] w fun e w' => ∃ v', e = .returned (.tuple #[v', .int .i64 (withoutE p l)]) ∧ ProgV w' v' (withoutV p l) ∧ Below w.heap.size w w' := by
  cases hval : validB p with
  | false => exact without_ref_head v vl p l w hv hl (.inl hval)
  | true =>
    by_cases hlen : p.rows.length < l.length
    · exact without_ref_head v vl p l w hv hl (.inr ⟨hval, hlen⟩)
    · exact without_ref_loop v vl p l w hv hl hval hlen
end Go.Proofs.Ytblmpmapcdpaiaa

/- nadirlaw23.ProgramMatchesReference: the walk. -/
import Derived.Test.YtblmpmapcdpaiaaL7
import Derived.Test.YtblmpmapcdpaiaaR17
import Derived.Test.YtblmpmapcdpaiaaR16
import Derived.Test.YtblmpmapcdpaiaaM4
import Derived.Test.YtblmpmapcdpaiaaMore
import Derived.Deep.CutRange
import Derived.Deep.DeepCutAuto
namespace Go.Proofs.Ytblmpmapcdpaiaa
open Go.RowKit Go.Shelf Lib

/-- A program at three cells of a block. -/
def Prog3 (W : World) (b off : Nat) (p : ProgD) : Prop :=
  ∃ (ra : Option Addr) (rc : Nat) (ga : Option Addr) (gc : Nat), W.cell? ⟨b, off, none⟩ = some (.int .i64 p.vars) ∧ W.cell? ⟨b, off + 1, none⟩ = some (.slice ra p.rows.length rc) ∧ W.cell? ⟨b, off + 2, none⟩ = some (.slice ga p.gain.length gc) ∧
    RowsAt W (.slice ra p.rows.length rc) p.rows ∧ IntsAt W (.slice ga p.gain.length gc) p.gain ∧ (ra = none → rc = 0) ∧ p.rows.length ≤ 20
theorem Prog3.of {W : World} {B off : Nat} {cs : Array Value} {t : TypeId} (hb : Blk W B cs t) {p : ProgD} {ra : Option Addr} {rc : Nat} {ga : Option Addr} {gc : Nat} (h0 : cs[off]? = some (.int .i64 p.vars)) (h1 : cs[off + 1]? = some (.slice ra p.rows.length rc)) (h2 : cs[off + 2]? = some (.slice ga p.gain.length gc))
    (hr : RowsAt W (.slice ra p.rows.length rc) p.rows) (hg : IntsAt W (.slice ga p.gain.length gc) p.gain) (hn : ra = none → rc = 0) (hl : p.rows.length ≤ 20) : Prog3 W B off p :=
  ⟨ra, rc, ga, gc, (hb.cell _).trans h0, (hb.cell _).trans h1, (hb.cell _).trans h2, hr, hg, hn, hl⟩
/-- Two values of a drawing region are new. -/
theorem wp_below2 {P : Program} {c : Code} {Q : Exit → Act → World → Prop} {a : Act} {fr : Value → Value → Act} {w0 w : World} (h : c.wp P (fun e a' w' => e = .normal ∧ (∃ u v, a' = fr u v) ∧ Below w0.heap.size w0 w') a w) (k : ∀ u v w', Below w0.heap.size w0 w' → Q .normal (fr u v) w') : c.wp P Q a w :=
  Code.wp_mono (fun e a' w' h => by obtain ⟨rfl, ⟨u, v, rfl⟩, h⟩ := h; exact k u v w' h) h
theorem own_nil {W : World} {B e n k : Nat} {a : Option Addr} {c : Nat} {xs : List Value} (h : W.ownsRow B e n (.slice a k c) k xs) : a = none → c = 0 := fun e => by
  rcases h.2 with ⟨e2, -⟩ | ⟨g, cap, cur, e2, -⟩
  · cases e2; rfl
  · cases e2; cases e
set_option maxRecDepth 100000 in
set_option maxHeartbeats 16000000 in
theorem matches_true (vars which set bits : Int) (vx : Value) (x : List X3) (gain : List Int) (vo : Value) (odd : RowD) (vraw : Value) (raw : ProgD) (vl : Value) (rl : List Int) (w : World)
    (hv : InR vars) (hwh : InR which) (hset : InR set) (hbits : InR bits) (hx : XsAt w vx x) (hxr : ∀ y ∈ x, XR y) (hg : gain.length = 8) (hgr : ∀ y ∈ gain, InR y) (ho : RowV w vo odd) (hraw : ProgV w vraw raw) (hrl : IntsAt w vl rl) :
    Calls Try.prog 3 #[.int .i64 vars, vx, .agg (gain.map (Value.int .i64)).toArray, vo, .int .i64 which, vraw, .int .i64 set, vl, .int .i64 bits] w fun e w' => e = .returned (.bool true) ∧ Below w.heap.size w w' := by
  obtain ⟨m, hG⟩ := goodP vars x gain
  have hmade := Lib.hid (fun W (hW : Below w.heap.size w W) => made_own vars vx x gain W hv (hx.below hW) hxr hg hgr)
  generalize madeP vars x gain = p at hG hmade
  obtain ⟨pv, rows, gn⟩ := p
  obtain rfl : pv = m := hG.vm
  obtain ⟨g0, g1, g2, g3, g4, g5, g6, g7, hge⟩ := list8 hg
  have harg : (gain.map (Value.int .i64)).toArray = #[.int .i64 g0, .int .i64 g1, .int .i64 g2, .int .i64 g3, .int .i64 g4, .int .i64 g5, .int .i64 g6, .int .i64 g7] := by rw [hge]; rfl
  rw [harg] at hmade ⊢
  have hn8 := hG.n8
  simp only at hn8
  have HG := Lib.hid hG
  obtain ⟨vc, rfl, hvc⟩ := ho
  obtain ⟨oa, oc, rfl, ho1, ho2⟩ := hvc.len
  obtain ⟨vrr, vrg, rfl, hrr, hrg⟩ := hraw
  have HRAW := Lib.hid (And.intro hrr hrg)
  obtain ⟨rra, rrc, rfl, -, -⟩ := (show SlicesLen vrr raw.rows.length from hrr.len)
  obtain ⟨rga, rgc, rfl, -, -⟩ := (show SlicesLen vrg raw.gain.length from hrg.len)
  have HO := Lib.hid hvc
  have HRL := Lib.hid hrl
  unfold maxLen at ho2
  obtain ⟨n13, hn13, hng⟩ : ∃ n13 : Nat, (if (13 : Int) < (odd.coef.length : Int) then (13 : Int) else (odd.coef.length : Int)) = (n13 : Int) ∧ n13 = min 13 odd.coef.length := ⟨_, by rw [Nat.min_def]; split <;> split <;> omega, rfl⟩
  have hn1 : n13 ≤ oc := by omega
  have hn2 : (0 : Int) ≤ (n13 : Int) ∧ (n13 : Int) ≤ (oc : Int) := by omega
  have HN13 := Lib.hid hng
  clear hx hxr hg hgr hge harg hG hvc hrr hrg hrl hng
  go_enter Try.func3, Try.ntmps3
  go_wp2_with fail
  refine (sane_true _).mono ?_
  rintro e w1 ⟨rfl, hBa⟩
  have hBw1 : Below w.heap.size w w1 := ((((Below.refl _ _).alloc (Nat.le_refl _) _).alloc (by simp) _).alloc (by simp; omega) _).trans (hBa.mono (by simp; omega))
  have kg : Blk w1 w.heap.size #[.int .i64 g0, .int .i64 g1, .int .i64 g2, .int .i64 g3, .int .i64 g4, .int .i64 g5, .int .i64 g6, .int .i64 g7] 23 := (((Blk.new w _ 23).alloc _).alloc _).below hBa (by simp; omega)
  have kd : Blk w1 (w.heap.size + 1) #[.int .i64 odd.kind, .int .i64 odd.a, .int .i64 odd.b, .int .i64 odd.at_, .slice oa odd.coef.length oc, .int .i64 odd.most] 26 := ((Blk.newAt _ _ _ (by simp)).alloc _).below hBa (by simp)
  have kr : Blk w1 (w.heap.size + 2) #[.int .i64 raw.vars, .slice rra raw.rows.length rrc, .slice rga raw.gain.length rgc] 29 := (Blk.newAt _ _ _ (by simp)).below hBa (by simp)
  have d4 := kd.cell 4
  have f4 := kd.frozen 4
  simp only [List.getElem?_toArray, List.getElem?_cons_succ, List.getElem?_cons_zero] at d4
  have i0 := kg.cell 0
  have i1 := kg.cell 1
  have i2 := kg.cell 2
  have i3 := kg.cell 3
  have i4 := kg.cell 4
  have i5 := kg.cell 5
  have i6 := kg.cell 6
  have i7 := kg.cell 7
  simp only [List.getElem?_toArray, List.getElem?_cons_succ, List.getElem?_cons_zero] at i0 i1 i2 i3 i4 i5 i6 i7
  have lw1 := kr.lt
  go_wp2_with fail
  have hBw1' : Below w.heap.size w (w1.setCell ⟨w.heap.size + 1, 4, none⟩ (.slice oa n13 oc)) := hBw1.setCell (p := ⟨w.heap.size + 1, 4, none⟩) (by simp) _
  have kg' := kg.other (a := ⟨w.heap.size + 1, 4, none⟩) (.slice oa n13 oc) (by simp)
  have kr' := kr.other (a := ⟨w.heap.size + 1, 4, none⟩) (.slice oa n13 oc) (by simp)
  have kd' := kd.set 4 (.slice oa n13 oc)
  clear kg kr kd hn13 hn1 hn2 d4 f4 hBw1 hBa i0 i1 i2 i3 i4 i5 i6 i7
  generalize w1.setCell ⟨w.heap.size + 1, 4, none⟩ (.slice oa n13 oc) = Wa at *
  refine (hmade.out Wa hBw1').mono ?_
  rintro e w2 ⟨oB, vk, vg, rfl, hO, hoB, hB2⟩
  obtain ⟨cs, hown2, hfl2⟩ := hO.own
  obtain ⟨vr', vg', e, hvr, hvg⟩ := hO.prog
  cases e
  simp only at hvr hvg
  obtain ⟨ra, rc, rfl, hr1, hr2⟩ := (show SlicesLen vk rows.length from hvr.len)
  obtain ⟨ga, gc, rfl, -, -⟩ := hvg.len
  unfold maxLen at hr2
  have hBw2 := hBw1'.trans (hB2.mono hBw1'.size)
  have kg2 := kg'.below hB2 kg'.lt
  have kd2 := kd'.below hB2 kd'.lt
  have kr2 := kr'.below hB2 kr'.lt
  have HGO := Lib.hid hO.g
  have HKA := Lib.hid (And.intro kg' kr')
  clear kg' kd' kr' hO
  have kp := Blk.new w2 #[.int .i64 (m : Int), .slice ra rows.length rc, .slice ga gn.length gc] 29
  have HK := Lib.hid (And.intro kg2 (And.intro kd2 kr2))
  have lg := kg2.lt
  have ld := kd2.lt
  have lr := kr2.lt
  clear kg2 kd2 kr2
  have HOWN := Lib.hid (And.intro hown2 (And.intro hfl2 (And.intro hvr hvg)))
  clear hown2 hfl2 hvr hvg
  go_upto_if 60 with (fail)
  go_cut [] from 57 to 69 (fun wx => ∃ br : List RowD, br.length = rows.length ∧ RowsAt wx (.slice ra rows.length rc) br ∧ IntsAt wx (.slice ga gn.length gc) gn ∧ Blk wx w2.heap.size #[.int .i64 m, .slice ra rows.length rc, .slice ga gn.length gc] 29 ∧ Below Wa.heap.size Wa wx ∧ w2.heap.size < wx.heap.size)
  case first =>
    obtain ⟨hown2, hfl2, hvr, hvg⟩ := HOWN.out
    have hA2 : Below w2.heap.size w2 (w2.alloc (.cells #[.int .i64 (m : Int), .slice ra rows.length rc, .slice ga gn.length gc] 29)) := (Below.refl _ _).alloc (Nat.le_refl _) _
    have hBA := hB2.trans (hA2.mono hB2.size)
    by_cases h0 : rows.length = 0
    · obtain rfl : rows = [] := List.length_eq_zero_iff.1 h0
      clear h0
      go_wp2_with fail
      go_meet
      exact ⟨[], rfl, hvr.below hA2, hvg.below hA2, kp, hBA, by simp⟩
    · obtain ⟨g, cur, rfl, hg0, hgB⟩ : ∃ g cur, ra = some (⟨g, 0, none⟩ : Addr) ∧ oB + 1 ≤ g ∧ Blk w2 g cur 26 := by
        rcases hown2.2 with ⟨-, h2⟩ | ⟨g, cap, cur, e, h1, h2, -⟩
        · exact absurd h2 h0
        · cases e; exact ⟨g, cur, rfl, h1, h2⟩
      have q60 : decide (0 < rows.length) = true := decide_eq_true (by omega)
      have hpk := pickI_bd which (n := (rows.length : Int)) (by omega)
      obtain ⟨j, hj⟩ := Int.eq_ofNat_of_zero_le hpk.1
      have hjn : j < rows.length := by omega
      have hpick := Lib.hid (fun W => pick18 which (rows.length : Int) W hwh (by omega) (by omega))
      rw [hj] at hpick hpk
      have hpk2 : (0 : Int) ≤ (j : Int) ∧ (j : Int) < (rows.length : Int) := hpk
      have HJ := Lib.hid hjn
      have hgl := hgB.lt
      have kdA := (HK.out.2.1.alloc (.cells #[.int .i64 (m : Int), .slice (some ⟨g, 0, none⟩) rows.length rc, .slice ga gn.length gc] 29))
      have hgA := hgB.alloc (.cells #[.int .i64 (m : Int), .slice (some ⟨g, 0, none⟩) rows.length rc, .slice ga gn.length gc] 29)
      have hoA := owned_below hown2 hA2
      have HV := Lib.hid (And.intro hoA (And.intro (hvg.below hA2) (And.intro hA2 hBA)))
      have hvs : w2.heap.size < (w2.alloc (.cells #[.int .i64 (m : Int), .slice (some ⟨g, 0, none⟩) rows.length rc, .slice ga gn.length gc] 29)).heap.size := by simp
      clear hA2 hBA hoA hown2 hvr hvg
      generalize w2.alloc (.cells #[.int .i64 (m : Int), .slice (some ⟨g, 0, none⟩) rows.length rc, .slice ga gn.length gc] 29) = V at kp kdA hgA HV hvs ⊢
      have i1 := kp.cell 1
      simp only [List.getElem?_toArray, List.getElem?_cons_succ, List.getElem?_cons_zero] at i1
      have d0 := kdA.cell 0
      have d1 := kdA.cell 1
      have d2 := kdA.cell 2
      have d3 := kdA.cell 3
      have d4 := kdA.cell 4
      have d5 := kdA.cell 5
      simp at d0 d1 d2 d3 d4 d5
      clear hj hpk hjn h0
      go_wp2_with fail
      go_still_tail 9, (by kernel_rfl)
      still_call ((hpick.out _).mono fun e w' h => ⟨h.1, h.2.symm⟩)
      repeat still_step
      refine wpStill_nil ?_
      change wpList _ _ _ _ _ V.drew
      obtain ⟨hoA, hvgA, hA2, hBA⟩ := HV.out
      replace hoA : V.drew.ownsRow _ _ _ _ _ _ := hoA
      replace hgA : Blk V.drew _ _ _ := hgA
      replace kp : Blk V.drew _ _ _ := kp
      replace hvgA : IntsAt V.drew _ _ := hvgA
      have hA3 : Below w2.heap.size w2 V.drew := hA2.drew
      have hBA3 : Below Wa.heap.size Wa V.drew := hBA.drew
      replace hvs : w2.heap.size < V.drew.heap.size := hvs
      have hsp : rows = rows.take j ++ rows[j]'HJ.out :: rows.drop (j + 1) := by
        rw [← List.drop_eq_getElem_cons HJ.out, List.take_append_drop]
      have hfl3 := hfl2
      rw [hsp] at hfl3
      obtain ⟨c1, ds, c2, hcs, f1, f2, f3, f4⟩ := hfl3.split
      have hc1 : c1.length = j * 6 := by rw [f1.len, List.length_take, Nat.min_eq_left (Nat.le_of_lt HJ.out)]
      obtain ⟨vcj, rfl, hvcj⟩ := f3
      generalize rows[j]'HJ.out = y at hvcj hcs
      subst hcs
      have hcell : ∀ (i : Nat) u, (([.int .i64 y.kind, .int .i64 y.a, .int .i64 y.b, .int .i64 y.at_, vcj, .int .i64 y.most] : List Value) ++ c2)[i]? = some u → V.drew.cell? ⟨g, j * 6 + i, none⟩ = some u := fun i u hi => by
        have := hoA.cells rfl (j * 6 + i) u (by rw [List.getElem?_append_right (by omega), hc1, Nat.add_sub_cancel_left]; exact hi)
        rwa [add_zero_off] at this
      have e0 := hcell 0 _ rfl
      have e1 := hcell 1 _ rfl
      have e2 := hcell 2 _ rfl
      have e3 := hcell 3 _ rfl
      have e4 := hcell 4 _ rfl
      have e5 := hcell 5 _ rfl
      rw [Nat.add_zero] at e0
      have z0 := hgA.frozen (j * 6)
      have z1 := hgA.frozen (j * 6 + 1)
      have z2 := hgA.frozen (j * 6 + 2)
      have z3 := hgA.frozen (j * 6 + 3)
      have z4 := hgA.frozen (j * 6 + 4)
      have z5 := hgA.frozen (j * 6 + 5)
      have HOA := Lib.hid (And.intro hoA (And.intro f1 f4))
      clear hoA f1 f4 hcell hsp hfl2 hA2 hBA HV i1 d0 d1 d2 d3 d4 d5 kdA
      generalize V.drew = Vd at *
      go_wp2_with fail
      go_meet
      obtain ⟨hoA, f1, f4⟩ := HOA.out
      have s0 := (hoA.stored (j * 6) (.int .i64 odd.kind)).1
      have s1 := (s0.stored (j * 6 + 1) (.int .i64 odd.a)).1
      have s2 := (s1.stored (j * 6 + 2) (.int .i64 odd.b)).1
      have s3 := (s2.stored (j * 6 + 3) (.int .i64 odd.at_)).1
      have s4 := (s3.stored (j * 6 + 4) (.slice oa n13 oc)).1
      have s5 := (s4.stored (j * 6 + 5) (.int .i64 odd.most)).1
      have b1 := hgA.set (j * 6) (.int .i64 odd.kind)
      have b2 := b1.set (j * 6 + 1) (.int .i64 odd.a)
      have b3 := b2.set (j * 6 + 2) (.int .i64 odd.b)
      have b4 := b3.set (j * 6 + 3) (.int .i64 odd.at_)
      have b5 := b4.set (j * 6 + 4) (.slice oa n13 oc)
      have tt := (((T3.set hgA (by decide) (j * 6) (.int .i64 odd.kind)).trans (T3.set b1 (by decide) (j * 6 + 1) (.int .i64 odd.a))).trans ((T3.set b2 (by decide) (j * 6 + 2) (.int .i64 odd.b)).trans (T3.set b3 (by decide) (j * 6 + 3) (.int .i64 odd.at_)))).trans ((T3.set b4 (by decide) (j * 6 + 4) (.slice oa n13 oc)).trans (T3.set b5 (by decide) (j * 6 + 5) (.int .i64 odd.most)))
      have hset : ((((((c1 ++ ([.int .i64 y.kind, .int .i64 y.a, .int .i64 y.b, .int .i64 y.at_, vcj, .int .i64 y.most] ++ c2)).set (j * 6) (.int .i64 odd.kind)).set (j * 6 + 1) (.int .i64 odd.a)).set (j * 6 + 2) (.int .i64 odd.b)).set (j * 6 + 3) (.int .i64 odd.at_)).set (j * 6 + 4) (.slice oa n13 oc)).set (j * 6 + 5) (.int .i64 odd.most) = c1 ++ ([.int .i64 odd.kind, .int .i64 odd.a, .int .i64 odd.b, .int .i64 odd.at_, .slice oa n13 oc, .int .i64 odd.most] ++ c2) := by
        rw [← hc1, show (c1.length : Nat) = c1.length + 0 from rfl, set_mid]
        simp only [Nat.add_zero]
        rw [set_mid, set_mid, set_mid, set_mid, set_mid]
        rfl
      rw [hset] at s5
      have hl3 : (rows.take j ++ cutR odd :: rows.drop (j + 1)).length = rows.length := by simp; have := HJ.out; omega
      have hT2 : T3 w2 Vd := T3.of_below hA3
      have hg6 : ∀ (i : Nat) (u : Value) (W : World), Below Wa.heap.size Wa W → Below Wa.heap.size Wa (W.setCell ⟨g, i, none⟩ u) := fun i u W h => h.setCell (p := ⟨g, i, none⟩) (by show Wa.heap.size ≤ g; omega) u
      have hBf := hg6 (j * 6 + 5) (.int .i64 odd.most) _ (hg6 (j * 6 + 4) (.slice oa n13 oc) _ (hg6 (j * 6 + 3) (.int .i64 odd.at_) _ (hg6 (j * 6 + 2) (.int .i64 odd.b) _ (hg6 (j * 6 + 1) (.int .i64 odd.a) _ (hg6 (j * 6) (.int .i64 odd.kind) _ hBA3)))))
      have hBwf := hBw1'.trans (hBf.mono hBw1'.size)
      have ne : w2.heap.size ≠ g := by omega
      refine ⟨rows.take j ++ cutR odd :: rows.drop (j + 1), hl3, ?_, ?_, ((((((kp.other _ ne).other _ ne).other _ ne).other _ ne).other _ ne).other _ ne), hBf, by simpa using hvs⟩
      · have := flat_view (R := RowCs) (n := 6) (l := rows.take j ++ cutR odd :: rows.drop (j + 1)) (by rw [hl3]; exact s5) (FlatC.join (f1.to (fun _ _ h => ((h.t hT2).t tt).row)) rfl ⟨_, rfl, by have := SliceOf.take HO.out 13; rw [← HN13.out] at this; exact this.below hBwf⟩ (f4.to (fun _ _ h => ((h.t hT2).t tt).row)))
        exact this
      · exact ((HGO.out.t hT2).t tt).ints
  case rest =>
    rename World => wx
    obtain ⟨br, hbl, hbr, hbg, kp, hBx, hlx⟩ := hcut
    obtain ⟨hown2, hfl2, hvr, hvg⟩ := HOWN.out
    have hBwx := hBw1'.trans (hBx.mono hBw1'.size)
    obtain ⟨kg', kr'⟩ := HKA.out
    have kg := kg'.below hBx kg'.lt
    have kr := kr'.below hBx kr'.lt
    have hnil2 := own_nil hown2
    have hfew := Lib.hid (fun W (hW : Below wx.heap.size wx W) => few_any (.agg #[.int .i64 raw.vars, .slice rra raw.rows.length rrc, .slice rga raw.gain.length rgc]) raw W ⟨_, _, rfl, (HRAW.out.1.below hBwx).below hW, (HRAW.out.2.below hBwx).below hW⟩)
    have HBR := Lib.hid (And.intro (fun W (h : Below wx.heap.size wx W) => show RowsAt W (.slice ra br.length rc) br by rw [hbl]; exact hbr.below h) hbg)
    have HBL := Lib.hid hbl
    have HNIL := Lib.hid hnil2
    clear kg' kr' HKA hown2 hfl2 hvr hvg hbr hbg hbl hnil2 HOWN HK HGO lg ld lr lw1 hB2
    have i0 := kg.cell 0
    have i1 := kg.cell 1
    have i2 := kg.cell 2
    have i3 := kg.cell 3
    have i4 := kg.cell 4
    have i5 := kg.cell 5
    have i6 := kg.cell 6
    have i7 := kg.cell 7
    simp only [List.getElem?_toArray, List.getElem?_cons_succ, List.getElem?_cons_zero] at i0 i1 i2 i3 i4 i5 i6 i7
    have j0 := kp.cell 0
    have j1 := kp.cell 1
    have j2 := kp.cell 2
    simp only [List.getElem?_toArray, List.getElem?_cons_succ, List.getElem?_cons_zero] at j0 j1 j2
    have h0 := kr.cell 0
    have h1 := kr.cell 1
    have h2 := kr.cell 2
    simp only [List.getElem?_toArray, List.getElem?_cons_succ, List.getElem?_cons_zero] at h0 h1 h2
    have lg := kg.lt
    have lp := kp.lt
    have lr := kr.lt
    go_upto_region 8 with fail
    go_cut [77, 78, 79] from 70 to 79 (fun u77 u78 u79 wy => ∃ B : Nat, u77 = .slice (some ⟨B, 0, none⟩) 3 3 ∧ u78 = .int .i64 3 ∧ u79 = .int .i64 0 ∧ Prog3 wy B 0 ⟨m, rows, gn⟩ ∧ Prog3 wy B 3 ⟨m, br, gn⟩ ∧ Prog3 wy B 6 (fewP raw) ∧ Below wx.heap.size wx wy)
    case first =>
      have HC := Lib.hid (fun W (hW : Below wx.heap.size wx W) => show W.cell? ⟨w.heap.size, 0, none⟩ = some (.int .i64 g0) ∧ W.cell? ⟨w.heap.size, 1, none⟩ = some (.int .i64 g1) ∧ W.cell? ⟨w.heap.size, 2, none⟩ = some (.int .i64 g2) ∧ W.cell? ⟨w.heap.size, 3, none⟩ = some (.int .i64 g3) ∧ W.cell? ⟨w.heap.size, 4, none⟩ = some (.int .i64 g4) ∧ W.cell? ⟨w.heap.size, 5, none⟩ = some (.int .i64 g5) ∧ W.cell? ⟨w.heap.size, 6, none⟩ = some (.int .i64 g6) ∧ W.cell? ⟨w.heap.size, 7, none⟩ = some (.int .i64 g7) ∧ W.cell? ⟨w2.heap.size, 0, none⟩ = some (.int .i64 m) ∧ W.cell? ⟨w2.heap.size, 1, none⟩ = some (.slice ra rows.length rc) ∧ W.cell? ⟨w2.heap.size, 2, none⟩ = some (.slice ga gn.length gc) ∧ W.cell? ⟨w.heap.size + 2, 0, none⟩ = some (.int .i64 raw.vars) ∧ W.cell? ⟨w.heap.size + 2, 1, none⟩ = some (.slice rra raw.rows.length rrc) ∧ W.cell? ⟨w.heap.size + 2, 2, none⟩ = some (.slice rga raw.gain.length rgc) from
        ⟨(hW.cell lg).trans i0, (hW.cell lg).trans i1, (hW.cell lg).trans i2, (hW.cell lg).trans i3, (hW.cell lg).trans i4, (hW.cell lg).trans i5, (hW.cell lg).trans i6, (hW.cell lg).trans i7, (hW.cell lp).trans j0, (hW.cell lp).trans j1, (hW.cell lp).trans j2, (hW.cell lr).trans h0, (hW.cell lr).trans h1, (hW.cell lr).trans h2⟩)
      clear kg kp kr
      go_region_held3 (fun w' => Below wx.heap.size wx w' ∧ w'.cell? ⟨w.heap.size, 0, none⟩ = some (.int .i64 g0) ∧ w'.cell? ⟨w.heap.size, 1, none⟩ = some (.int .i64 g1) ∧ w'.cell? ⟨w.heap.size, 2, none⟩ = some (.int .i64 g2) ∧ w'.cell? ⟨w.heap.size, 3, none⟩ = some (.int .i64 g3) ∧ w'.cell? ⟨w.heap.size, 4, none⟩ = some (.int .i64 g4) ∧ w'.cell? ⟨w.heap.size, 5, none⟩ = some (.int .i64 g5) ∧ w'.cell? ⟨w.heap.size, 6, none⟩ = some (.int .i64 g6) ∧ w'.cell? ⟨w.heap.size, 7, none⟩ = some (.int .i64 g7) ∧ w'.cell? ⟨w2.heap.size, 0, none⟩ = some (.int .i64 m) ∧ w'.cell? ⟨w2.heap.size, 1, none⟩ = some (.slice ra rows.length rc) ∧ w'.cell? ⟨w2.heap.size, 2, none⟩ = some (.slice ga gn.length gc) ∧ w'.cell? ⟨w.heap.size + 2, 0, none⟩ = some (.int .i64 raw.vars) ∧ w'.cell? ⟨w.heap.size + 2, 1, none⟩ = some (.slice rra raw.rows.length rrc) ∧ w'.cell? ⟨w.heap.size + 2, 2, none⟩ = some (.slice rga raw.gain.length rgc))
        (first | exact ⟨(Below.refl _ _).drew, HC.out _ (Below.refl _ _).drew⟩ | (have hh := (‹Below wx.heap.size wx _ ∧ _›).1; have hb := hh.trans (hB6.mono hh.size); exact ⟨hb, HC.out _ hb⟩) | (have hh := (‹Below wx.heap.size wx _ ∧ _›).1; exact ⟨hh.alloc hh.size _, HC.out _ (hh.alloc hh.size _)⟩))
        (first | (go_at_call 17; refine (hmade.out _ (hBwx.trans ((‹Below wx.heap.size wx _ ∧ _›).1.mono hBwx.size))).mono ?_; rintro e w6 ⟨oB6, vk6, vg6, rfl, hO6, -, hB6⟩; obtain ⟨cs6, ho6, -⟩ := hO6.own; obtain ⟨vr6', vg6', e6, hvr6, hvg6⟩ := hO6.prog; cases e6; simp only at hvr6 hvg6; obtain ⟨ra6, rc6, rfl, -, -⟩ := hvr6.len; obtain ⟨ga6, gc6, rfl, -, -⟩ := hvg6.len; have hn6 := own_nil ho6; have H6 := Lib.hid (And.intro hvr6 (And.intro hvg6 hn6)); clear hO6 ho6 hvr6 hvg6 hn6) | (go_at_call 19; refine (hfew.out _ (‹Below wx.heap.size wx _ ∧ _›).1).mono ?_; rintro e w7 ⟨ra7, rc7, ga7, gc7, rfl, hp7, hn7, hB6⟩; have H7 := Lib.hid (And.intro hp7 hn7); clear hp7 hn7))
      all_goals (
        go_wp2_with fail
        go_meet
        obtain ⟨hp7, hn7⟩ := H7.out
        obtain ⟨vr7, vg7, e7, hr7, hg7⟩ := hp7
        cases e7
        obtain ⟨hr6, hg6, hn6⟩ := H6.out
        have hh := (‹Below wx.heap.size wx _ ∧ _›).1
        first
          | (have hA : Below w7.heap.size w7 (w7.alloc (.cells #[.int .i64 m, .slice ra6 rows.length rc6, .slice ga6 gn.length gc6, .int .i64 m, .slice ra rows.length rc, .slice ga gn.length gc, .int .i64 raw.vars, .slice ra7 (fewP raw).rows.length rc7, .slice ga7 (fewP raw).gain.length gc7] 29)) := (Below.refl _ _).alloc (Nat.le_refl _) _
             have k9 := Blk.new w7 #[.int .i64 m, .slice ra6 rows.length rc6, .slice ga6 gn.length gc6, .int .i64 m, .slice ra rows.length rc, .slice ga gn.length gc, .int .i64 raw.vars, .slice ra7 (fewP raw).rows.length rc7, .slice ga7 (fewP raw).gain.length gc7] 29
             exact ⟨w7.heap.size, rfl, rfl, rfl, Prog3.of k9 rfl rfl rfl ((hr6.below hB6).below hA) ((hg6.below hB6).below hA) hn6 (by simp only; omega), Prog3.of k9 rfl (by rw [HBL.out]; rfl) rfl (HBR.out.1 _ hh) (HBR.out.2.below hh) HNIL.out (by simp only; have := HBL.out; omega), Prog3.of k9 rfl rfl rfl (hr7.below hA) (hg7.below hA) hn7 (by unfold fewP fewR; simp; omega), hh⟩)
          | (have hA : Below w6.heap.size w6 (w6.alloc (.cells #[.int .i64 m, .slice ra6 rows.length rc6, .slice ga6 gn.length gc6, .int .i64 m, .slice ra rows.length rc, .slice ga gn.length gc, .int .i64 raw.vars, .slice ra7 (fewP raw).rows.length rc7, .slice ga7 (fewP raw).gain.length gc7] 29)) := (Below.refl _ _).alloc (Nat.le_refl _) _
             have k9 := Blk.new w6 #[.int .i64 m, .slice ra6 rows.length rc6, .slice ga6 gn.length gc6, .int .i64 m, .slice ra rows.length rc, .slice ga gn.length gc, .int .i64 raw.vars, .slice ra7 (fewP raw).rows.length rc7, .slice ga7 (fewP raw).gain.length gc7] 29
             exact ⟨w6.heap.size, rfl, rfl, rfl, Prog3.of k9 rfl rfl rfl (hr6.below hA) (hg6.below hA) hn6 (by simp only; omega), Prog3.of k9 rfl (by rw [HBL.out]; rfl) rfl (HBR.out.1 _ hh) (HBR.out.2.below hh) HNIL.out (by simp only; have := HBL.out; omega), Prog3.of k9 rfl rfl rfl ((hr7.below hB6).below hA) ((hg7.below hB6).below hA) hn7 (by unfold fewP fewR; simp; omega), hh⟩))
    case rest =>
      rename World => wy
      obtain ⟨B, rfl, rfl, rfl, hp0, hp1, hp2, hBy⟩ := hcut
      have HP := Lib.hid (And.intro hp0 (And.intro hp1 hp2))
      have hBwy := hBwx.trans (hBy.mono hBwx.size)
      have hrly := HRL.out.below hBwy
      obtain ⟨la, lc, rfl, hl1, hl2⟩ := hrly.len
      unfold maxLen at hl2
      have HRLY := Lib.hid hrly
      have hpz := pickI_bd set (n := 256) (by omega)
      have hkz := Lib.hid (fun W => pick18 set 256 W hset (by omega) (by omega))
      have hpb := pickI_bd bits (n := 1048576) (by omega)
      have hkb := Lib.hid (fun W => pick18 bits 1048576 W hbits (by omega) (by omega))
      obtain ⟨Bt, hBt⟩ := Int.eq_ofNat_of_zero_le hpb.1
      rw [hBt] at hkb hpb
      generalize pickI set 256 = pz at hpz hkz
      obtain ⟨n10, hn10, hn10g⟩ : ∃ n10 : Nat, (if (10 : Int) < (rl.length : Int) then (10 : Int) else (rl.length : Int)) = (n10 : Int) ∧ n10 = min 10 rl.length := ⟨_, by rw [Nat.min_def]; split <;> split <;> omega, rfl⟩
      have hn10a : n10 ≤ lc := by omega
      have hn10b : (0 : Int) ≤ (n10 : Int) ∧ (n10 : Int) ≤ (lc : Int) := by omega
      have HN10 := Lib.hid (And.intro hn10 (And.intro hn10a (And.intro hn10b hn10g)))
      clear hBt hp0 hp1 hp2 hrly i0 i1 i2 i3 i4 i5 i6 i7 j0 j1 j2 h0 h1 h2 kg kp kr lg lp lr hn10 hn10a hn10b hn10g hl1 hl2 hmade HG HO HBR HBL HNIL HRAW hfew hpz
      go_wp2
      go_loopw [79] (fun u79 wr => ∃ k : Nat, k ≤ 3 ∧ u79 = .int .i64 k ∧ Below wy.heap.size wy wr) (fun u79 _ => (3 - intOf u79).toNat)
      case atStart => exact ⟨0, by omega, rfl, Below.refl _ _⟩
      case round =>
        obtain ⟨k, hk, rfl, hBk⟩ := hrel
        rename World => wr
        by_cases hk3 : k < 3
        · have hP : ∃ p, Prog3 wy B (k * 3) p := by
            match k, hk3 with
            | 0, _ => exact ⟨_, HP.out.1⟩
            | 1, _ => exact ⟨_, HP.out.2.1⟩
            | 2, _ => exact ⟨_, HP.out.2.2⟩
          obtain ⟨p, ra, rc, ga, gc, c0, c1, c2, hr, hg, hn, hl20⟩ := hP
          have lB := World.block_lt_of_cell? _ _ c0
          simp only at lB
          replace c0 := (hBk.cell (by simpa using lB)).trans c0
          replace c1 := (hBk.cell (by simpa using lB)).trans c1
          replace c2 := (hBk.cell (by simpa using lB)).trans c2
          have HPV := Lib.hid (fun W (hW : Below wy.heap.size wy W) => show ProgV W (.agg #[.int .i64 p.vars, .slice ra p.rows.length rc, .slice ga p.gain.length gc]) p from ⟨_, _, rfl, hr.below hW, hg.below hW⟩)
          have hx20 := Lib.hid (fun W hW => solve_all _ p W (HPV.out W hW))
          have hx21 := Lib.hid (fun W hW => solve_ref _ p W (HPV.out W hW) (fun c vr vg e1 e2 => by subst e2; simp at e1; obtain ⟨⟨h1, h2, h3⟩, -⟩ := e1; rw [← h3]; exact hn h1))
          have hx22 := Lib.hid (fun W hW => all_all _ p W (HPV.out W hW))
          have hx23 := Lib.hid (fun W hW => all_ref _ p W (HPV.out W hW))
          have hx26 := Lib.hid (fun W hW => valid_all _ p W (HPV.out W hW))
          have hx27 := Lib.hid (fun W hW => valid_ref _ p W (HPV.out W hW))
          generalize solveV p = sv at hx20 hx21
          generalize errV p = er at hx20 hx21 hx22 hx23
          generalize allV p = al at hx22 hx23
          generalize validB p = vb at hx26 hx27
          obtain ⟨sf, ss, sg, sp⟩ := sv
          have HRV := Lib.hid (And.intro hr hg)
          have hki : (0 : Int) ≤ (k : Int) ∧ (k : Int) < 3 := by omega
          have hkw : IntKind.i64.wrap ((k : Int) + 1) = (k : Int) + 1 := wrapS _ (by omega) (by omega)
          clear hr hg hn
          go_wp2_with fail
          have hA0 : Below wy.heap.size wy (wr.alloc (.cells #[.int .i64 p.vars, .slice ra p.rows.length rc, .slice ga p.gain.length gc] 29)) := hBk.alloc hBk.size _
          have kp := Blk.new wr #[.int .i64 p.vars, .slice ra p.rows.length rc, .slice ga p.gain.length gc] 29
          generalize wr.alloc (.cells #[.int .i64 p.vars, .slice ra p.rows.length rc, .slice ga p.gain.length gc] 29) = W0 at hA0 kp ⊢
          clear c0 c1 c2
          refine (hx20.out _ hA0).mono ?_
          rintro e w5 ⟨v5, rfl, ⟨vp5, rfl, hst5⟩, hB5⟩
          obtain ⟨pa5, pc5, rfl, -, -⟩ := hst5.len
          simp only at hst5
          have kp5 := kp.below hB5 kp.lt
          have hA5 := hA0.trans (hB5.mono hA0.size)
          have a0 := kp5.cell 0
          have a1 := kp5.cell 1
          have a2 := kp5.cell 2
          simp only [List.getElem?_toArray, List.getElem?_cons_succ, List.getElem?_cons_zero] at a0 a1 a2
          have l5 := kp5.lt
          go_wp2_with fail
          have hst5' : StepsAt (w5.alloc (.cells #[.bool sf, .int .i64 ss, .int .i64 sg, .slice pa5 sp.length pc5] 37)) _ sp := hst5.below ((Below.refl _ _).alloc (Nat.le_refl _) _)
          have hA6 : Below wy.heap.size wy (w5.alloc (.cells #[.bool sf, .int .i64 ss, .int .i64 sg, .slice pa5 sp.length pc5] 37)) := hA5.alloc hA5.size _
          have kp6 := kp5.alloc (.cells #[.bool sf, .int .i64 ss, .int .i64 sg, .slice pa5 sp.length pc5] 37)
          have ks6 := Blk.new w5 #[.bool sf, .int .i64 ss, .int .i64 sg, .slice pa5 sp.length pc5] 37
          clear a0 a1 a2
          generalize w5.alloc (.cells #[.bool sf, .int .i64 ss, .int .i64 sg, .slice pa5 sp.length pc5] 37) = W1 at hst5' hA6 kp6 ks6 ⊢
          refine (hx21.out _ hA6).mono ?_
          rintro e w6 ⟨v6, rfl, ⟨vp6, rfl, hst6⟩, hB6⟩
          obtain ⟨pa6, pc6, rfl, -, -⟩ := hst6.len
          simp only at hst6
          have hst5'' := hst5'.below hB6
          have kp7 := kp6.below hB6 kp6.lt
          have ks7 := ks6.below hB6 ks6.lt
          have hA7 := hA6.trans (hB6.mono hA6.size)
          have a0 := kp7.cell 0
          have a1 := kp7.cell 1
          have a2 := kp7.cell 2
          simp only [List.getElem?_toArray, List.getElem?_cons_succ, List.getElem?_cons_zero] at a0 a1 a2
          have l7 := kp7.lt
          go_wp2_with fail
          have hA8' : Below w6.heap.size w6 (w6.alloc (.cells #[.bool sf, .int .i64 ss, .int .i64 sg, .slice pa6 sp.length pc6] 37)) := (Below.refl _ _).alloc (Nat.le_refl _) _
          have hst6' := hst6.below hA8'
          have hst5 := hst5''.below hA8'
          have hA8 : Below wy.heap.size wy (w6.alloc (.cells #[.bool sf, .int .i64 ss, .int .i64 sg, .slice pa6 sp.length pc6] 37)) := hA7.alloc hA7.size _
          have kp8 := kp7.alloc (.cells #[.bool sf, .int .i64 ss, .int .i64 sg, .slice pa6 sp.length pc6] 37)
          have ks8 := ks7.alloc (.cells #[.bool sf, .int .i64 ss, .int .i64 sg, .slice pa6 sp.length pc6] 37)
          have kt8 := Blk.new w6 #[.bool sf, .int .i64 ss, .int .i64 sg, .slice pa6 sp.length pc6] 37
          clear a0 a1 a2 hst6 hst5' hst5'' hA8' kp kp5 kp6 kp7 ks6 ks7 l5 l7
          generalize w6.alloc (.cells #[.bool sf, .int .i64 ss, .int .i64 sg, .slice pa6 sp.length pc6] 37) = W2 at hst5 hst6' hA8 kp8 ks8 kt8 ⊢
          refine (hx22.out _ hA8).mono ?_
          rintro e w7 ⟨v7, rfl, hi7, hB7⟩
          have hA9 := hA8.trans (hB7.mono hA8.size)
          have kp9 := kp8.below hB7 kp8.lt
          have a0 := kp9.cell 0
          have a1 := kp9.cell 1
          have a2 := kp9.cell 2
          simp only [List.getElem?_toArray, List.getElem?_cons_succ, List.getElem?_cons_zero] at a0 a1 a2
          go_wp2_with fail
          refine (hx23.out _ hA9).mono ?_
          rintro e w8 ⟨v8, rfl, hi8, hB8⟩
          have hA10 := hA9.trans (hB8.mono hA9.size)
          have kp := kp9.below hB8 kp9.lt
          have ks := (ks8.below hB7 ks8.lt).below hB8 (by have := ks8.lt; have := hB7.size; omega)
          have kt := (kt8.below hB7 kt8.lt).below hB8 (by have := kt8.lt; have := hB7.size; omega)
          have hi7' := hi7.below hB8
          have HSP := Lib.hid (fun W (hW : Below w8.heap.size w8 W) => sameproof_same _ _ sp W (((hst5.below hB7).below hB8).below hW) (((hst6'.below hB7).below hB8).below hW))
          have HIS := Lib.hid (fun W (hW : Below w8.heap.size w8 W) => ints_same v7 v8 al W (hi7'.below hW) (hi8.below hW))
          clear a0 a1 a2 hst5 hst6' hi7 hi7' hi8 kp8 kp9 ks8 kt8 hx20 hx21 hx22 hx23
          have a0 := kp.cell 0
          have a1 := kp.cell 1
          have a2 := kp.cell 2
          simp only [List.getElem?_toArray, List.getElem?_cons_succ, List.getElem?_cons_zero] at a0 a1 a2
          have b0 := ks.cell 0
          have b1 := ks.cell 1
          have b2 := ks.cell 2
          have b3 := ks.cell 3
          simp only [List.getElem?_toArray, List.getElem?_cons_succ, List.getElem?_cons_zero] at b0 b1 b2 b3
          have d0 := kt.cell 0
          have d1 := kt.cell 1
          have d2 := kt.cell 2
          have d3 := kt.cell 3
          simp only [List.getElem?_toArray, List.getElem?_cons_succ, List.getElem?_cons_zero] at d0 d1 d2 d3
          have lp := kp.lt
          have ls := ks.lt
          have lt := kt.lt
          have HC := Lib.hid (fun W (hW : Below w8.heap.size w8 W) => show W.cell? ⟨wr.heap.size, 0, none⟩ = some (.int .i64 p.vars) ∧ W.cell? ⟨wr.heap.size, 1, none⟩ = some (.slice ra p.rows.length rc) ∧ W.cell? ⟨wr.heap.size, 2, none⟩ = some (.slice ga p.gain.length gc) ∧ W.cell? ⟨w5.heap.size, 0, none⟩ = some (.bool sf) ∧ W.cell? ⟨w5.heap.size, 1, none⟩ = some (.int .i64 ss) ∧ W.cell? ⟨w5.heap.size, 2, none⟩ = some (.int .i64 sg) ∧ W.cell? ⟨w5.heap.size, 3, none⟩ = some (.slice pa5 sp.length pc5) ∧ W.cell? ⟨w6.heap.size, 0, none⟩ = some (.bool sf) ∧ W.cell? ⟨w6.heap.size, 1, none⟩ = some (.int .i64 ss) ∧ W.cell? ⟨w6.heap.size, 2, none⟩ = some (.int .i64 sg) ∧ W.cell? ⟨w6.heap.size, 3, none⟩ = some (.slice pa6 sp.length pc6) from
            ⟨(hW.cell lp).trans a0, (hW.cell lp).trans a1, (hW.cell lp).trans a2, (hW.cell ls).trans b0, (hW.cell ls).trans b1, (hW.cell ls).trans b2, (hW.cell ls).trans b3, (hW.cell lt).trans d0, (hW.cell lt).trans d1, (hW.cell lt).trans d2, (hW.cell lt).trans d3⟩)
          go_wp2_with fail
          apply wp_below (w0 := w8)
          · go_region_held3 (fun w' => Below w8.heap.size w8 w' ∧ w'.cell? ⟨wr.heap.size, 0, none⟩ = some (.int .i64 p.vars) ∧ w'.cell? ⟨wr.heap.size, 1, none⟩ = some (.slice ra p.rows.length rc) ∧ w'.cell? ⟨wr.heap.size, 2, none⟩ = some (.slice ga p.gain.length gc) ∧ w'.cell? ⟨w5.heap.size, 0, none⟩ = some (.bool sf) ∧ w'.cell? ⟨w5.heap.size, 1, none⟩ = some (.int .i64 ss) ∧ w'.cell? ⟨w5.heap.size, 2, none⟩ = some (.int .i64 sg) ∧ w'.cell? ⟨w5.heap.size, 3, none⟩ = some (.slice pa5 sp.length pc5) ∧ w'.cell? ⟨w6.heap.size, 0, none⟩ = some (.bool sf) ∧ w'.cell? ⟨w6.heap.size, 1, none⟩ = some (.int .i64 ss) ∧ w'.cell? ⟨w6.heap.size, 2, none⟩ = some (.int .i64 sg) ∧ w'.cell? ⟨w6.heap.size, 3, none⟩ = some (.slice pa6 sp.length pc6))
              (first | exact ⟨(Below.refl _ _).drew, HC.out _ (Below.refl _ _).drew⟩ | (have hh := (‹Below w8.heap.size w8 _ ∧ _›).1; have hb := hh.trans (hB6.mono hh.size); exact ⟨hb, HC.out _ hb⟩) | (have hh := (‹Below w8.heap.size w8 _ ∧ _›).1; exact ⟨hh.alloc hh.size _, HC.out _ (hh.alloc hh.size _)⟩))
              (first | (go_at_call 24; refine (HSP.out _ (‹Below w8.heap.size w8 _ ∧ _›).1).mono ?_; rintro e wq ⟨rfl, hB6⟩) | (go_at_call 25; refine (HIS.out _ (‹Below w8.heap.size w8 _ ∧ _›).1).mono ?_; rintro e wq ⟨rfl, hB6⟩) | (go_at_call 26; refine (hx26.out _ (hA10.trans ((‹Below w8.heap.size w8 _ ∧ _›).1.mono hA10.size))).mono ?_; rintro e wq ⟨rfl, hB6⟩) | (go_at_call 27; refine (hx27.out _ (hA10.trans ((‹Below w8.heap.size w8 _ ∧ _›).1.mono hA10.size))).mono ?_; rintro e wq ⟨rfl, hB6⟩))
            all_goals exact ⟨rfl, rfl, (‹Below w8.heap.size w8 _ ∧ _›).1⟩
          intro w9 hB9
          have hA11 := hA10.trans (hB9.mono hA10.size)
          replace kp := kp.below hB9 lp
          clear HC a0 a1 a2 b0 b1 b2 b3 d0 d1 d2 d3 ks kt lp ls lt HSP HIS hx26 hx27
          have a0 := kp.cell 0
          have a1 := kp.cell 1
          have a2 := kp.cell 2
          simp only [List.getElem?_toArray, List.getElem?_cons_succ, List.getElem?_cons_zero] at a0 a1 a2
          have lp := kp.lt
          go_wp2_with fail
          refine (hkz.out _).mono ?_
          rintro e wq ⟨rfl, rfl⟩
          have hA12 : Below wy.heap.size wy (w9.alloc (.cells #[.int .i64 set, .int .i64 pz] 3)) := hA11.alloc hA11.size _
          have kz := Blk.new w9 #[.int .i64 set, .int .i64 pz] 3
          have kp3 := kp.alloc (.cells #[.int .i64 set, .int .i64 pz] 3)
          have lp3 := kp3.lt
          have lz := kz.lt
          clear a0 a1 a2 lp
          go_wp2
          generalize w9.alloc (.cells #[.int .i64 set, .int .i64 pz] 3) = W3 at hA12 kz kp3 lp3 lz ⊢
          go_loopw [158] (fun u158 wz => ∃ i : Nat, i ≤ 2 ∧ u158 = .int .i64 i ∧ Below W3.heap.size W3 wz) (fun u158 _ => (2 - intOf u158).toNat)
          case atStart => exact ⟨0, by omega, rfl, Below.refl _ _⟩
          case round =>
            obtain ⟨i, hi, rfl, hBz⟩ := hrel
            rename World => wz
            have hAz := hA12.trans (hBz.mono hA12.size)
            have kpz := kp3.below hBz lp3
            by_cases hi2 : i < 2
            · obtain ⟨z, hz⟩ : ∃ z : Int, wz.cell? ⟨w9.heap.size, i, none⟩ = some (.int .i64 z) := by
                match i, hi2 with
                | 0, _ => exact ⟨set, ((kz.below hBz lz).cell 0).trans rfl⟩
                | 1, _ => exact ⟨pz, ((kz.below hBz lz).cell 1).trans rfl⟩
              have hii : (0 : Int) ≤ (i : Int) ∧ (i : Int) < 2 := by omega
              have hiw : IntKind.i64.wrap ((i : Int) + 1) = (i : Int) + 1 := wrapS _ (by omega) (by omega)
              have a0 := kpz.cell 0
              have a1 := kpz.cell 1
              have a2 := kpz.cell 2
              simp only [List.getElem?_toArray, List.getElem?_cons_succ, List.getElem?_cons_zero] at a0 a1 a2
              have lpz := kpz.lt
              have H28 := Lib.hid (fun W (hW : Below wz.heap.size wz W) => keeps_all _ p z W (HPV.out W (hAz.trans (hW.mono hAz.size))))
              have H29 := Lib.hid (fun W (hW : Below wz.heap.size wz W) => keepsx_ref _ p z W (HPV.out W (hAz.trans (hW.mono hAz.size))))
              have H30 := Lib.hid (fun W (hW : Below wz.heap.size wz W) => gain_all _ p z W (HPV.out W (hAz.trans (hW.mono hAz.size))))
              have H31 := Lib.hid (fun W (hW : Below wz.heap.size wz W) => gain_ref _ p z W (HPV.out W (hAz.trans (hW.mono hAz.size))))
              have H32 := Lib.hid (fun W (hW : Below wz.heap.size wz W) => broken_all _ p z W (HPV.out W (hAz.trans (hW.mono hAz.size))))
              have H33 := Lib.hid (fun W (hW : Below wz.heap.size wz W) => broken_ref _ p z W (HPV.out W (hAz.trans (hW.mono hAz.size))))
              generalize (choiceB p z && keepsB p.rows z.toNat) = kb at H28 H29
              generalize gainV p z = gv at H30 H31
              generalize brokenV p z = bl at H32 H33
              have HC := Lib.hid (fun W (hW : Below wz.heap.size wz W) => show W.cell? ⟨wr.heap.size, 0, none⟩ = some (.int .i64 p.vars) ∧ W.cell? ⟨wr.heap.size, 1, none⟩ = some (.slice ra p.rows.length rc) ∧ W.cell? ⟨wr.heap.size, 2, none⟩ = some (.slice ga p.gain.length gc) from
                ⟨(hW.cell lpz).trans a0, (hW.cell lpz).trans a1, (hW.cell lpz).trans a2⟩)
              go_wp2_with fail
              apply wp_below2 (w0 := wz)
              · go_region_held3 (fun w' => Below wz.heap.size wz w' ∧ w'.cell? ⟨wr.heap.size, 0, none⟩ = some (.int .i64 p.vars) ∧ w'.cell? ⟨wr.heap.size, 1, none⟩ = some (.slice ra p.rows.length rc) ∧ w'.cell? ⟨wr.heap.size, 2, none⟩ = some (.slice ga p.gain.length gc))
                  (first | exact ⟨(Below.refl _ _).drew, HC.out _ (Below.refl _ _).drew⟩ | (have hh := (‹Below wz.heap.size wz _ ∧ _›).1; have hb := hh.trans (hB6.mono hh.size); exact ⟨hb, HC.out _ hb⟩) | (have hh := (‹Below wz.heap.size wz _ ∧ _›).1; exact ⟨hh.alloc hh.size _, HC.out _ (hh.alloc hh.size _)⟩))
                  (first | (go_at_call 28; refine (H28.out _ (‹Below wz.heap.size wz _ ∧ _›).1).mono ?_; rintro e wq ⟨rfl, hB6⟩) | (go_at_call 29; refine (H29.out _ (‹Below wz.heap.size wz _ ∧ _›).1).mono ?_; rintro e wq ⟨rfl, hB6⟩) | (go_at_call 30; refine (H30.out _ (‹Below wz.heap.size wz _ ∧ _›).1).mono ?_; rintro e wq ⟨rfl, hB6⟩) | (go_at_call 31; refine (H31.out _ (‹Below wz.heap.size wz _ ∧ _›).1).mono ?_; rintro e wq ⟨rfl, hB6⟩) | (go_at_call 32; refine (H32.out _ (‹Below wz.heap.size wz _ ∧ _›).1).mono ?_; rintro e wq ⟨v32, rfl, hv32, hB6⟩) | (go_at_call 33; refine (H33.out _ (‹Below wz.heap.size wz _ ∧ _›).1).mono ?_; rintro e wq ⟨v33, rfl, hv33, hB6⟩; replace hv32 := hv32.below hB6) | (go_at_call 25; refine (ints_same v32 v33 _ _ hv32 hv33).mono ?_; rintro e wq ⟨rfl, hB6⟩))
                all_goals exact ⟨rfl, ⟨v32, v33, rfl⟩, (‹Below wz.heap.size wz _ ∧ _›).1⟩
              intro v32 v33 wa hBa6
              have hAa := hAz.trans (hBa6.mono hAz.size)
              have kpa := kpz.below hBa6 lpz
              clear HC H28 H29 H30 H31 H32 H33 a0 a1 a2 hz kpz lpz
              have a0 := kpa.cell 0
              have a1 := kpa.cell 1
              have a2 := kpa.cell 2
              simp only [List.getElem?_toArray, List.getElem?_cons_succ, List.getElem?_cons_zero] at a0 a1 a2
              have lpa := kpa.lt
              go_wp2
              go_loopw [33] (fun u33 wb => ∃ j : Nat, j ≤ p.rows.length ∧ u33 = .int .i64 j ∧ Below wa.heap.size wa wb) (fun u33 _ => (p.rows.length - intOf u33).toNat)
              case atStart => exact ⟨0, by omega, rfl, Below.refl _ _⟩
              case round =>
                obtain ⟨j, hj, rfl, hBb⟩ := hrel
                rename World => wb
                have hAb := hAa.trans (hBb.mono hAa.size)
                have kpb := kpa.below hBb lpa
                clear a0 a1 a2
                by_cases hj2 : j < p.rows.length
                · have hsome := getD_some dR hj2
                  obtain ⟨b, off, vc, rfl, c0, c1, c2, c3, c4, c5, hcs⟩ := (HRV.out.1.below hAb).get hsome
                  generalize p.rows.getD j dR = r at hsome c0 c1 c2 c3 c4 c5 hcs
                  obtain ⟨ca, cc, rfl, -, -⟩ := hcs.len
                  have H34 := Lib.hid (fun W (hW : Below wb.heap.size wb W) => sum_all _ r z W (show RowV W (.agg #[.int .i64 r.kind, .int .i64 r.a, .int .i64 r.b, .int .i64 r.at_, .slice ca r.coef.length cc, .int .i64 r.most]) r from ⟨_, rfl, hcs.below hW⟩))
                  have H35 := Lib.hid (fun W (hW : Below wb.heap.size wb W) => sum_ref _ r z W (show RowV W (.agg #[.int .i64 r.kind, .int .i64 r.a, .int .i64 r.b, .int .i64 r.at_, .slice ca r.coef.length cc, .int .i64 r.most]) r from ⟨_, rfl, hcs.below hW⟩))
                  generalize sumV r z = sv at H34 H35
                  have hji : (0 : Int) ≤ (j : Int) ∧ (j : Int) < (p.rows.length : Int) := by omega
                  have lb := World.block_lt_of_cell? _ _ c0
                  simp only at lb
                  have lpb := kpb.lt
                  have a1 := kpb.cell 1
                  simp only [List.getElem?_toArray, List.getElem?_cons_succ, List.getElem?_cons_zero] at a1
                  clear hcs hsome
                  have HC := Lib.hid (fun W (hW : Below wb.heap.size wb W) => show W.cell? ⟨wr.heap.size, 1, none⟩ = some (.slice (some ⟨b, off, none⟩) p.rows.length rc) ∧ W.cell? ⟨b, off + j * 6, none⟩ = some (.int .i64 r.kind) ∧ W.cell? ⟨b, off + j * 6 + 1, none⟩ = some (.int .i64 r.a) ∧ W.cell? ⟨b, off + j * 6 + 2, none⟩ = some (.int .i64 r.b) ∧ W.cell? ⟨b, off + j * 6 + 3, none⟩ = some (.int .i64 r.at_) ∧ W.cell? ⟨b, off + j * 6 + 4, none⟩ = some (.slice ca r.coef.length cc) ∧ W.cell? ⟨b, off + j * 6 + 5, none⟩ = some (.int .i64 r.most) from
                    ⟨(hW.cell lpb).trans a1, (hW.cell lb).trans c0, (hW.cell lb).trans c1, (hW.cell lb).trans c2, (hW.cell lb).trans c3, (hW.cell lb).trans c4, (hW.cell lb).trans c5⟩)
                  go_wp2_with fail
                  apply wp_below (w0 := wb)
                  · go_region_held3 (fun w' => Below wb.heap.size wb w' ∧ w'.cell? ⟨wr.heap.size, 1, none⟩ = some (.slice (some ⟨b, off, none⟩) p.rows.length rc) ∧ w'.cell? ⟨b, off + j * 6, none⟩ = some (.int .i64 r.kind) ∧ w'.cell? ⟨b, off + j * 6 + 1, none⟩ = some (.int .i64 r.a) ∧ w'.cell? ⟨b, off + j * 6 + 2, none⟩ = some (.int .i64 r.b) ∧ w'.cell? ⟨b, off + j * 6 + 3, none⟩ = some (.int .i64 r.at_) ∧ w'.cell? ⟨b, off + j * 6 + 4, none⟩ = some (.slice ca r.coef.length cc) ∧ w'.cell? ⟨b, off + j * 6 + 5, none⟩ = some (.int .i64 r.most))
                      (first | exact ⟨(Below.refl _ _).drew, HC.out _ (Below.refl _ _).drew⟩ | (have hh := (‹Below wb.heap.size wb _ ∧ _›).1; have hb := hh.trans (hB6.mono hh.size); exact ⟨hb, HC.out _ hb⟩) | (have hh := (‹Below wb.heap.size wb _ ∧ _›).1; exact ⟨hh.alloc hh.size _, HC.out _ (hh.alloc hh.size _)⟩))
                      (first | (go_at_call 34; refine (H34.out _ (‹Below wb.heap.size wb _ ∧ _›).1).mono ?_; rintro e wq ⟨rfl, hB6⟩) | (go_at_call 35; refine (H35.out _ (‹Below wb.heap.size wb _ ∧ _›).1).mono ?_; rintro e wq ⟨rfl, hB6⟩))
                    all_goals exact ⟨rfl, rfl, (‹Below wb.heap.size wb _ ∧ _›).1⟩
                  intro wc hBc
                  clear HC H34 H35 c0 c1 c2 c3 c4 c5 a1
                  go_wp2
                  go_roundw
                  case rel => exact ⟨j + 1, by omega, by go_num, hBb.trans (hBc.mono hBb.size)⟩
                  case measure => simp [intOf]; omega
                · obtain rfl : j = p.rows.length := by omega
                  have a1 := kpb.cell 1
                  simp only [List.getElem?_toArray, List.getElem?_cons_succ, List.getElem?_cons_zero] at a1
                  go_wp2
                  go_roundw
                  case rel => exact ⟨i + 1, by omega, by go_num, hBz.trans ((hBa6.trans (hBb.mono hBa6.size)).mono hBz.size)⟩
                  case measure => simp [intOf]; omega
            · obtain rfl : i = 2 := by omega
              clear hi2 hi
              have a0 := kpz.cell 0
              have a1 := kpz.cell 1
              have a2 := kpz.cell 2
              simp only [List.getElem?_toArray, List.getElem?_cons_succ, List.getElem?_cons_zero] at a0 a1 a2
              have lpz := kpz.lt
              go_wp2
              go_loopw [34, 35] (fun u34 u35 wb => ∃ j : Nat, j ≤ p.rows.length ∧ u35 = .int .i64 j ∧ wb.ownsRow wz.heap.size 3 1 u34 (outK Bt j).length ((outK Bt j).map (Value.int .i64)) ∧ Below wz.heap.size wz wb) (fun _ u35 _ => (p.rows.length - intOf u35).toNat)
              case atStart => exact ⟨0, by omega, rfl, World.ownsRow_nil _ _ _ _, Below.refl _ _⟩
              case round =>
                obtain ⟨j, hj, rfl, hown, hBb⟩ := hrel
                rename World => wb
                have kpb := kpz.below hBb lpz
                clear a0 a1 a2
                have a1 := kpb.cell 1
                simp only [List.getElem?_toArray, List.getElem?_cons_succ, List.getElem?_cons_zero] at a1
                by_cases hjl : j < p.rows.length
                · have hji : (j : Int) < (p.rows.length : Int) := by omega
                  have hj64 : (j : Int) < 64 := by omega
                  have hol := outK_len Bt j
                  have HS : outK Bt (j + 1) = outK Bt j ++ if bitOn Bt j then [(j : Int)] else [] := rfl
                  have hz := shr_bit Bt j
                  go_wp2_with fail
                  refine (hkb.out _).mono ?_
                  rintro e wq ⟨rfl, rfl⟩
                  cases hq : bitOn Bt j with
                  | true =>
                    rw [hq] at hz
                    have HE : Hid (outK Bt (j + 1) = outK Bt j ++ [(j : Int)]) := by rw [HS, hq]; rfl
                    obtain ⟨z1, z2, z3⟩ := hz
                    clear HS hq
                    go_wp2_with (at_builtin; refine wpList_push E24 rfl _ _ rfl wz.heap.size hown rfl rfl rfl (by unfold maxLen; omega) (by omega) hBb.size ?_; intro v' w3 hown' hgrow hb1)
                    go_roundw
                    case rel => ((repeat apply Exists.intro); exact ⟨⟨j + 1, by omega, by go_num, by rw [HE.out]; simpa using hown', hBb.trans hb1⟩, rfl⟩)
                    case measure => simp [intOf]; omega
                  | false =>
                    rw [hq] at hz
                    have HE : Hid (outK Bt (j + 1) = outK Bt j) := by rw [HS, hq]; exact List.append_nil _
                    obtain ⟨z1, z2, z3⟩ := hz
                    clear HS hq
                    go_wp2
                    go_roundw
                    case rel => ((repeat apply Exists.intro); exact ⟨⟨j + 1, by omega, by go_num, by rw [HE.out]; exact hown, hBb⟩, rfl⟩)
                    case measure => simp [intOf]; omega
                · obtain rfl : j = p.rows.length := by omega
                  have hAb := hAz.trans (hBb.mono hAz.size)
                  have hout : IntsAt wb _ (outK Bt p.rows.length) := owned_slice hown
                  obtain ⟨oa2, oc2, rfl, ho1', ho2'⟩ := hout.len
                  have hol := outK_len Bt p.rows.length
                  obtain ⟨hn10, hn10a, hn10b, hn10g⟩ := HN10.out
                  have HN := Lib.hid hn10g
                  generalize outK Bt p.rows.length = ou at hout hol hown ho1' ⊢
                  have HOU := Lib.hid hout
                  have hAw : Below wb.heap.size wb (wb.alloc (.cells #[.slice la n10 lc, .slice oa2 ou.length oc2] 24)) := (Below.refl _ _).alloc (Nat.le_refl _) _
                  have kl := Blk.new wb #[.slice la n10 lc, .slice oa2 ou.length oc2] 24
                  have hAw2 := hAb.trans (hAw.mono hAb.size)
                  have kp4 := kpb.below hAw kpb.lt
                  have HOU4 := Lib.hid (hout.below hAw)
                  have HRL4 := Lib.hid (HRLY.out.below hAw2)
                  clear hn10g hown hout a1
                  have lpb := kpb.lt
                  have a1 := kpb.cell 1
                  simp only [List.getElem?_toArray, List.getElem?_cons_succ, List.getElem?_cons_zero] at a1
                  go_wp2
                  generalize wb.alloc (.cells #[.slice la n10 lc, .slice oa2 ou.length oc2] 24) = W4 at hAw kl hAw2 kp4 HOU4 HRL4 ⊢
                  clear a1 hn10 hn10a hn10b
                  have lp4 := kp4.lt
                  have ll := kl.lt
                  go_loopw [236] (fun u236 wc => ∃ q : Nat, q ≤ 2 ∧ u236 = .int .i64 q ∧ Below W4.heap.size W4 wc) (fun u236 _ => (2 - intOf u236).toNat)
                  case atStart => exact ⟨0, by omega, rfl, Below.refl _ _⟩
                  case round =>
                    obtain ⟨q, hq, rfl, hBc⟩ := hrel
                    rename World => wc
                    have hAc := hAw2.trans (hBc.mono hAw2.size)
                    have kpc := kp4.below hBc lp4
                    by_cases hq2 : q < 2
                    · obtain ⟨a5, c5, l, hcl, hints, hll⟩ : ∃ (a5 : Option Addr) (c5 : Nat) (l : List Int), wc.cell? ⟨wb.heap.size, q, none⟩ = some (.slice a5 l.length c5) ∧ IntsAt wc (.slice a5 l.length c5) l ∧ l.length ≤ 20 := by
                        match q, hq2 with
                        | 0, _ =>
                          refine ⟨la, lc, rl.take 10, ((kl.below hBc ll).cell 0).trans ?_, ?_, ?_⟩
                          · show some (Value.slice la n10 lc) = _; rw [HN.out, List.length_take]
                          · have := SliceOf.take (HRL4.out.below hBc) 10; rw [List.length_take]; exact this
                          · rw [List.length_take]; omega
                        | 1, _ => exact ⟨oa2, oc2, ou, ((kl.below hBc ll).cell 1).trans rfl, HOU4.out.below hBc, by omega⟩
                      have hqi : (0 : Int) ≤ (q : Int) ∧ (q : Int) < 2 := by omega
                      have hqw : IntKind.i64.wrap ((q : Int) + 1) = (q : Int) + 1 := wrapS _ (by omega) (by omega)
                      have H36 := Lib.hid (fun W (hW : Below wc.heap.size wc W) => without_all _ _ p l W (HPV.out W (hAc.trans (hW.mono hAc.size))) (hints.below hW) (by omega) (by omega))
                      have H37 := Lib.hid (fun W (hW : Below wc.heap.size wc W) => without_ref _ _ p l W (HPV.out W (hAc.trans (hW.mono hAc.size))) (hints.below hW))
                      generalize withoutE p l = we at H36 H37
                      generalize withoutV p l = wv at H36 H37
                      obtain ⟨wn, wrs, wgs⟩ := wv
                      clear hints
                      have a0 := kpc.cell 0
                      have a1 := kpc.cell 1
                      have a2 := kpc.cell 2
                      simp only [List.getElem?_toArray, List.getElem?_cons_succ, List.getElem?_cons_zero] at a0 a1 a2
                      have lpc := kpc.lt
                      go_wp2_with fail
                      refine (H36.out _ (Below.refl _ _)).mono ?_
                      rintro e x5 ⟨v5, rfl, ⟨vr5, vg5, rfl, hr5, hg5⟩, hB5⟩
                      simp only at hr5 hg5
                      obtain ⟨ra5, rc5, rfl, -, -⟩ := hr5.len
                      obtain ⟨ga5, gc5, rfl, -, -⟩ := hg5.len
                      have kp5 := kpc.below hB5 lpc
                      clear a0 a1 a2 hcl
                      have a0 := kp5.cell 0
                      have a1 := kp5.cell 1
                      have a2 := kp5.cell 2
                      simp only [List.getElem?_toArray, List.getElem?_cons_succ, List.getElem?_cons_zero] at a0 a1 a2
                      have lp5 := kp5.lt
                      have hA5 : Below wc.heap.size wc (x5.alloc (.cells #[.int .i64 wn, .slice ra5 wrs.length rc5, .slice ga5 wgs.length gc5] 29)) := hB5.alloc hB5.size _
                      have hA5' : Below x5.heap.size x5 (x5.alloc (.cells #[.int .i64 wn, .slice ra5 wrs.length rc5, .slice ga5 wgs.length gc5] 29)) := (Below.refl _ _).alloc (Nat.le_refl _) _
                      have k5 := Blk.new x5 #[.int .i64 wn, .slice ra5 wrs.length rc5, .slice ga5 wgs.length gc5] 29
                      have hr5' := hr5.below hA5'
                      have hg5' := hg5.below hA5'
                      go_wp2_with fail
                      generalize x5.alloc (.cells #[.int .i64 wn, .slice ra5 wrs.length rc5, .slice ga5 wgs.length gc5] 29) = X5 at hA5 k5 hr5' hg5' ⊢
                      clear a0 a1 a2 hr5 hg5 hA5'
                      refine (H37.out _ hA5).mono ?_
                      rintro e x6 ⟨v6, rfl, ⟨vr6, vg6, rfl, hr6, hg6⟩, hB6⟩
                      simp only at hr6 hg6
                      obtain ⟨ra6, rc6, rfl, -, -⟩ := hr6.len
                      obtain ⟨ga6, gc6, rfl, -, -⟩ := hg6.len
                      have k6 := k5.below hB6 k5.lt
                      have hr56 := hr5'.below hB6
                      have hg56 := hg5'.below hB6
                      have hA6' : Below x6.heap.size x6 (x6.alloc (.cells #[.int .i64 wn, .slice ra6 wrs.length rc6, .slice ga6 wgs.length gc6] 29)) := (Below.refl _ _).alloc (Nat.le_refl _) _
                      have hA6 := (hA5.trans (hB6.mono hA5.size)).trans (hA6'.mono (Nat.le_trans hA5.size hB6.size))
                      have hs := same_same _ _ ⟨wn, wrs, wgs⟩ (x6.alloc (.cells #[.int .i64 wn, .slice ra6 wrs.length rc6, .slice ga6 wgs.length gc6] 29)) ⟨_, _, rfl, hr56.below hA6', hg56.below hA6'⟩ ⟨_, _, rfl, hr6.below hA6', hg6.below hA6'⟩
                      have a0 := k6.cell 0
                      have a1 := k6.cell 1
                      have a2 := k6.cell 2
                      simp only [List.getElem?_toArray, List.getElem?_cons_succ, List.getElem?_cons_zero] at a0 a1 a2
                      have l6 := k6.lt
                      clear hr5' hg5' hr6 hg6 hr56 hg56 k5
                      go_wp2_with fail
                      refine hs.mono ?_
                      rintro e x7 ⟨rfl, hB7⟩
                      clear hs a0 a1 a2
                      go_wp2
                      go_roundw
                      case rel => ((repeat apply Exists.intro); exact ⟨⟨q + 1, by omega, by go_num, hBc.trans ((hA6.trans (hB7.mono hA6.size)).mono hBc.size)⟩, rfl⟩)
                      case measure => simp [intOf]; omega
                    · obtain rfl : q = 2 := by omega
                      go_wp2
                      go_roundw
                      case rel => exact ⟨k + 1, by omega, by go_num, hAc⟩
                      case measure => simp [intOf]; omega
        · obtain rfl : k = 3 := by omega
          clear hk3
          go_wp2
          go_ret
          exact ⟨rfl, hBwy.trans (hBk.mono hBwy.size)⟩
end Go.Proofs.Ytblmpmapcdpaiaa

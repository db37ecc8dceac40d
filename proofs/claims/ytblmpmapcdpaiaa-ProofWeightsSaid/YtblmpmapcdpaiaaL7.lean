/- nadirlaw23.ProgramOrder: the walk. -/
import Derived.Test.YtblmpmapcdpaiaaOrd
import Derived.Deep.CutRange
import Derived.Deep.DeepCutAuto
namespace Go.Proofs.Ytblmpmapcdpaiaa
open Go.RowKit Go.Shelf Lib

theorem list4 {l : List Int} (h : l.length = 4) : ∃ a b c d, l = [a, b, c, d] := by
  match l, h with
  | [a, b, c, d], _ => exact ⟨_, _, _, _, rfl⟩
theorem own_empty {W : World} {B base : Nat} (hb : Blk W B #[] 26) (h : base ≤ B) : W.ownsRow base 26 6 (.slice (some ⟨B, 0, none⟩) 0 0) 0 [] :=
  ⟨rfl, .inr ⟨B, 0, #[], rfl, h, hb, Nat.le_refl _, by decide, rfl, rfl⟩⟩
theorem rowO_one {W : World} {ds : List Value} {r : RowD} (h : RowO W ds r) : ∀ u ∈ ds, u.oneCell' = true := by
  obtain ⟨vc, rfl, h2⟩ := h
  obtain ⟨a, c, rfl, -, -⟩ := owned_len h2
  intro u hu
  simp at hu
  rcases hu with rfl | rfl | rfl | rfl | rfl | rfl <;> rfl
theorem flat_one {W : World} : ∀ {l : List RowD} {cs : List Value}, FlatC 6 RowO W cs l → ∀ u ∈ cs, u.oneCell' = true := by
  intro l
  induction l with
  | nil => intro cs h u hu; rw [show cs = [] from h] at hu; cases hu
  | cons y l ih =>
    rintro cs ⟨ds, rest, rfl, -, h2, h⟩ u hu
    rcases List.mem_append.1 hu with h3 | h3
    · exact rowO_one h2 u h3
    · exact ih h u h3
theorem FlatC.drop {α : Type} {n : Nat} {R : World → List Value → α → Prop} {W : World} : ∀ (k : Nat) {l : List α} {cs : List Value}, FlatC n R W cs l → k ≤ l.length → FlatC n R W (cs.drop (k * n)) (l.drop k) ∧ FlatC n R W (cs.take (k * n)) (l.take k) := by
  intro k
  induction k with
  | zero => intro l cs h _; simp; exact ⟨h, rfl⟩
  | succ k ih =>
    intro l cs h hk
    cases l with
    | nil => simp at hk
    | cons y l =>
      obtain ⟨ds, rest, rfl, h1, h2, h3⟩ := h
      obtain ⟨i1, i2⟩ := ih h3 (by simpa using hk)
      have e : (k + 1) * n = ds.length + k * n := by rw [Nat.succ_mul, h1]; omega
      rw [e, List.drop_length_add_append, List.take_length_add_append]
      exact ⟨i1, ds, _, rfl, h1, h2, i2⟩
set_option maxRecDepth 100000 in
set_option maxHeartbeats 8000000 in
theorem order_true (vars turn : Int) (vx : Value) (x : List X3) (gain : List Int) (n0 n1 n2 n3 : Int) (w : World) (hv : InR vars) (h1 : InR turn) (hx : XsAt w vx x) (hxr : ∀ y ∈ x, XR y) (hg : gain.length = 8) (hgr : ∀ y ∈ gain, InR y) :
    Calls Try.prog 7 #[.int .i64 vars, vx, .agg (gain.map (Value.int .i64)).toArray, .int .i64 turn, .agg #[.int .i64 n0, .int .i64 n1, .int .i64 n2, .int .i64 n3]] w fun e w' => e = .returned (.bool true) ∧ Below w.heap.size w w' := by
  obtain ⟨m, hG⟩ := goodP vars x gain
  have hmade := Lib.hid (fun W (hW : Below w.heap.size w W) => made_own vars vx x gain W hv (hx.below hW) hxr hg hgr)
  generalize madeP vars x gain = p at hG hmade
  obtain ⟨pv, rows, gn⟩ := p
  obtain rfl : pv = m := hG.vm
  obtain ⟨g0, g1, g2, g3, g4, g5, g6, g7, hge⟩ := list8 hg
  have harg : (gain.map (Value.int .i64)).toArray = #[.int .i64 g0, .int .i64 g1, .int .i64 g2, .int .i64 g3, .int .i64 g4, .int .i64 g5, .int .i64 g6, .int .i64 g7] := by rw [hge]; rfl
  rw [harg] at hmade ⊢
  have hn8 := hG.n8
  simp only at hn8
  have hp1 := pickI_bd turn (n := (rows.length : Int) + 1) (by omega)
  have hk1 := Lib.hid (fun W => pick18 turn ((rows.length : Int) + 1) W h1 (by omega) (by omega))
  obtain ⟨k, hk⟩ := Int.eq_ofNat_of_zero_le hp1.1
  rw [hk] at hk1 hp1
  have hkn : k ≤ rows.length := by omega
  have hwn : IntKind.i64.wrap ((rows.length : Int) + 1) = (rows.length : Int) + 1 := wrapS _ (by omega) (by omega)
  have HG := Lib.hid hG
  clear hx hxr hg hgr hge harg hk hp1 hG
  go_enter Try.func7, Try.ntmps7
  go_wp2_with fail
  refine (sane_true _).mono ?_
  rintro e w1 ⟨rfl, hBa⟩
  have hBw1 : Below w.heap.size w w1 := (((Below.refl _ _).alloc (Nat.le_refl _) _).alloc (by simp) _).trans (hBa.mono (by simp; omega))
  have kg : Blk w1 w.heap.size #[.int .i64 g0, .int .i64 g1, .int .i64 g2, .int .i64 g3, .int .i64 g4, .int .i64 g5, .int .i64 g6, .int .i64 g7] 23 := ((Blk.new w _ 23).alloc _).below hBa (by simp; omega)
  have kn : Blk w1 (w.heap.size + 1) #[.int .i64 n0, .int .i64 n1, .int .i64 n2, .int .i64 n3] 61 := (Blk.newAt _ _ _ (by simp)).below hBa (by simp)
  have i0 := kg.cell 0
  have i1 := kg.cell 1
  have i2 := kg.cell 2
  have i3 := kg.cell 3
  have i4 := kg.cell 4
  have i5 := kg.cell 5
  have i6 := kg.cell 6
  have i7 := kg.cell 7
  simp only [List.getElem?_toArray, List.getElem?_cons_succ, List.getElem?_cons_zero] at i0 i1 i2 i3 i4 i5 i6 i7
  have lw1 := kg.lt
  go_wp2_with fail
  refine (hmade.out w1 hBw1).mono ?_
  rintro e w2 ⟨oB, vk, vg, rfl, hO, -, hB2⟩
  obtain ⟨cs, ho1, ho2⟩ := hO.own
  have ho3 := hO.g
  obtain ⟨vr', vg', e, hvr, hvg⟩ := hO.prog
  cases e
  simp only at hvr hvg
  obtain ⟨ra, rc, rfl, hr1, hr2⟩ := (show SlicesLen vk rows.length from hvr.len)
  obtain ⟨ga, gc, rfl, -, -⟩ := hvg.len
  unfold maxLen at hr2
  have hBw2 := hBw1.trans (hB2.mono hBw1.size)
  replace kn := kn.below hB2 kn.lt
  clear hO hB2 hBa hBw1 kg i0 i1 i2 i3 i4 i5 i6 i7 hmade lw1
  have hA2 : Below w2.heap.size w2 (w2.alloc (.cells #[.int .i64 m, .slice ra rows.length rc, .slice ga gn.length gc] 29)) := (Below.refl _ _).alloc (Nat.le_refl _) _
  go_wp2_with fail
  refine (hk1.out _).mono ?_
  rintro e w3 ⟨rfl, rfl⟩
  have lkn := kn.lt
  clear hA2 hk1
  go_upto_region 7 with fail
  go_cut [] from 38 to 49 (fun wx => ∃ vq cs', Blk wx (w2.heap.size + 1) #[.int .i64 m, vq, .slice ga gn.length gc] 29 ∧ wx.ownsRow (w2.heap.size + 2) 26 6 vq rows.length cs' ∧ FlatC 6 RowO wx cs' (turned rows k) ∧ Blk wx w2.heap.size #[.int .i64 m, .slice ra rows.length rc, .slice ga gn.length gc] 29 ∧ Below w2.heap.size w2 wx ∧ w2.heap.size + 2 ≤ wx.heap.size)
  case first =>
    have kq : Blk ((w2.alloc (.cells #[.int .i64 m, .slice ra rows.length rc, .slice ga gn.length gc] 29)).alloc (.cells #[.int .i64 m, .slice ra rows.length rc, .slice ga gn.length gc] 29)) (w2.heap.size + 1) #[.int .i64 m, .slice ra rows.length rc, .slice ga gn.length gc] 29 := Blk.newAt _ _ _ (by simp)
    have kp : Blk ((w2.alloc (.cells #[.int .i64 m, .slice ra rows.length rc, .slice ga gn.length gc] 29)).alloc (.cells #[.int .i64 m, .slice ra rows.length rc, .slice ga gn.length gc] 29)) w2.heap.size #[.int .i64 m, .slice ra rows.length rc, .slice ga gn.length gc] 29 := (Blk.new _ _ _).alloc _
    have hV : Below w2.heap.size w2 ((w2.alloc (.cells #[.int .i64 m, .slice ra rows.length rc, .slice ga gn.length gc] 29)).alloc (.cells #[.int .i64 m, .slice ra rows.length rc, .slice ga gn.length gc] 29)) := ((Below.refl _ _).alloc (Nat.le_refl _) _).alloc (by simp) _
    have hVs : ((w2.alloc (.cells #[.int .i64 m, .slice ra rows.length rc, .slice ga gn.length gc] 29)).alloc (.cells #[.int .i64 m, .slice ra rows.length rc, .slice ga gn.length gc] 29)).heap.size = w2.heap.size + 2 := by simp
    generalize (w2.alloc (.cells #[.int .i64 m, .slice ra rows.length rc, .slice ga gn.length gc] 29)).alloc (.cells #[.int .i64 m, .slice ra rows.length rc, .slice ga gn.length gc] 29) = V at kq kp hV hVs ⊢
    have c1 := kp.cell 1
    have f1 := kq.frozen 1
    simp only [List.getElem?_toArray, List.getElem?_cons_succ, List.getElem?_cons_zero] at c1
    have lv : w2.heap.size < V.heap.size := by omega
    cases ra with
    | none =>
      obtain rfl : rows = [] := hvr.none
      obtain rfl : k = 0 := by simpa using hkn
      obtain rfl : rc = 0 := by
        rcases ho1.2 with ⟨e, -⟩ | ⟨g, cap, cur, e, -⟩
        · cases e; rfl
        · cases e
      simp only [List.length_nil] at c1 kq kp ⊢
      have HKQ := Lib.hid kq
      have HKP := Lib.hid kp
      go_region_held3 (fun w' => w'.cell? ⟨w2.heap.size, 1, none⟩ = some (.slice none 0 0))
        (first | exact c1 | exact c1' | exact c1'' | exact (World.cell?_setCell_other _ _ _ _ (by simp)).trans c1'' | go_keep)
        (first | (refine step_app (v := .slice (some ⟨w2.heap.size + 2, 0, none⟩) 0 0) (n := 0) (xa := none) (m := 0) (c := 0) (xs := []) (news := []) rfl (.tmp 38) (.tmp 42) rfl (w2.heap.size + 2) (own_empty (B := w2.heap.size + 2) (Blk.newAt V #[] 26 (by omega)) (by omega)) (by simp [Act.eval]) (by simp [Act.eval]) rfl (fun q h => by cases h) (fun _ => ⟨rfl, rfl⟩) (fun u hu => by cases hu) (by omega) (by simp; omega) ?_; intro v' w' hown' hgrow; have hB1 : Below (w2.heap.size + 2) V w' := (by first | exact ((Below.refl _ V).alloc (by omega) _).drew.grown hgrow (by show _ ≤ (V.alloc _).heap.size; simp; omega) (fun j hj => by cases hj; exact Nat.le_refl _) | exact ((Below.refl _ V).drew.alloc (by show _ ≤ V.heap.size; omega) _).grown hgrow (by simp; show _ ≤ V.heap.size + 1; omega) (fun j hj => by cases hj; exact Nat.le_refl _)); have hs1 : w2.heap.size + 2 ≤ w'.heap.size := (by have := hB1.size; omega); have c1' : w'.cell? ⟨w2.heap.size, 1, none⟩ = some (.slice none 0 0) := (hB1.cell (by show w2.heap.size < _; omega)).trans c1) | (refine step_app (v := v') (xa := none) (m := 0) (c := 0) (news := []) rfl (.tmp 43) (.tmp 47) rfl (w2.heap.size + 2) hown' (by simp [Act.eval]) (by simp [Act.eval]) rfl (fun q h => by cases h) (fun _ => ⟨rfl, rfl⟩) (fun u hu => by cases hu) (by omega) hs1 ?_; intro v2 w4 hown2 hgrow2; have hB2 : Below (w2.heap.size + 2) w' w4 := (Below.refl _ w').grown hgrow2 hs1 (fun j hj => (hown'.lt j hj).1); have hB12 := hB1.trans hB2; have c1'' : w4.cell? ⟨w2.heap.size, 1, none⟩ = some (.slice none 0 0) := (hB12.cell (by show w2.heap.size < _; omega)).trans c1; have kq4 : Blk w4 (w2.heap.size + 1) #[.int .i64 m, .slice none 0 0, .slice ga gn.length gc] 29 := (hB12.block _ (by omega)).trans HKQ.out; have kp4 : Blk w4 w2.heap.size #[.int .i64 m, .slice none 0 0, .slice ga gn.length gc] 29 := (hB12.block _ (by omega)).trans HKP.out; have y1 := kq4.cell 1; have z1 := kq4.frozen 1; simp only [List.getElem?_toArray, List.getElem?_cons_succ, List.getElem?_cons_zero] at y1; obtain ⟨na, nc, rfl, hn1, hn2⟩ := owned_len hown2))
      all_goals (
        go_wp2_with fail
        go_meet
        have hBf : Below w2.heap.size w2 (w4.setCell ⟨w2.heap.size + 1, 1, none⟩ (.slice na 0 nc)) := (hV.trans (hB12.mono (by omega))).setCell (p := ⟨w2.heap.size + 1, 1, none⟩) (by simp) _
        exact ⟨_, _, kq4.set 1 _, ownsRow_setCell_below (a := ⟨w2.heap.size + 1, 1, none⟩) hown2 (by simp) _, rfl, kp4.other _ (by simp), hBf, by have := hB12.size; simp; omega⟩)
    | some p =>
      obtain ⟨g, rfl⟩ : ∃ g, p = ⟨g, 0, none⟩ := by
        rcases ho1.2 with ⟨e, -⟩ | ⟨g, cap, cur, e, -⟩
        · cases e
        · cases e; exact ⟨g, rfl⟩
      have hc0 : ∀ j u, cs[j]? = some u → w2.cell? ⟨g, j, none⟩ = some u := fun j u hj => by
        have := ho1.cells rfl j u hj
        rwa [add_zero_off] at this
      have hone := flat_one ho2
      obtain ⟨hd1, hd2⟩ := ho2.drop k hkn
      have hd1l : (cs.drop (k * 6)).length = (rows.length - k) * 6 := by rw [hd1.len, List.length_drop]
      have hd2l : (cs.take (k * 6)).length = k * 6 := by rw [hd2.len, List.length_take, Nat.min_eq_left hkn]
      have hn1 : ∀ W, Below w2.heap.size w2 W → ∀ q, (if rc = k then some (⟨g, 0, none⟩ : Addr) else some ⟨g, k * 6, none⟩) = some q → ∀ j u, (cs.drop (k * 6))[j]? = some u → W.cell? (q.add j) = some u := fun W hW q hq j u hj => by
        by_cases hrk : rc = k
        · rw [List.getElem?_eq_none (by rw [hd1l]; omega)] at hj; cases hj
        · rw [if_neg hrk] at hq
          cases hq
          rw [List.getElem?_drop] at hj
          have := hc0 _ u hj
          rw [addr_add]
          exact (hW.cell (World.block_lt_of_cell? _ _ this)).trans this
      have hn2 : ∀ W, Below w2.heap.size w2 W → ∀ q, some (⟨g, 0, none⟩ : Addr) = some q → ∀ j u, (cs.take (k * 6))[j]? = some u → W.cell? (q.add j) = some u := fun W hW q hq j u hj => by
        cases hq
        rw [List.getElem?_take] at hj
        split at hj
        · have := hc0 _ u hj
          rw [add_zero_off]
          exact (hW.cell (World.block_lt_of_cell? _ _ this)).trans this
        · cases hj
      have HN := Lib.hid (And.intro hn1 hn2)
      have HD := Lib.hid (And.intro hd1l hd2l)
      have HONE := Lib.hid hone
      have HXN := Lib.hid (show (if rc = k then some (⟨g, 0, none⟩ : Addr) else some ⟨g, k * 6, none⟩) = none → rows.length - k = 0 ∧ rc - k = 0 from fun h => by split at h <;> cases h)
      have HFL := Lib.hid (hd1.app hd2)
      have HKQ := Lib.hid kq
      have HKP := Lib.hid kp
      clear hc0 hone hd1l hd2l hn1 hn2 hd1 hd2
      have hkk : (0 : Int) ≤ (k : Int) ∧ (k : Int) ≤ (rows.length : Int) ∧ (k : Int) ≤ (rc : Int) ∧ (rows.length : Int) ≤ (rc : Int) := by omega
      by_cases hrk : rc = k
      · subst hrk
        go_region_held3 (fun w' => w'.cell? ⟨w2.heap.size, 1, none⟩ = some (.slice (some ⟨g, 0, none⟩) rows.length rc))
          (first | exact c1 | exact c1' | exact c1'' | exact (World.cell?_setCell_other _ _ _ _ (by simp)).trans c1'' | go_keep)
          (first | (refine step_app (v := .slice (some ⟨w2.heap.size + 2, 0, none⟩) 0 0) (n := 0) (m := rows.length - rc) (c := rc - rc) (xs := []) (news := cs.drop (rc * 6)) rfl (.tmp 38) (.tmp 42) rfl (w2.heap.size + 2) (own_empty (B := w2.heap.size + 2) (Blk.newAt V #[] 26 (by omega)) (by omega)) (by simp [Act.eval]) (by simp [Act.eval] <;> first | omega | (intro h; omega)) HD.out.1 (HN.out.1 _ (by first | exact (hV.alloc (by omega) _).drew | exact (hV.drew).alloc (by show _ ≤ V.heap.size; omega) _)) HXN.out (fun u hu => HONE.out u (List.mem_of_mem_drop hu)) (by omega) (by simp; omega) ?_; intro v' w' hown' hgrow; have hB1 : Below (w2.heap.size + 2) V w' := (by first | exact ((Below.refl _ V).alloc (by omega) _).drew.grown hgrow (by show _ ≤ (V.alloc _).heap.size; simp; omega) (fun j hj => by cases hj; exact Nat.le_refl _) | exact ((Below.refl _ V).drew.alloc (by show _ ≤ V.heap.size; omega) _).grown hgrow (by simp; show _ ≤ V.heap.size + 1; omega) (fun j hj => by cases hj; exact Nat.le_refl _)); have hs1 : w2.heap.size + 2 ≤ w'.heap.size := (by have := hB1.size; omega); have c1' : w'.cell? ⟨w2.heap.size, 1, none⟩ = some (.slice (some ⟨g, 0, none⟩) rows.length rc) := (hB1.cell (by show w2.heap.size < _; omega)).trans c1) | (refine step_app (v := v') (xa := some ⟨g, 0, none⟩) (m := rc) (c := rc) (news := cs.take (rc * 6)) rfl (.tmp 43) (.tmp 47) rfl (w2.heap.size + 2) hown' (by simp [Act.eval]) (by simp [Act.eval]) HD.out.2 (HN.out.2 _ (hV.trans (hB1.mono (by omega)))) (by intro h; cases h) (fun u hu => HONE.out u (List.mem_of_mem_take hu)) (by omega) hs1 ?_; intro v2 w4 hown2 hgrow2; rw [show 0 + (rows.length - rc) + rc = rows.length from (by omega), List.nil_append] at hown2; have hB2 : Below (w2.heap.size + 2) w' w4 := (Below.refl _ w').grown hgrow2 hs1 (fun j hj => (hown'.lt j hj).1); have hB12 := hB1.trans hB2; have c1'' : w4.cell? ⟨w2.heap.size, 1, none⟩ = some (.slice (some ⟨g, 0, none⟩) rows.length rc) := (hB12.cell (by show w2.heap.size < _; omega)).trans c1; have kq4 : Blk w4 (w2.heap.size + 1) #[.int .i64 m, .slice (some ⟨g, 0, none⟩) rows.length rc, .slice ga gn.length gc] 29 := (hB12.block _ (by omega)).trans HKQ.out; have kp4 : Blk w4 w2.heap.size #[.int .i64 m, .slice (some ⟨g, 0, none⟩) rows.length rc, .slice ga gn.length gc] 29 := (hB12.block _ (by omega)).trans HKP.out; have y1 := kq4.cell 1; have z1 := kq4.frozen 1; simp only [List.getElem?_toArray, List.getElem?_cons_succ, List.getElem?_cons_zero] at y1; obtain ⟨na, nc, rfl, hn1, hn2⟩ := owned_len hown2))
        all_goals (
          go_wp2_with fail
          go_meet
          have hBf : Below w2.heap.size w2 (w4.setCell ⟨w2.heap.size + 1, 1, none⟩ (.slice na rows.length nc)) := (hV.trans (hB12.mono (by omega))).setCell (p := ⟨w2.heap.size + 1, 1, none⟩) (by simp) _
          exact ⟨_, _, kq4.set 1 _, ownsRow_setCell_below (a := ⟨w2.heap.size + 1, 1, none⟩) hown2 (by simp) _, HFL.out.imp (fun _ _ h => h.t (T3.of_below hBf)), kp4.other _ (by simp), hBf, by have := hB12.size; simp; omega⟩)
      · have hrk2 : ¬ (k = rc) := fun e => hrk e.symm
        go_region_held3 (fun w' => w'.cell? ⟨w2.heap.size, 1, none⟩ = some (.slice (some ⟨g, 0, none⟩) rows.length rc))
          (first | exact c1 | exact c1' | exact c1'' | exact (World.cell?_setCell_other _ _ _ _ (by simp)).trans c1'' | go_keep)
          (first | (refine step_app (v := .slice (some ⟨w2.heap.size + 2, 0, none⟩) 0 0) (n := 0) (m := rows.length - k) (c := rc - k) (xs := []) (news := cs.drop (k * 6)) rfl (.tmp 38) (.tmp 42) rfl (w2.heap.size + 2) (own_empty (B := w2.heap.size + 2) (Blk.newAt V #[] 26 (by omega)) (by omega)) (by simp [Act.eval]) (by simp [Act.eval] <;> first | omega | (intro h; omega)) HD.out.1 (HN.out.1 _ (by first | exact (hV.alloc (by omega) _).drew | exact (hV.drew).alloc (by show _ ≤ V.heap.size; omega) _)) HXN.out (fun u hu => HONE.out u (List.mem_of_mem_drop hu)) (by omega) (by simp; omega) ?_; intro v' w' hown' hgrow; have hB1 : Below (w2.heap.size + 2) V w' := (by first | exact ((Below.refl _ V).alloc (by omega) _).drew.grown hgrow (by show _ ≤ (V.alloc _).heap.size; simp; omega) (fun j hj => by cases hj; exact Nat.le_refl _) | exact ((Below.refl _ V).drew.alloc (by show _ ≤ V.heap.size; omega) _).grown hgrow (by simp; show _ ≤ V.heap.size + 1; omega) (fun j hj => by cases hj; exact Nat.le_refl _)); have hs1 : w2.heap.size + 2 ≤ w'.heap.size := (by have := hB1.size; omega); have c1' : w'.cell? ⟨w2.heap.size, 1, none⟩ = some (.slice (some ⟨g, 0, none⟩) rows.length rc) := (hB1.cell (by show w2.heap.size < _; omega)).trans c1) | (refine step_app (v := v') (xa := some ⟨g, 0, none⟩) (m := k) (c := rc) (news := cs.take (k * 6)) rfl (.tmp 43) (.tmp 47) rfl (w2.heap.size + 2) hown' (by simp [Act.eval]) (by simp [Act.eval]) HD.out.2 (HN.out.2 _ (hV.trans (hB1.mono (by omega)))) (by intro h; cases h) (fun u hu => HONE.out u (List.mem_of_mem_take hu)) (by omega) hs1 ?_; intro v2 w4 hown2 hgrow2; rw [show 0 + (rows.length - k) + k = rows.length from (by omega), List.nil_append] at hown2; have hB2 : Below (w2.heap.size + 2) w' w4 := (Below.refl _ w').grown hgrow2 hs1 (fun j hj => (hown'.lt j hj).1); have hB12 := hB1.trans hB2; have c1'' : w4.cell? ⟨w2.heap.size, 1, none⟩ = some (.slice (some ⟨g, 0, none⟩) rows.length rc) := (hB12.cell (by show w2.heap.size < _; omega)).trans c1; have kq4 : Blk w4 (w2.heap.size + 1) #[.int .i64 m, .slice (some ⟨g, 0, none⟩) rows.length rc, .slice ga gn.length gc] 29 := (hB12.block _ (by omega)).trans HKQ.out; have kp4 : Blk w4 w2.heap.size #[.int .i64 m, .slice (some ⟨g, 0, none⟩) rows.length rc, .slice ga gn.length gc] 29 := (hB12.block _ (by omega)).trans HKP.out; have y1 := kq4.cell 1; have z1 := kq4.frozen 1; simp only [List.getElem?_toArray, List.getElem?_cons_succ, List.getElem?_cons_zero] at y1; obtain ⟨na, nc, rfl, hn1, hn2⟩ := owned_len hown2))
        all_goals (
          go_wp2_with fail
          go_meet
          have hBf : Below w2.heap.size w2 (w4.setCell ⟨w2.heap.size + 1, 1, none⟩ (.slice na rows.length nc)) := (hV.trans (hB12.mono (by omega))).setCell (p := ⟨w2.heap.size + 1, 1, none⟩) (by simp) _
          exact ⟨_, _, kq4.set 1 _, ownsRow_setCell_below (a := ⟨w2.heap.size + 1, 1, none⟩) hown2 (by simp) _, HFL.out.imp (fun _ _ h => h.t (T3.of_below hBf)), kp4.other _ (by simp), hBf, by have := hB12.size; simp; omega⟩)
  case rest =>
    obtain ⟨vq, cs', kq, hoq, hfq, kp, hBq, hsz⟩ := hcut
    obtain ⟨qa, qc, rfl, hq1, hq2⟩ := owned_len hoq
    unfold maxLen at hq2
    have HVR := Lib.hid hvr
    have HVG := Lib.hid hvg
    have hBwc := hBw2.trans (hBq.mono hBw2.size)
    have HTL : Hid ((turned rows k).length = rows.length) := by show _ = _; unfold turned; simp; omega
    clear hvr hvg ho1 ho2
    go_wp2
    go_loopw [15] (fun u15 wr => ∃ (i : Nat) (ds : List Value), i ≤ rows.length ∧ u15 = .int .i64 i ∧ Blk wr (w2.heap.size + 1) #[.int .i64 m, .slice qa rows.length qc, .slice ga gn.length gc] 29 ∧ wr.ownsRow (w2.heap.size + 2) 26 6 (.slice qa rows.length qc) rows.length ds ∧ FlatC 6 RowO wr ds (((turned rows k).take i).map (ren (n0, n1, n2, n3)) ++ (turned rows k).drop i) ∧ Blk wr w2.heap.size #[.int .i64 m, .slice ra rows.length rc, .slice ga gn.length gc] 29 ∧ Below w2.heap.size w2 wr ∧ w2.heap.size + 2 ≤ wr.heap.size)
      (fun u15 _ => (rows.length - intOf u15).toNat)
    case atStart => exact ⟨0, _, by omega, rfl, kq, hoq, by simpa using hfq, kp, hBq, hsz⟩
    case round =>
      obtain ⟨i, ds, hi, rfl, kqi, hoi, hfi, kpi, hBi, hszi⟩ := hrel
      have q1 := kqi.cell 1
      simp only [List.getElem?_toArray, List.getElem?_cons_succ, List.getElem?_cons_zero] at q1
      by_cases hin : i < rows.length
      · obtain ⟨g, cur, rfl, hg0, hgB⟩ : ∃ g cur, qa = some (⟨g, 0, none⟩ : Addr) ∧ w2.heap.size + 2 ≤ g ∧ Blk wr g cur 26 := by
          rcases hoi.2 with ⟨-, h0⟩ | ⟨g, cap, cur, e, h1, h2, -⟩
          · omega
          · cases e; exact ⟨g, cur, rfl, h1, h2⟩
        have htl := HTL.out
        rw [List.drop_eq_getElem_cons (by omega)] at hfi
        obtain ⟨c1, d, c2, rfl, f1, f2, f3, f4⟩ := hfi.split
        have hc1 : c1.length = i * 6 := by rw [f1.len, List.length_map, List.length_take, htl, Nat.min_eq_left (by omega)]
        obtain ⟨vc, rfl, hvc⟩ := f3
        generalize hy : (turned rows k)[i]'(by omega) = y at f2 hvc hoi
        have hcell : ∀ (j : Nat) u, (([.int .i64 y.kind, .int .i64 y.a, .int .i64 y.b, .int .i64 y.at_, vc, .int .i64 y.most] : List Value) ++ c2)[j]? = some u → wr.cell? ⟨g, i * 6 + j, none⟩ = some u := fun j u hj => by
          have := hoi.cells rfl (i * 6 + j) u (by rw [List.getElem?_append_right (by omega), hc1, Nat.add_sub_cancel_left]; exact hj)
          rwa [add_zero_off] at this
        have e0 := hcell 0 _ rfl
        have e1 := hcell 1 _ rfl
        have e2 := hcell 2 _ rfl
        have e3 := hcell 3 _ rfl
        rw [Nat.add_zero] at e0
        have f0' := hgB.frozen (i * 6)
        have f1' := hgB.frozen (i * 6 + 1)
        have f2' := hgB.frozen (i * 6 + 2)
        have f3' := hgB.frozen (i * 6 + 3)
        have kni := kn.below hBi lkn
        have t0 := kni.cell 0
        have t1 := kni.cell 1
        have t2 := kni.cell 2
        have t3 := kni.cell 3
        simp only [List.getElem?_toArray, List.getElem?_cons_succ, List.getElem?_cons_zero] at t0 t1 t2 t3
        have hii : (0 : Int) ≤ (i : Int) ∧ (i : Int) < (rows.length : Int) := by omega
        have nb1 : g ≠ w2.heap.size + 1 := by omega
        have nb2 : g ≠ w.heap.size + 1 := by omega
        have HH := Lib.hid (And.intro hoi (And.intro f1 f4))
        clear hoi f1 f4 hcell
        go_wp2
        go_roundw
        case rel =>
          obtain ⟨hoi, f1, f4⟩ := HH.out
          have s0 := (hoi.stored (i * 6) (.int .i64 n0)).1
          have s1 := (s0.stored (i * 6 + 1) (.int .i64 n1)).1
          have s2 := (s1.stored (i * 6 + 2) (.int .i64 n2)).1
          have s3 := (s2.stored (i * 6 + 3) (.int .i64 n3)).1
          have b1 := hgB.set (i * 6) (.int .i64 n0)
          have b2 := b1.set (i * 6 + 1) (.int .i64 n1)
          have b3 := b2.set (i * 6 + 2) (.int .i64 n2)
          have tt := ((T3.set hgB (by decide) (i * 6) (.int .i64 n0)).trans (T3.set b1 (by decide) (i * 6 + 1) (.int .i64 n1))).trans ((T3.set b2 (by decide) (i * 6 + 2) (.int .i64 n2)).trans (T3.set b3 (by decide) (i * 6 + 3) (.int .i64 n3)))
          have hset : ((((c1 ++ ([.int .i64 y.kind, .int .i64 y.a, .int .i64 y.b, .int .i64 y.at_, vc, .int .i64 y.most] ++ c2)).set (i * 6) (.int .i64 n0)).set (i * 6 + 1) (.int .i64 n1)).set (i * 6 + 2) (.int .i64 n2)).set (i * 6 + 3) (.int .i64 n3) = c1 ++ ([.int .i64 n0, .int .i64 n1, .int .i64 n2, .int .i64 n3, vc, .int .i64 y.most] ++ c2) := by
            rw [← hc1, show (c1.length : Nat) = c1.length + 0 from rfl, set_mid]
            simp only [Nat.add_zero]
            rw [set_mid, set_mid, set_mid]
            rfl
          rw [hset] at s3
          have hj : ((turned rows k).take (i + 1)).map (ren (n0, n1, n2, n3)) ++ (turned rows k).drop (i + 1) = ((turned rows k).take i).map (ren (n0, n1, n2, n3)) ++ ren (n0, n1, n2, n3) y :: (turned rows k).drop (i + 1) := by
            have hsm : (turned rows k)[i]? = some y := by rw [← hy]; exact List.getElem?_eq_getElem (by omega)
            rw [List.take_add_one, hsm, List.map_append, List.append_assoc]; rfl
          refine ⟨i + 1, _, by omega, by go_num, ((((kqi.other _ nb1.symm).other _ nb1.symm).other _ nb1.symm).other _ nb1.symm), s3, ?_, ((((kpi.other _ (by simp; omega)).other _ (by simp; omega)).other _ (by simp; omega)).other _ (by simp; omega)), (((hBi.setCell (p := ⟨g, i * 6, none⟩) (by simp; omega) _).setCell (p := ⟨g, i * 6 + 1, none⟩) (by simp; omega) _).setCell (p := ⟨g, i * 6 + 2, none⟩) (by simp; omega) _).setCell (p := ⟨g, i * 6 + 3, none⟩) (by simp; omega) _, by simp; omega⟩
          rw [hj]
          exact FlatC.join (f1.imp (fun _ _ h => h.t tt)) rfl ⟨vc, rfl, hvc.t tt⟩ (f4.imp (fun _ _ h => h.t tt))
        case measure => simp [intOf]; omega
      · obtain rfl : i = rows.length := by omega
        have htl := HTL.out
        rw [List.take_of_length_le (by omega), List.drop_eq_nil_of_le (by omega), List.append_nil] at hfi
        obtain ⟨he2, he1, hall, f, ss, gg, p1, p2, hs1, hs2⟩ := order_law m rows gn k (n0, n1, n2, n3) HG.out.val
        have hrl : ((turned rows k).map (ren (n0, n1, n2, n3))).length = rows.length := by rw [List.length_map]; exact htl
        have hvq : RowsAt wr (.slice qa rows.length qc) ((turned rows k).map (ren (n0, n1, n2, n3))) := flat_view (by rw [hrl]; exact hoi) (hfi.to (fun _ _ h => h.row))
        have hvr := HVR.out.below hBi
        have hvg := HVG.out.below hBi
        have hBw := hBw2.trans (hBi.mono hBw2.size)
        clear htl hrl hoi hfi hBwc hBq kp kq hoq hfq
        have hx := solve_all (.agg #[.int .i64 m, .slice ra rows.length rc, .slice ga gn.length gc]) ⟨m, rows, gn⟩ wr ⟨_, _, rfl, hvr, hvg⟩
        rw [hs1, he1] at hx
        have a0 := kpi.cell 0
        have a1 := kpi.cell 1
        have a2 := kpi.cell 2
        simp only [List.getElem?_toArray, List.getElem?_cons_succ, List.getElem?_cons_zero] at a0 a1 a2
        go_wp2_with fail
        refine hx.mono ?_
        rintro e w5 ⟨v5, rfl, ⟨vp5, rfl, hst5⟩, hB5⟩
        obtain ⟨pa5, pc5, rfl, -, -⟩ := hst5.len
        have hA : Below wr.heap.size wr (w5.alloc (.cells #[.bool f, .int .i64 ss, .int .i64 gg, .slice pa5 p1.length pc5] 37)) := hB5.alloc hB5.size _
        have kq5 := kqi.below hB5 kqi.lt
        have kp5 := kpi.below hB5 kpi.lt
        have hx2 := solve_all (.agg #[.int .i64 m, .slice qa rows.length qc, .slice ga gn.length gc]) ⟨m, ((turned rows k).map (ren (n0, n1, n2, n3))), gn⟩ _ ⟨_, _, rfl, hvq.below hA, hvg.below hA⟩
        rw [hs2, he2] at hx2
        have k16 := Blk.new w5 #[.bool f, .int .i64 ss, .int .i64 gg, .slice pa5 p1.length pc5] 37
        clear hx a0 a1 a2 hst5
        have a0 := kq5.cell 0
        have a1 := kq5.cell 1
        have a2 := kq5.cell 2
        simp only [List.getElem?_toArray, List.getElem?_cons_succ, List.getElem?_cons_zero] at a0 a1 a2
        have l5 := kq5.lt
        go_wp2_with fail
        refine hx2.mono ?_
        rintro e w6 ⟨v6, rfl, ⟨vp6, rfl, hst6⟩, hB6⟩
        obtain ⟨pa6, pc6, rfl, -, -⟩ := hst6.len
        have hA6 := hA.trans (hB6.mono hA.size)
        have hA7 : Below wr.heap.size wr (w6.alloc (.cells #[.bool f, .int .i64 ss, .int .i64 gg, .slice pa6 p2.length pc6] 37)) := hA6.alloc hA6.size _
        have kp6 := (kp5.alloc (.cells #[.bool f, .int .i64 ss, .int .i64 gg, .slice pa5 p1.length pc5] 37)).below hB6 (by have := kp5.lt; simp; omega)
        have kq6 := (kq5.alloc (.cells #[.bool f, .int .i64 ss, .int .i64 gg, .slice pa5 p1.length pc5] 37)).below hB6 (by have := kq5.lt; simp; omega)
        replace k16 := k16.below hB6 k16.lt
        have k18 := Blk.new w6 #[.bool f, .int .i64 ss, .int .i64 gg, .slice pa6 p2.length pc6] 37
        have hx3 := all_all (.agg #[.int .i64 m, .slice ra rows.length rc, .slice ga gn.length gc]) ⟨m, rows, gn⟩ _ ⟨_, _, rfl, hvr.below hA7, hvg.below hA7⟩
        rw [he1] at hx3
        clear hx2 a0 a1 a2 hst6 l5 hB6
        have a0 := kp6.cell 0
        have a1 := kp6.cell 1
        have a2 := kp6.cell 2
        simp only [List.getElem?_toArray, List.getElem?_cons_succ, List.getElem?_cons_zero] at a0 a1 a2
        have l6 := kp6.lt
        go_wp2_with fail
        refine hx3.mono ?_
        rintro e w7 ⟨v7, rfl, hl7, hB7⟩
        have hA8 := hA7.trans (hB7.mono hA7.size)
        have kq7 := (kq6.alloc (.cells #[.bool f, .int .i64 ss, .int .i64 gg, .slice pa6 p2.length pc6] 37)).below hB7 (by have := kq6.lt; simp; omega)
        replace k16 := (k16.alloc (.cells #[.bool f, .int .i64 ss, .int .i64 gg, .slice pa6 p2.length pc6] 37)).below hB7 (by have := k16.lt; simp; omega)
        replace k18 := k18.below hB7 k18.lt
        have hx4 := all_all (.agg #[.int .i64 m, .slice qa rows.length qc, .slice ga gn.length gc]) ⟨m, ((turned rows k).map (ren (n0, n1, n2, n3))), gn⟩ w7 ⟨_, _, rfl, hvq.below hA8, hvg.below hA8⟩
        rw [he2, hall] at hx4
        clear hx3 a0 a1 a2 l6
        have a0 := kq7.cell 0
        have a1 := kq7.cell 1
        have a2 := kq7.cell 2
        simp only [List.getElem?_toArray, List.getElem?_cons_succ, List.getElem?_cons_zero] at a0 a1 a2
        go_wp2_with fail
        refine hx4.mono ?_
        rintro e w8 ⟨v8, rfl, hl8, hB8⟩
        have hA9 := hA8.trans (hB8.mono hA8.size)
        replace k16 := k16.below hB8 k16.lt
        replace k18 := k18.below hB8 k18.lt
        have hx5 := ints_same v7 v8 _ w8 (hl7.below hB8) hl8
        clear hx4 a0 a1 a2 hl7 hl8
        have b0 := k16.cell 0
        have b1 := k16.cell 1
        have b2 := k16.cell 2
        simp only [List.getElem?_toArray, List.getElem?_cons_succ, List.getElem?_cons_zero] at b0 b1 b2
        have d0 := k18.cell 0
        have d1 := k18.cell 1
        have d2 := k18.cell 2
        simp only [List.getElem?_toArray, List.getElem?_cons_succ, List.getElem?_cons_zero] at d0 d1 d2
        go_wp2_with fail
        refine hx5.mono ?_
        rintro e w9 ⟨rfl, hB9⟩
        go_wp2
        go_ret
        exact ⟨rfl, hBw.trans ((hA9.trans (hB9.mono hA9.size)).mono hBw.size)⟩
end Go.Proofs.Ytblmpmapcdpaiaa

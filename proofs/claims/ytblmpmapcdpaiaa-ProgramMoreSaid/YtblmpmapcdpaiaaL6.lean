/- nadirlaw23.ProgramMore: the walk. -/
import Derived.Test.YtblmpmapcdpaiaaMore
import Derived.Test.YtblmpmapcdpaiaaL4
import Derived.Deep.CutRange
import Derived.Deep.DeepCutAuto
namespace Go.Proofs.Ytblmpmapcdpaiaa
open Go.RowKit Go.Shelf Lib

theorem made_one (vars : Int) (x : List X3) (t : X3) (gain : List Int) : ∃ e gn', madeP vars [t] gain = ⟨(madeP vars x gain).vars, [e], gn'⟩ ∧ rightB e (madeP vars x gain).vars = true := by
  have hv := valid_rows (madeP_valid vars [t] gain)
  refine ⟨rowM 0 t (pickI vars 9).toNat, _, rfl, ?_⟩
  exact hv _ (by unfold rowsM; simp)
theorem xs_blk {W : World} {B : Nat} {t : X3} (hb : Blk W B #[.int .i64 t.a, .int .i64 t.b, .int .i64 t.c] 59) : XsAt W (.slice (some ⟨B, 0, none⟩) 1 1) [t] := by
  refine ⟨_, 1, rfl, Nat.le_refl _, by unfold maxLen; omega, fun _ => ⟨B, 0, rfl, fun j y hj => ?_⟩⟩
  match j with
  | 0 =>
    simp at hj; subst hj
    refine ⟨_, rfl, fun i c hc => (hb.cell _).trans ?_, rfl⟩
    match i, hc with
    | 0, hc => exact hc
    | 1, hc => exact hc
    | 2, hc => exact hc
  | j + 1 => simp at hj
/-- What the walk over the three lists of choices needs. -/
structure Wlk (LA LB LC : List Nat) (cnt fb : Nat → Nat) (er : RowD) (M : Nat) : Prop where
  lt : ∀ {k x : Nat}, LA[k]? = some x → x < M
  at_ : ∀ {k x : Nat}, LA[k]? = some x → LC[cnt x]? = some x
  below : ∀ {k x i : Nat}, LA[k]? = some x → i < cnt x → ∃ y, LC[i]? = some y ∧ y < x
  mono : ∀ {k x y : Nat}, LA[k]? = some x → LA[k + 1]? = some y → cnt x ≤ cnt y
  hit : ∀ {k x : Nat}, LA[k]? = some x → keptB er x = true → LB[fb k]? = some x
  next : ∀ {k x : Nat}, LA[k]? = some x → fb (k + 1) = fb k + if keptB er x = true then 1 else 0
  start : fb 0 = 0
  done : fb LA.length = LB.length
  sz : LA.length ≤ M ∧ LB.length ≤ M ∧ LC.length ≤ M
  fbl : ∀ k, fb k ≤ M
theorem wlk (rows W : List RowD) (er : RowD) (M : Nat) (hsub : ∀ s, keepsB rows s = true → keepsB W s = true) :
    Wlk (chL rows M) ((chL rows M).filter (keptB er)) (chL W M) (fun x => (chL W x).length) (fun k => (((chL rows M).take k).filter (keptB er)).length) er M where
  lt h := (chL_mem.1 (List.mem_of_getElem? h)).1
  at_ h := chL_at (chL_mem.1 (List.mem_of_getElem? h)).1 (hsub _ (chL_mem.1 (List.mem_of_getElem? h)).2)
  below {k x i} h hi := by
    have hx := (chL_mem.1 (List.mem_of_getElem? h)).1
    have hl := chL_mono W (Nat.le_of_lt hx)
    exact ⟨_, List.getElem?_eq_getElem (by omega), chL_below (Nat.le_of_lt hx) hi (List.getElem?_eq_getElem (by omega))⟩
  mono h1 h2 := chL_mono W (Nat.le_of_lt (chL_sorted rows (Nat.lt_succ_self _) h1 h2))
  hit h hk := filter_at h hk
  next h := filter_take h
  start := by simp
  done := by rw [List.take_of_length_le (Nat.le_refl _)]
  sz := ⟨chL_len _ _, Nat.le_trans (List.length_filter_le _ _) (chL_len _ _), chL_len _ _⟩
  fbl k := Nat.le_trans (List.length_filter_le _ _) (Nat.le_trans (List.length_take_le' _ _) (chL_len _ _))
theorem intL_get {l : List Nat} {k x : Nat} (h : l[k]? = some x) : (intL l)[k]? = some (x : Int) := by unfold intL; rw [List.getElem?_map, h]; rfl
set_option maxRecDepth 100000 in
set_option maxHeartbeats 8000000 in
theorem more_true (vars : Int) (vx : Value) (x : List X3) (gain : List Int) (t : X3) (bits : Int) (w : World) (hv : InR vars) (ht : XR t) (hb : InR bits) (hx : XsAt w vx x) (hxr : ∀ y ∈ x, XR y) (hg : gain.length = 8) (hgr : ∀ y ∈ gain, InR y) :
    Calls Try.prog 6 #[.int .i64 vars, vx, .agg (gain.map (Value.int .i64)).toArray, .agg #[.int .i64 t.a, .int .i64 t.b, .int .i64 t.c], .int .i64 bits] w fun e w' => e = .returned (.bool true) ∧ Below w.heap.size w w' := by
  obtain ⟨m, hG⟩ := goodP vars x gain
  obtain ⟨er, gn', hone, her⟩ := made_one vars x t gain
  have hmade := Lib.hid (fun W (hW : Below w.heap.size w W) => made_own vars vx x gain W hv (hx.below hW) hxr hg hgr)
  have hmade1 := Lib.hid (fun W v1 (h1 : XsAt W v1 [t]) => made_own vars v1 [t] gain W hv h1 (fun y hy => by simp at hy; subst hy; exact ht) hg hgr)
  rw [hone] at hmade1
  clear hone
  generalize madeP vars x gain = p at hG hmade hmade1 her
  obtain ⟨pv, rows, gn⟩ := p
  obtain rfl : pv = m := hG.vm
  simp only at her hmade1
  obtain ⟨g0, g1, g2, g3, g4, g5, g6, g7, hge⟩ := list8 hg
  have harg : (gain.map (Value.int .i64)).toArray = #[.int .i64 g0, .int .i64 g1, .int .i64 g2, .int .i64 g3, .int .i64 g4, .int .i64 g5, .int .i64 g6, .int .i64 g7] := by rw [hge]; rfl
  rw [harg] at hmade hmade1 ⊢
  have hm8 := hG.m8
  have hn8 := hG.n8
  simp only at hn8
  have HG := Lib.hid hG
  have HER := Lib.hid her
  obtain ⟨ta, tb, tc⟩ := t
  simp only at *
  clear hx hxr hg hgr hge harg hG her ht
  go_enter Try.func6, Try.ntmps6
  go_wp2_with fail
  refine (sane_true _).mono ?_
  rintro e w1 ⟨rfl, hBa⟩
  have hBw1 : Below w.heap.size w w1 := (((Below.refl _ _).alloc (Nat.le_refl _) _).alloc (by simp) _).trans (hBa.mono (by simp; omega))
  have kg : Blk w1 w.heap.size #[.int .i64 g0, .int .i64 g1, .int .i64 g2, .int .i64 g3, .int .i64 g4, .int .i64 g5, .int .i64 g6, .int .i64 g7] 23 := ((Blk.new w _ 23).alloc _).below hBa (by simp; omega)
  have kt : Blk w1 (w.heap.size + 1) #[.int .i64 ta, .int .i64 tb, .int .i64 tc] 59 := (Blk.newAt _ _ _ (by simp)).below hBa (by simp)
  have i0 := kg.cell 0
  have i1 := kg.cell 1
  have i2 := kg.cell 2
  have i3 := kg.cell 3
  have i4 := kg.cell 4
  have i5 := kg.cell 5
  have i6 := kg.cell 6
  have i7 := kg.cell 7
  simp only [List.getElem?_toArray, List.getElem?_cons_succ, List.getElem?_cons_zero] at i0 i1 i2 i3 i4 i5 i6 i7
  have lw1 := kg.lt
  go_wp2_with fail
  refine (hmade.out w1 hBw1).mono ?_
  rintro e w2 ⟨oB, vk, vg, rfl, hO, -, hB2⟩
  obtain ⟨cs, ho1, ho2⟩ := hO.own
  obtain ⟨vr', vg', e, hvr, hvg⟩ := hO.prog
  cases e
  simp only at hvr hvg
  obtain ⟨ra, rc, rfl, hr1, hr2⟩ := (show SlicesLen vk rows.length from hvr.len)
  obtain ⟨ga, gc, rfl, -, -⟩ := hvg.len
  unfold maxLen at hr2
  have hBw2 := hBw1.trans (hB2.mono hBw1.size)
  replace kg := kg.below hB2 kg.lt
  replace kt := kt.below hB2 kt.lt
  clear hO hB2 hBa hBw1 i0 i1 i2 i3 i4 i5 i6 i7 hmade lw1
  have kp := Blk.new w2 #[.int .i64 m, .slice ra rows.length rc, .slice ga gn.length gc] 29
  have hA2 : Below w2.heap.size w2 (w2.alloc (.cells #[.int .i64 m, .slice ra rows.length rc, .slice ga gn.length gc] 29)) := (Below.refl _ _).alloc (Nat.le_refl _) _
  have i0 := kg.cell 0
  have i1 := kg.cell 1
  have i2 := kg.cell 2
  have i3 := kg.cell 3
  have i4 := kg.cell 4
  have i5 := kg.cell 5
  have i6 := kg.cell 6
  have i7 := kg.cell 7
  have j0 := kt.cell 0
  have j1 := kt.cell 1
  have j2 := kt.cell 2
  simp only [List.getElem?_toArray, List.getElem?_cons_succ, List.getElem?_cons_zero] at i0 i1 i2 i3 i4 i5 i6 i7 j0 j1 j2
  have lw1 := kg.lt
  have lw2 := kt.lt
  go_wp2_with fail
  have kx := Blk.newAt (w2.alloc (.cells #[.int .i64 m, .slice ra rows.length rc, .slice ga gn.length gc] 29)) #[.int .i64 ta, .int .i64 tb, .int .i64 tc] 59 (n := w2.heap.size + 1) (by simp)
  refine (hmade1.out _ _ (xs_blk kx)).mono ?_
  rintro e w3 ⟨oB3, vk3, vg3, rfl, hO3, -, hB3⟩
  obtain ⟨cs3, ho3, hf3⟩ := hO3.own
  obtain ⟨ds, rest, rfl, -, ⟨vc, rfl, hvc⟩, hrest⟩ := hf3
  obtain rfl : rest = [] := hrest
  obtain ⟨ea, ec, rfl, -, -⟩ := owned_len hvc
  obtain ⟨g3, c3, rfl, hg3⟩ : ∃ g3 c3, vk3 = .slice (some ⟨g3, 0, none⟩) 1 c3 ∧ g3 < w3.heap.size := by
    rcases ho3.2 with ⟨-, h0⟩ | ⟨g, cap, cur, e, h1, h2, -⟩
    · simp at h0
    · subst e; exact ⟨g, cap, rfl, (ho3.lt g rfl).2⟩
  have e0 := ho3.cells rfl 0 _ rfl
  have e1 := ho3.cells rfl 1 _ rfl
  have e2 := ho3.cells rfl 2 _ rfl
  have e3 := ho3.cells rfl 3 _ rfl
  have e4 := ho3.cells rfl 4 _ rfl
  have e5 := ho3.cells rfl 5 _ rfl
  simp only [add_zero_off] at e0 e1 e2 e3 e4 e5
  have hX : Below w2.heap.size w2 w3 := (hA2.alloc (by simp) _).trans (hB3.mono (by simp; omega))
  have kp3 : Blk w3 w2.heap.size #[.int .i64 m, .slice ra rows.length rc, .slice ga gn.length gc] 29 := (kp.alloc (.cells #[.int .i64 ta, .int .i64 tb, .int .i64 tc] 59)).below hB3 (by simp; omega)
  have p0 := kp3.cell 0
  have p1 := kp3.cell 1
  have p2 := kp3.cell 2
  simp only [List.getElem?_toArray, List.getElem?_cons_succ, List.getElem?_cons_zero] at p0 p1 p2
  have lp3 := kp3.lt
  clear i0 i1 i2 i3 i4 i5 i6 i7 j0 j1 j2 kx hB3 hO3 kp hA2 hmade1
  have hfd : ∀ w : World, (Instr.field 29 (.agg #[.int .i64 m, .slice (some ⟨g3, 0, none⟩) 1 c3, vg3]) 1).run Try.prog w = .ok (.slice (some ⟨g3, 0, none⟩) 1 c3) w := fun _ => by kernel_rfl
  go_upto_region 7 with fail
  go_cut [] from 48 to 55 (fun wx => ∃ vq cs', Blk wx (w3.heap.size + 1) #[.int .i64 m, vq, .slice ga gn.length gc] 29 ∧ wx.ownsRow (w3.heap.size + 2) 26 6 vq (rows.length + 1) cs' ∧ FlatC 6 RowO wx cs' (rows ++ [er]) ∧ Blk wx w2.heap.size #[.int .i64 m, .slice ra rows.length rc, .slice ga gn.length gc] 29 ∧ Blk wx w3.heap.size #[.int .i64 er.kind, .int .i64 er.a, .int .i64 er.b, .int .i64 er.at_, .slice ea er.coef.length ec, .int .i64 er.most] 26 ∧ Below w3.heap.size w3 wx ∧ w3.heap.size + 2 ≤ wx.heap.size)
  case first =>
    have kq : Blk ((w3.alloc (.cells #[.int .i64 er.kind, .int .i64 er.a, .int .i64 er.b, .int .i64 er.at_, .slice ea er.coef.length ec, .int .i64 er.most] 26)).alloc (.cells #[.int .i64 m, .slice ra rows.length rc, .slice ga gn.length gc] 29)) (w3.heap.size + 1) #[.int .i64 m, .slice ra rows.length rc, .slice ga gn.length gc] 29 := Blk.newAt _ _ _ (by simp)
    have ke : Blk ((w3.alloc (.cells #[.int .i64 er.kind, .int .i64 er.a, .int .i64 er.b, .int .i64 er.at_, .slice ea er.coef.length ec, .int .i64 er.most] 26)).alloc (.cells #[.int .i64 m, .slice ra rows.length rc, .slice ga gn.length gc] 29)) w3.heap.size #[.int .i64 er.kind, .int .i64 er.a, .int .i64 er.b, .int .i64 er.at_, .slice ea er.coef.length ec, .int .i64 er.most] 26 := (Blk.new _ _ _).alloc _
    have kp : Blk ((w3.alloc (.cells #[.int .i64 er.kind, .int .i64 er.a, .int .i64 er.b, .int .i64 er.at_, .slice ea er.coef.length ec, .int .i64 er.most] 26)).alloc (.cells #[.int .i64 m, .slice ra rows.length rc, .slice ga gn.length gc] 29)) w2.heap.size #[.int .i64 m, .slice ra rows.length rc, .slice ga gn.length gc] 29 := (kp3.alloc _).alloc _
    have hV : Below w2.heap.size w2 ((w3.alloc (.cells #[.int .i64 er.kind, .int .i64 er.a, .int .i64 er.b, .int .i64 er.at_, .slice ea er.coef.length ec, .int .i64 er.most] 26)).alloc (.cells #[.int .i64 m, .slice ra rows.length rc, .slice ga gn.length gc] 29)) := (hX.alloc (by omega) _).alloc (by simp; omega) _
    have hV3 : Below w3.heap.size w3 ((w3.alloc (.cells #[.int .i64 er.kind, .int .i64 er.a, .int .i64 er.b, .int .i64 er.at_, .slice ea er.coef.length ec, .int .i64 er.most] 26)).alloc (.cells #[.int .i64 m, .slice ra rows.length rc, .slice ga gn.length gc] 29)) := ((Below.refl _ _).alloc (Nat.le_refl _) _).alloc (by simp) _
    have hVs : ((w3.alloc (.cells #[.int .i64 er.kind, .int .i64 er.a, .int .i64 er.b, .int .i64 er.at_, .slice ea er.coef.length ec, .int .i64 er.most] 26)).alloc (.cells #[.int .i64 m, .slice ra rows.length rc, .slice ga gn.length gc] 29)).heap.size = w3.heap.size + 2 := by simp
    generalize (w3.alloc (.cells #[.int .i64 er.kind, .int .i64 er.a, .int .i64 er.b, .int .i64 er.at_, .slice ea er.coef.length ec, .int .i64 er.most] 26)).alloc (.cells #[.int .i64 m, .slice ra rows.length rc, .slice ga gn.length gc] 29) = V at kq ke kp hV hV3 hVs ⊢
    clear p0 p1 p2 e0 e1 e2 e3 e4 e5 hfd
    have c1 := kp.cell 1
    have f1 := kq.frozen 1
    have d0 := ke.cell 0
    have d1 := ke.cell 1
    have d2 := ke.cell 2
    have d3 := ke.cell 3
    have d4 := ke.cell 4
    have d5 := ke.cell 5
    simp only [List.getElem?_toArray, List.getElem?_cons_succ, List.getElem?_cons_zero] at c1 d0 d1 d2 d3 d4 d5
    have lv : w2.heap.size < V.heap.size := kp.lt
    have lv3 : w3.heap.size < V.heap.size := ke.lt
    have HVS := Lib.hid hVs
    have HKQ := Lib.hid kq
    have HKP := Lib.hid kp
    have HKE := Lib.hid ke
    have HNE : Hid ((⟨w3.heap.size + 1, 1, none⟩ : Addr) ≠ ⟨w2.heap.size, 1, none⟩) := fun e => by have := congrArg Addr.block e; simp only at this; omega
    have HO1 : Hid (∀ u ∈ ([.int .i64 er.kind, .int .i64 er.a, .int .i64 er.b, .int .i64 er.at_, .slice ea er.coef.length ec, .int .i64 er.most] : List Value), u.oneCell' = true) := fun u hu => by simp at hu; rcases hu with rfl | rfl | rfl | rfl | rfl | rfl <;> rfl
    have HFL : Hid (FlatC 6 RowO w3 (cs ++ [.int .i64 er.kind, .int .i64 er.a, .int .i64 er.b, .int .i64 er.at_, .slice ea er.coef.length ec, .int .i64 er.most]) (rows ++ [er])) := FlatC.app (ho2.imp (fun _ _ h => h.t (T3.of_below hX))) ⟨_, [], (List.append_nil _).symm, rfl, ⟨_, rfl, hvc⟩, rfl⟩
    cases ra with
    | none =>
      obtain rfl : rows = [] := hvr.none
      obtain rfl : rc = 0 := by
        rcases ho1.2 with ⟨e, -⟩ | ⟨g, cap, cur, e, -⟩
        · cases e; rfl
        · cases e
      obtain rfl : cs = [] := ho2
      simp only [List.length_nil, List.nil_append] at c1 HKQ HKP HFL ⊢
      have HR := Lib.hid (fun W (hW : Below (w3.heap.size + 2) V W) => show W.cell? ⟨w2.heap.size, 1, none⟩ = some (.slice none 0 0) ∧ W.cell? ⟨w3.heap.size, 0, none⟩ = some (.int .i64 er.kind) ∧ W.cell? ⟨w3.heap.size, 1, none⟩ = some (.int .i64 er.a) ∧ W.cell? ⟨w3.heap.size, 2, none⟩ = some (.int .i64 er.b) ∧ W.cell? ⟨w3.heap.size, 3, none⟩ = some (.int .i64 er.at_) ∧ W.cell? ⟨w3.heap.size, 4, none⟩ = some (.slice ea er.coef.length ec) ∧ W.cell? ⟨w3.heap.size, 5, none⟩ = some (.int .i64 er.most) from
        ⟨(hW.cell (by show w2.heap.size < _; omega)).trans c1, (hW.cell (by show w3.heap.size < _; omega)).trans d0, (hW.cell (by show w3.heap.size < _; omega)).trans d1, (hW.cell (by show w3.heap.size < _; omega)).trans d2, (hW.cell (by show w3.heap.size < _; omega)).trans d3, (hW.cell (by show w3.heap.size < _; omega)).trans d4, (hW.cell (by show w3.heap.size < _; omega)).trans d5⟩)
      clear hVs kq kp ke
      go_region_held3 (fun w' => w'.cell? ⟨w2.heap.size, 1, none⟩ = some (.slice none 0 0) ∧ w'.cell? ⟨w3.heap.size, 0, none⟩ = some (.int .i64 er.kind) ∧ w'.cell? ⟨w3.heap.size, 1, none⟩ = some (.int .i64 er.a) ∧ w'.cell? ⟨w3.heap.size, 2, none⟩ = some (.int .i64 er.b) ∧ w'.cell? ⟨w3.heap.size, 3, none⟩ = some (.int .i64 er.at_) ∧ w'.cell? ⟨w3.heap.size, 4, none⟩ = some (.slice ea er.coef.length ec) ∧ w'.cell? ⟨w3.heap.size, 5, none⟩ = some (.int .i64 er.most))
        (first | exact ⟨c1, d0, d1, d2, d3, d4, d5⟩ | exact ⟨(World.cell?_setCell_other _ _ _ _ HNE.out).trans (HR.out _ hB12).1, (World.cell?_setCell_other _ _ _ _ (by simp)).trans (HR.out _ hB12).2.1, (World.cell?_setCell_other _ _ _ _ (by simp)).trans (HR.out _ hB12).2.2.1, (World.cell?_setCell_other _ _ _ _ (by simp)).trans (HR.out _ hB12).2.2.2.1, (World.cell?_setCell_other _ _ _ _ (by simp)).trans (HR.out _ hB12).2.2.2.2.1, (World.cell?_setCell_other _ _ _ _ (by simp)).trans (HR.out _ hB12).2.2.2.2.2.1, (World.cell?_setCell_other _ _ _ _ (by simp)).trans (HR.out _ hB12).2.2.2.2.2.2⟩ | exact HR.out _ hB12 | exact HR.out _ (hB1.trans (((Below.refl _ _).drew).alloc hs1 _)) | exact HR.out _ (hB1.trans (((Below.refl _ _).alloc hs1 _).drew)) | exact HR.out _ (hB1.trans (((Below.refl _ _).alloc hs1 _))) | exact HR.out _ hB1 | go_keep)
        (first | (refine step_app (v := .slice (some ⟨w3.heap.size + 2, 0, none⟩) 0 0) (n := 0) (m := 0) (c := 0) (xs := []) (xa := none) (news := []) rfl (.tmp 48) (.tmp 50) rfl (w3.heap.size + 2) (own_empty (B := w3.heap.size + 2) (Blk.newAt V #[] 26 HVS.out.symm) (by omega)) (by simp [Act.eval, HVS.out]) (by simp [Act.eval]) rfl (fun q h => by cases h) (fun _ => ⟨rfl, rfl⟩) (fun u hu => by cases hu) (by omega) (by simp [HVS.out]) ?_; intro v' w' hown' hgrow; have hB1 : Below (w3.heap.size + 2) V w' := (by first | exact ((Below.refl _ V).alloc (by have := HVS.out; omega) _).drew.grown hgrow (by show _ ≤ (V.alloc _).heap.size; simp [HVS.out]) (fun j hj => by cases hj; exact Nat.le_refl _) | exact ((Below.refl _ V).drew.alloc (by show _ ≤ V.heap.size; have := HVS.out; omega) _).grown hgrow (by simp; show _ ≤ V.heap.size + 1; have := HVS.out; omega) (fun j hj => by cases hj; exact Nat.le_refl _)); have hs1 : w3.heap.size + 2 ≤ w'.heap.size := (by have := hB1.size; have := HVS.out; omega); obtain ⟨c1', d0', d1', d2', d3', d4', d5'⟩ := HR.out _ hB1) | (refine step_app (v := v') (n := 0) (m := 1) (c := 1) (xa := some ⟨w'.heap.size, 0, none⟩) (news := [.int .i64 er.kind, .int .i64 er.a, .int .i64 er.b, .int .i64 er.at_, .slice ea er.coef.length ec, .int .i64 er.most]) rfl (.tmp 51) (.tmp 53) rfl (w3.heap.size + 2) (owned_below hown' ((Below.refl _ _).alloc (Nat.le_refl _) _)) (by simp [Act.eval]) (by simp [Act.eval]) rfl (fun q hq j u hj => by cases hq; rw [add_zero_off]; exact ((Blk.new w' _ 26).cell j).trans (by simpa using hj)) (fun h => by cases h) HO1.out (by omega) (by simp; omega) ?_; intro v2 w4 hown2 hgrow2; have hB2 : Below (w3.heap.size + 2) w' w4 := ((Below.refl _ w').alloc hs1 _).grown hgrow2 (by simp; omega) (fun j hj => (hown'.lt j hj).1); have hB12 := hB1.trans hB2; have kq4 : Blk w4 (w3.heap.size + 1) #[.int .i64 m, .slice none 0 0, .slice ga gn.length gc] 29 := (hB12.block _ (by omega)).trans HKQ.out; have kp4 : Blk w4 w2.heap.size #[.int .i64 m, .slice none 0 0, .slice ga gn.length gc] 29 := (hB12.block _ (by omega)).trans HKP.out; have ke4 : Blk w4 w3.heap.size #[.int .i64 er.kind, .int .i64 er.a, .int .i64 er.b, .int .i64 er.at_, .slice ea er.coef.length ec, .int .i64 er.most] 26 := (hB12.block _ (by omega)).trans HKE.out; have y1 := kq4.cell 1; have z1 := kq4.frozen 1; simp only [List.getElem?_toArray, List.getElem?_cons_succ, List.getElem?_cons_zero] at y1; obtain ⟨na, nc, rfl, hn1, hn2⟩ := owned_len hown2) | (refine step_app (w := ((V.alloc (.cells #[] 26)).alloc (.cells #[.int .i64 er.kind, .int .i64 er.a, .int .i64 er.b, .int .i64 er.at_, .slice ea er.coef.length ec, .int .i64 er.most] 26)).drew) (v := .slice (some ⟨w3.heap.size + 2, 0, none⟩) 0 0) (n := 0) (m := 0) (c := 0) (xs := []) (xa := none) (news := []) rfl (.tmp 48) (.tmp 50) rfl (w3.heap.size + 2) (own_empty (B := w3.heap.size + 2) ((Blk.newAt V #[] 26 HVS.out.symm).alloc (.cells #[.int .i64 er.kind, .int .i64 er.a, .int .i64 er.b, .int .i64 er.at_, .slice ea er.coef.length ec, .int .i64 er.most] 26)) (by omega)) (by simp [Act.eval, HVS.out]) (by simp [Act.eval]) rfl (fun q h => by cases h) (fun _ => ⟨rfl, rfl⟩) (fun u hu => by cases hu) (by omega) (by show _ ≤ (World.alloc _ _).heap.size; simp [HVS.out] <;> omega) ?_; intro v' w' hown' hgrow; have hB1 : Below (w3.heap.size + 2) V w' := (((Below.refl (w3.heap.size + 2) V).alloc (by have := HVS.out; omega) (.cells #[] 26)).alloc (by have := HVS.out; simp <;> omega) (.cells #[.int .i64 er.kind, .int .i64 er.a, .int .i64 er.b, .int .i64 er.at_, .slice ea er.coef.length ec, .int .i64 er.most] 26)).drew.grown hgrow (by show _ ≤ (World.alloc _ _).heap.size; have := HVS.out; simp <;> omega) (fun j hj => by cases hj; exact Nat.le_refl _); have hs1 : w3.heap.size + 2 ≤ w'.heap.size := (by have := hB1.size; have := HVS.out; omega); have hnb : Blk w' (V.heap.size + 1) #[.int .i64 er.kind, .int .i64 er.a, .int .i64 er.b, .int .i64 er.at_, .slice ea er.coef.length ec, .int .i64 er.most] 26 := (hgrow.block (V.heap.size + 1) (by show _ < (World.alloc _ _).heap.size; simp) (fun e2 => by have e3 := e2; simp [Value.ownBlock] at e3; have := HVS.out; omega)).trans (Blk.newAt (V.alloc (.cells #[] 26)) _ 26 (by simp)); obtain ⟨c1', d0', d1', d2', d3', d4', d5'⟩ := HR.out _ hB1) | (refine step_app (v := v') (n := 0) (m := 1) (c := 1) (xa := some ⟨V.heap.size + 1, 0, none⟩) (news := [.int .i64 er.kind, .int .i64 er.a, .int .i64 er.b, .int .i64 er.at_, .slice ea er.coef.length ec, .int .i64 er.most]) rfl (.tmp 51) (.tmp 53) rfl (w3.heap.size + 2) hown' (by simp [Act.eval]) (by simp [Act.eval]) rfl (fun q hq j u hj => by cases hq; rw [add_zero_off]; exact (hnb.cell j).trans (by simpa using hj)) (fun h => by cases h) HO1.out (by omega) hs1 ?_; intro v2 w4 hown2 hgrow2; have hB2 : Below (w3.heap.size + 2) w' w4 := (Below.refl _ w').grown hgrow2 hs1 (fun j hj => (hown'.lt j hj).1); have hB12 := hB1.trans hB2; have kq4 : Blk w4 (w3.heap.size + 1) #[.int .i64 m, .slice none 0 0, .slice ga gn.length gc] 29 := (hB12.block _ (by omega)).trans HKQ.out; have kp4 : Blk w4 w2.heap.size #[.int .i64 m, .slice none 0 0, .slice ga gn.length gc] 29 := (hB12.block _ (by omega)).trans HKP.out; have ke4 : Blk w4 w3.heap.size #[.int .i64 er.kind, .int .i64 er.a, .int .i64 er.b, .int .i64 er.at_, .slice ea er.coef.length ec, .int .i64 er.most] 26 := (hB12.block _ (by omega)).trans HKE.out; have y1 := kq4.cell 1; have z1 := kq4.frozen 1; simp only [List.getElem?_toArray, List.getElem?_cons_succ, List.getElem?_cons_zero] at y1; obtain ⟨na, nc, rfl, hn1, hn2⟩ := owned_len hown2) | (refine step_app (w := ((V.alloc (.cells #[.int .i64 er.kind, .int .i64 er.a, .int .i64 er.b, .int .i64 er.at_, .slice ea er.coef.length ec, .int .i64 er.most] 26)).alloc (.cells #[] 26)).drew) (v := .slice (some ⟨w3.heap.size + 3, 0, none⟩) 0 0) (n := 0) (m := 0) (c := 0) (xs := []) (xa := none) (news := []) rfl (.tmp 48) (.tmp 50) rfl (w3.heap.size + 2) (own_empty (B := w3.heap.size + 3) (Blk.newAt (V.alloc (.cells #[.int .i64 er.kind, .int .i64 er.a, .int .i64 er.b, .int .i64 er.at_, .slice ea er.coef.length ec, .int .i64 er.most] 26)) #[] 26 (by simp [HVS.out])) (by omega)) (by simp [Act.eval, HVS.out]) (by simp [Act.eval]) rfl (fun q h => by cases h) (fun _ => ⟨rfl, rfl⟩) (fun u hu => by cases hu) (by omega) (by show _ ≤ (World.alloc _ _).heap.size; simp [HVS.out] <;> omega) ?_; intro v' w' hown' hgrow; have hB1 : Below (w3.heap.size + 2) V w' := (((Below.refl (w3.heap.size + 2) V).alloc (by have := HVS.out; omega) (.cells #[.int .i64 er.kind, .int .i64 er.a, .int .i64 er.b, .int .i64 er.at_, .slice ea er.coef.length ec, .int .i64 er.most] 26)).alloc (by have := HVS.out; simp <;> omega) (.cells #[] 26)).drew.grown hgrow (by show _ ≤ (World.alloc _ _).heap.size; have := HVS.out; simp <;> omega) (fun j hj => by cases hj; exact Nat.le_succ _); have hs1 : w3.heap.size + 2 ≤ w'.heap.size := (by have := hB1.size; have := HVS.out; omega); have hnb : Blk w' V.heap.size #[.int .i64 er.kind, .int .i64 er.a, .int .i64 er.b, .int .i64 er.at_, .slice ea er.coef.length ec, .int .i64 er.most] 26 := (hgrow.block V.heap.size (by show _ < (World.alloc _ _).heap.size; simp <;> omega) (fun e2 => by have e3 := e2; simp [Value.ownBlock] at e3; have := HVS.out; omega)).trans ((Blk.new V #[.int .i64 er.kind, .int .i64 er.a, .int .i64 er.b, .int .i64 er.at_, .slice ea er.coef.length ec, .int .i64 er.most] 26).alloc (.cells #[] 26)); obtain ⟨c1', d0', d1', d2', d3', d4', d5'⟩ := HR.out _ hB1) | (refine step_app (v := v') (n := 0) (m := 1) (c := 1) (xa := some ⟨V.heap.size, 0, none⟩) (news := [.int .i64 er.kind, .int .i64 er.a, .int .i64 er.b, .int .i64 er.at_, .slice ea er.coef.length ec, .int .i64 er.most]) rfl (.tmp 51) (.tmp 53) rfl (w3.heap.size + 2) hown' (by simp [Act.eval]) (by simp [Act.eval]) rfl (fun q hq j u hj => by cases hq; rw [add_zero_off]; exact (hnb.cell j).trans (by simpa using hj)) (fun h => by cases h) HO1.out (by omega) hs1 ?_; intro v2 w4 hown2 hgrow2; have hB2 : Below (w3.heap.size + 2) w' w4 := (Below.refl _ w').grown hgrow2 hs1 (fun j hj => (hown'.lt j hj).1); have hB12 := hB1.trans hB2; have kq4 : Blk w4 (w3.heap.size + 1) #[.int .i64 m, .slice none 0 0, .slice ga gn.length gc] 29 := (hB12.block _ (by omega)).trans HKQ.out; have kp4 : Blk w4 w2.heap.size #[.int .i64 m, .slice none 0 0, .slice ga gn.length gc] 29 := (hB12.block _ (by omega)).trans HKP.out; have ke4 : Blk w4 w3.heap.size #[.int .i64 er.kind, .int .i64 er.a, .int .i64 er.b, .int .i64 er.at_, .slice ea er.coef.length ec, .int .i64 er.most] 26 := (hB12.block _ (by omega)).trans HKE.out; have y1 := kq4.cell 1; have z1 := kq4.frozen 1; simp only [List.getElem?_toArray, List.getElem?_cons_succ, List.getElem?_cons_zero] at y1; obtain ⟨na, nc, rfl, hn1, hn2⟩ := owned_len hown2))
      all_goals (
        go_wp2_with fail
        go_meet
        have hBf3 : Below w3.heap.size w3 (w4.setCell ⟨w3.heap.size + 1, 1, none⟩ (.slice na (0 + 1) nc)) := (hV3.trans (hB12.mono (by omega))).setCell (p := ⟨w3.heap.size + 1, 1, none⟩) (Nat.le_succ w3.heap.size) _
        exact ⟨_, _, kq4.set 1 _, ownsRow_setCell_below (a := ⟨w3.heap.size + 1, 1, none⟩) hown2 (by simp) _, HFL.out.imp (fun _ _ h => h.t (T3.of_below hBf3)), kp4.other _ (by first | (simp; done) | (simp; omega)), ke4.other _ (by simp), hBf3, by have := hB12.size; have := HVS.out; simp; omega⟩)
    | some p =>
      obtain ⟨g, rfl⟩ : ∃ g, p = ⟨g, 0, none⟩ := by
        rcases ho1.2 with ⟨e, -⟩ | ⟨g, cap, cur, e, -⟩
        · cases e
        · cases e; exact ⟨g, rfl⟩
      have hcl : cs.length = rows.length * 6 := ho2.len
      have hc0 : ∀ W, Below w2.heap.size w2 W → ∀ q, some (⟨g, 0, none⟩ : Addr) = some q → ∀ j u, cs[j]? = some u → W.cell? (q.add j) = some u := fun W hW q hq j u hj => by
        cases hq
        have := ho1.cells rfl j u hj
        exact (hW.cell (World.block_lt_of_cell? _ _ this)).trans this
      have HC := Lib.hid (And.intro hcl (And.intro hc0 (flat_one ho2)))
      have HR := Lib.hid (fun W (hW : Below (w3.heap.size + 2) V W) => show W.cell? ⟨w2.heap.size, 1, none⟩ = some (.slice (some ⟨g, 0, none⟩) rows.length rc) ∧ W.cell? ⟨w3.heap.size, 0, none⟩ = some (.int .i64 er.kind) ∧ W.cell? ⟨w3.heap.size, 1, none⟩ = some (.int .i64 er.a) ∧ W.cell? ⟨w3.heap.size, 2, none⟩ = some (.int .i64 er.b) ∧ W.cell? ⟨w3.heap.size, 3, none⟩ = some (.int .i64 er.at_) ∧ W.cell? ⟨w3.heap.size, 4, none⟩ = some (.slice ea er.coef.length ec) ∧ W.cell? ⟨w3.heap.size, 5, none⟩ = some (.int .i64 er.most) from
        ⟨(hW.cell (by show w2.heap.size < _; omega)).trans c1, (hW.cell (by show w3.heap.size < _; omega)).trans d0, (hW.cell (by show w3.heap.size < _; omega)).trans d1, (hW.cell (by show w3.heap.size < _; omega)).trans d2, (hW.cell (by show w3.heap.size < _; omega)).trans d3, (hW.cell (by show w3.heap.size < _; omega)).trans d4, (hW.cell (by show w3.heap.size < _; omega)).trans d5⟩)
      clear hVs hcl hc0 kq kp ke
      go_region_held3 (fun w' => w'.cell? ⟨w2.heap.size, 1, none⟩ = some (.slice (some ⟨g, 0, none⟩) rows.length rc) ∧ w'.cell? ⟨w3.heap.size, 0, none⟩ = some (.int .i64 er.kind) ∧ w'.cell? ⟨w3.heap.size, 1, none⟩ = some (.int .i64 er.a) ∧ w'.cell? ⟨w3.heap.size, 2, none⟩ = some (.int .i64 er.b) ∧ w'.cell? ⟨w3.heap.size, 3, none⟩ = some (.int .i64 er.at_) ∧ w'.cell? ⟨w3.heap.size, 4, none⟩ = some (.slice ea er.coef.length ec) ∧ w'.cell? ⟨w3.heap.size, 5, none⟩ = some (.int .i64 er.most))
        (first | exact ⟨c1, d0, d1, d2, d3, d4, d5⟩ | exact ⟨(World.cell?_setCell_other _ _ _ _ HNE.out).trans (HR.out _ hB12).1, (World.cell?_setCell_other _ _ _ _ (by simp)).trans (HR.out _ hB12).2.1, (World.cell?_setCell_other _ _ _ _ (by simp)).trans (HR.out _ hB12).2.2.1, (World.cell?_setCell_other _ _ _ _ (by simp)).trans (HR.out _ hB12).2.2.2.1, (World.cell?_setCell_other _ _ _ _ (by simp)).trans (HR.out _ hB12).2.2.2.2.1, (World.cell?_setCell_other _ _ _ _ (by simp)).trans (HR.out _ hB12).2.2.2.2.2.1, (World.cell?_setCell_other _ _ _ _ (by simp)).trans (HR.out _ hB12).2.2.2.2.2.2⟩ | exact HR.out _ hB12 | exact HR.out _ (hB1.trans (((Below.refl _ _).drew).alloc hs1 _)) | exact HR.out _ (hB1.trans (((Below.refl _ _).alloc hs1 _).drew)) | exact HR.out _ (hB1.trans (((Below.refl _ _).alloc hs1 _))) | exact HR.out _ hB1 | go_keep)
        (first | (refine step_app (v := .slice (some ⟨w3.heap.size + 2, 0, none⟩) 0 0) (n := 0) (m := rows.length) (c := rc) (xs := []) (xa := some ⟨g, 0, none⟩) (news := cs) rfl (.tmp 48) (.tmp 50) rfl (w3.heap.size + 2) (own_empty (B := w3.heap.size + 2) (Blk.newAt V #[] 26 HVS.out.symm) (by omega)) (by simp [Act.eval, HVS.out]) (by simp [Act.eval]) HC.out.1 (HC.out.2.1 _ (by first | exact (hV.alloc (by omega) _).drew | exact (hV.drew).alloc (by show _ ≤ V.heap.size; omega) _)) (fun h => by cases h) HC.out.2.2 (by omega) (by simp [HVS.out]) ?_; intro v' w' hown' hgrow; rw [show 0 + rows.length = rows.length from Nat.zero_add _, List.nil_append] at hown'; have hB1 : Below (w3.heap.size + 2) V w' := (by first | exact ((Below.refl _ V).alloc (by have := HVS.out; omega) _).drew.grown hgrow (by show _ ≤ (V.alloc _).heap.size; simp [HVS.out]) (fun j hj => by cases hj; exact Nat.le_refl _) | exact ((Below.refl _ V).drew.alloc (by show _ ≤ V.heap.size; have := HVS.out; omega) _).grown hgrow (by simp; show _ ≤ V.heap.size + 1; have := HVS.out; omega) (fun j hj => by cases hj; exact Nat.le_refl _)); have hs1 : w3.heap.size + 2 ≤ w'.heap.size := (by have := hB1.size; have := HVS.out; omega); obtain ⟨c1', d0', d1', d2', d3', d4', d5'⟩ := HR.out _ hB1) | (refine step_app (v := v') (n := rows.length) (m := 1) (c := 1) (xa := some ⟨w'.heap.size, 0, none⟩) (news := [.int .i64 er.kind, .int .i64 er.a, .int .i64 er.b, .int .i64 er.at_, .slice ea er.coef.length ec, .int .i64 er.most]) rfl (.tmp 51) (.tmp 53) rfl (w3.heap.size + 2) (owned_below hown' ((Below.refl _ _).alloc (Nat.le_refl _) _)) (by simp [Act.eval]) (by simp [Act.eval]) rfl (fun q hq j u hj => by cases hq; rw [add_zero_off]; exact ((Blk.new w' _ 26).cell j).trans (by simpa using hj)) (fun h => by cases h) HO1.out (by omega) (by simp; omega) ?_; intro v2 w4 hown2 hgrow2; have hB2 : Below (w3.heap.size + 2) w' w4 := ((Below.refl _ w').alloc hs1 _).grown hgrow2 (by simp; omega) (fun j hj => (hown'.lt j hj).1); have hB12 := hB1.trans hB2; have kq4 : Blk w4 (w3.heap.size + 1) #[.int .i64 m, .slice (some ⟨g, 0, none⟩) rows.length rc, .slice ga gn.length gc] 29 := (hB12.block _ (by omega)).trans HKQ.out; have kp4 : Blk w4 w2.heap.size #[.int .i64 m, .slice (some ⟨g, 0, none⟩) rows.length rc, .slice ga gn.length gc] 29 := (hB12.block _ (by omega)).trans HKP.out; have ke4 : Blk w4 w3.heap.size #[.int .i64 er.kind, .int .i64 er.a, .int .i64 er.b, .int .i64 er.at_, .slice ea er.coef.length ec, .int .i64 er.most] 26 := (hB12.block _ (by omega)).trans HKE.out; have y1 := kq4.cell 1; have z1 := kq4.frozen 1; simp only [List.getElem?_toArray, List.getElem?_cons_succ, List.getElem?_cons_zero] at y1; obtain ⟨na, nc, rfl, hn1, hn2⟩ := owned_len hown2) | (refine step_app (w := ((V.alloc (.cells #[] 26)).alloc (.cells #[.int .i64 er.kind, .int .i64 er.a, .int .i64 er.b, .int .i64 er.at_, .slice ea er.coef.length ec, .int .i64 er.most] 26)).drew) (v := .slice (some ⟨w3.heap.size + 2, 0, none⟩) 0 0) (n := 0) (m := rows.length) (c := rc) (xs := []) (xa := some ⟨g, 0, none⟩) (news := cs) rfl (.tmp 48) (.tmp 50) rfl (w3.heap.size + 2) (own_empty (B := w3.heap.size + 2) ((Blk.newAt V #[] 26 HVS.out.symm).alloc (.cells #[.int .i64 er.kind, .int .i64 er.a, .int .i64 er.b, .int .i64 er.at_, .slice ea er.coef.length ec, .int .i64 er.most] 26)) (by omega)) (by simp [Act.eval, HVS.out]) (by simp [Act.eval]) HC.out.1 (HC.out.2.1 _ (((hV.alloc (by omega) _).alloc (by simp <;> omega) _).drew)) (fun h => by cases h) HC.out.2.2 (by omega) (by show _ ≤ (World.alloc _ _).heap.size; simp [HVS.out] <;> omega) ?_; intro v' w' hown' hgrow; rw [show 0 + rows.length = rows.length from Nat.zero_add _, List.nil_append] at hown'; have hB1 : Below (w3.heap.size + 2) V w' := (((Below.refl (w3.heap.size + 2) V).alloc (by have := HVS.out; omega) (.cells #[] 26)).alloc (by have := HVS.out; simp <;> omega) (.cells #[.int .i64 er.kind, .int .i64 er.a, .int .i64 er.b, .int .i64 er.at_, .slice ea er.coef.length ec, .int .i64 er.most] 26)).drew.grown hgrow (by show _ ≤ (World.alloc _ _).heap.size; have := HVS.out; simp <;> omega) (fun j hj => by cases hj; exact Nat.le_refl _); have hs1 : w3.heap.size + 2 ≤ w'.heap.size := (by have := hB1.size; have := HVS.out; omega); have hnb : Blk w' (V.heap.size + 1) #[.int .i64 er.kind, .int .i64 er.a, .int .i64 er.b, .int .i64 er.at_, .slice ea er.coef.length ec, .int .i64 er.most] 26 := (hgrow.block (V.heap.size + 1) (by show _ < (World.alloc _ _).heap.size; simp) (fun e2 => by have e3 := e2; simp [Value.ownBlock] at e3; have := HVS.out; omega)).trans (Blk.newAt (V.alloc (.cells #[] 26)) _ 26 (by simp)); obtain ⟨c1', d0', d1', d2', d3', d4', d5'⟩ := HR.out _ hB1) | (refine step_app (v := v') (n := rows.length) (m := 1) (c := 1) (xa := some ⟨V.heap.size + 1, 0, none⟩) (news := [.int .i64 er.kind, .int .i64 er.a, .int .i64 er.b, .int .i64 er.at_, .slice ea er.coef.length ec, .int .i64 er.most]) rfl (.tmp 51) (.tmp 53) rfl (w3.heap.size + 2) hown' (by simp [Act.eval]) (by simp [Act.eval]) rfl (fun q hq j u hj => by cases hq; rw [add_zero_off]; exact (hnb.cell j).trans (by simpa using hj)) (fun h => by cases h) HO1.out (by omega) hs1 ?_; intro v2 w4 hown2 hgrow2; have hB2 : Below (w3.heap.size + 2) w' w4 := (Below.refl _ w').grown hgrow2 hs1 (fun j hj => (hown'.lt j hj).1); have hB12 := hB1.trans hB2; have kq4 : Blk w4 (w3.heap.size + 1) #[.int .i64 m, .slice (some ⟨g, 0, none⟩) rows.length rc, .slice ga gn.length gc] 29 := (hB12.block _ (by omega)).trans HKQ.out; have kp4 : Blk w4 w2.heap.size #[.int .i64 m, .slice (some ⟨g, 0, none⟩) rows.length rc, .slice ga gn.length gc] 29 := (hB12.block _ (by omega)).trans HKP.out; have ke4 : Blk w4 w3.heap.size #[.int .i64 er.kind, .int .i64 er.a, .int .i64 er.b, .int .i64 er.at_, .slice ea er.coef.length ec, .int .i64 er.most] 26 := (hB12.block _ (by omega)).trans HKE.out; have y1 := kq4.cell 1; have z1 := kq4.frozen 1; simp only [List.getElem?_toArray, List.getElem?_cons_succ, List.getElem?_cons_zero] at y1; obtain ⟨na, nc, rfl, hn1, hn2⟩ := owned_len hown2) | (refine step_app (w := ((V.alloc (.cells #[.int .i64 er.kind, .int .i64 er.a, .int .i64 er.b, .int .i64 er.at_, .slice ea er.coef.length ec, .int .i64 er.most] 26)).alloc (.cells #[] 26)).drew) (v := .slice (some ⟨w3.heap.size + 3, 0, none⟩) 0 0) (n := 0) (m := rows.length) (c := rc) (xs := []) (xa := some ⟨g, 0, none⟩) (news := cs) rfl (.tmp 48) (.tmp 50) rfl (w3.heap.size + 2) (own_empty (B := w3.heap.size + 3) (Blk.newAt (V.alloc (.cells #[.int .i64 er.kind, .int .i64 er.a, .int .i64 er.b, .int .i64 er.at_, .slice ea er.coef.length ec, .int .i64 er.most] 26)) #[] 26 (by simp [HVS.out])) (by omega)) (by simp [Act.eval, HVS.out]) (by simp [Act.eval]) HC.out.1 (HC.out.2.1 _ (((hV.alloc (by omega) _).alloc (by simp; omega) _).drew)) (fun h => by cases h) HC.out.2.2 (by omega) (by show _ ≤ (World.alloc _ _).heap.size; simp [HVS.out] <;> omega) ?_; intro v' w' hown' hgrow; rw [show 0 + rows.length = rows.length from Nat.zero_add _, List.nil_append] at hown'; have hB1 : Below (w3.heap.size + 2) V w' := (((Below.refl (w3.heap.size + 2) V).alloc (by have := HVS.out; omega) (.cells #[.int .i64 er.kind, .int .i64 er.a, .int .i64 er.b, .int .i64 er.at_, .slice ea er.coef.length ec, .int .i64 er.most] 26)).alloc (by have := HVS.out; simp <;> omega) (.cells #[] 26)).drew.grown hgrow (by show _ ≤ (World.alloc _ _).heap.size; have := HVS.out; simp <;> omega) (fun j hj => by cases hj; exact Nat.le_succ _); have hs1 : w3.heap.size + 2 ≤ w'.heap.size := (by have := hB1.size; have := HVS.out; omega); have hnb : Blk w' V.heap.size #[.int .i64 er.kind, .int .i64 er.a, .int .i64 er.b, .int .i64 er.at_, .slice ea er.coef.length ec, .int .i64 er.most] 26 := (hgrow.block V.heap.size (by show _ < (World.alloc _ _).heap.size; simp <;> omega) (fun e2 => by have e3 := e2; simp [Value.ownBlock] at e3; have := HVS.out; omega)).trans ((Blk.new V #[.int .i64 er.kind, .int .i64 er.a, .int .i64 er.b, .int .i64 er.at_, .slice ea er.coef.length ec, .int .i64 er.most] 26).alloc (.cells #[] 26)); obtain ⟨c1', d0', d1', d2', d3', d4', d5'⟩ := HR.out _ hB1) | (refine step_app (v := v') (n := rows.length) (m := 1) (c := 1) (xa := some ⟨V.heap.size, 0, none⟩) (news := [.int .i64 er.kind, .int .i64 er.a, .int .i64 er.b, .int .i64 er.at_, .slice ea er.coef.length ec, .int .i64 er.most]) rfl (.tmp 51) (.tmp 53) rfl (w3.heap.size + 2) hown' (by simp [Act.eval]) (by simp [Act.eval]) rfl (fun q hq j u hj => by cases hq; rw [add_zero_off]; exact (hnb.cell j).trans (by simpa using hj)) (fun h => by cases h) HO1.out (by omega) hs1 ?_; intro v2 w4 hown2 hgrow2; have hB2 : Below (w3.heap.size + 2) w' w4 := (Below.refl _ w').grown hgrow2 hs1 (fun j hj => (hown'.lt j hj).1); have hB12 := hB1.trans hB2; have kq4 : Blk w4 (w3.heap.size + 1) #[.int .i64 m, .slice (some ⟨g, 0, none⟩) rows.length rc, .slice ga gn.length gc] 29 := (hB12.block _ (by omega)).trans HKQ.out; have kp4 : Blk w4 w2.heap.size #[.int .i64 m, .slice (some ⟨g, 0, none⟩) rows.length rc, .slice ga gn.length gc] 29 := (hB12.block _ (by omega)).trans HKP.out; have ke4 : Blk w4 w3.heap.size #[.int .i64 er.kind, .int .i64 er.a, .int .i64 er.b, .int .i64 er.at_, .slice ea er.coef.length ec, .int .i64 er.most] 26 := (hB12.block _ (by omega)).trans HKE.out; have y1 := kq4.cell 1; have z1 := kq4.frozen 1; simp only [List.getElem?_toArray, List.getElem?_cons_succ, List.getElem?_cons_zero] at y1; obtain ⟨na, nc, rfl, hn1, hn2⟩ := owned_len hown2))
      all_goals (
        go_wp2_with fail
        go_meet
        have hBf3 : Below w3.heap.size w3 (w4.setCell ⟨w3.heap.size + 1, 1, none⟩ (.slice na (rows.length + 1) nc)) := (hV3.trans (hB12.mono (by omega))).setCell (p := ⟨w3.heap.size + 1, 1, none⟩) (Nat.le_succ w3.heap.size) _
        exact ⟨_, _, kq4.set 1 _, ownsRow_setCell_below (a := ⟨w3.heap.size + 1, 1, none⟩) hown2 (by simp) _, HFL.out.imp (fun _ _ h => h.t (T3.of_below hBf3)), kp4.other _ (by first | (simp; done) | (simp; omega)), ke4.other _ (by simp), hBf3, by have := hB12.size; have := HVS.out; simp; omega⟩)
  case rest =>
    rename World => wx
    obtain ⟨vq, cs', kq, hoq, hfq, kp, ke, hBq3, hsz⟩ := hcut
    obtain ⟨qa, qc, rfl, hq1, hq2⟩ := owned_len hoq
    unfold maxLen at hq2
    have hBq := hX.trans (hBq3.mono hX.size)
    have hvq : RowsAt wx (.slice qa (rows.length + 1) qc) (rows ++ [er]) := by
      have h0 : RowsAt wx (.slice qa (rows ++ [er]).length qc) (rows ++ [er]) := flat_view (by rw [List.length_append]; exact hoq) (hfq.to (fun _ _ h => h.row))
      rw [List.length_append] at h0
      exact h0
    have hve : RowV wx (.agg #[.int .i64 er.kind, .int .i64 er.a, .int .i64 er.b, .int .i64 er.at_, .slice ea er.coef.length ec, .int .i64 er.most]) er := ⟨_, rfl, (show IntsAt wx (.slice ea er.coef.length ec) er.coef from (hvc.ints.below hBq3))⟩
    have hpv : ProgV wx (.agg #[.int .i64 m, .slice ra rows.length rc, .slice ga gn.length gc]) ⟨m, rows, gn⟩ := ⟨_, _, rfl, hvr.below hBq, hvg.below hBq⟩
    have hqv : ProgV wx (.agg #[.int .i64 m, .slice qa (rows.length + 1) qc, .slice ga gn.length gc]) ⟨m, rows ++ [er], gn⟩ := ⟨_, _, rfl, hvq, hvg.below hBq⟩
    have hBwx := hBw2.trans (hBq.mono hBw2.size)
    have hpb := pickI_bd bits (n := 256) (by omega)
    have hkb := Lib.hid (fun W => pick18 bits 256 W hb (by omega) (by omega))
    obtain ⟨B, hB⟩ := Int.eq_ofNat_of_zero_le hpb.1
    rw [hB] at hkb hpb
    have HLAW := Lib.hid (more_law m rows gn er B HG.out.val hn8 HER.out)
    have HV := Lib.hid (And.intro hve (And.intro hpv hqv))
    have lkp := kp.lt
    have lkq := kq.lt
    have lke := ke.lt
    clear hve hpv hqv hvq hoq hfq hBq3 hBq hvr hvg ho1 ho2 hvc ho3 hX kp3 hg3 hB hv hb kg kt e0 e1 e2 e3 e4 e5 p0 p1 p2 hfd HG HER
    go_wp2
    go_loopw [15, 16] (fun u15 u16 wr => ∃ k : Nat, k ≤ rows.length ∧ u16 = .int .i64 k ∧ wr.ownsRow wx.heap.size 3 1 u15 (outK B k).length ((outK B k).map (Value.int .i64)) ∧ Below wx.heap.size wx wr) (fun _ u16 _ => (rows.length - intOf u16).toNat)
    case atStart => exact ⟨0, by omega, rfl, World.ownsRow_nil _ _ _ _, Below.refl _ _⟩
    case round =>
      obtain ⟨k, hk, rfl, hown, hBk⟩ := hrel
      rename World => Wk
      have kpk := kp.below hBk lkp
      have i1 := kpk.cell 1
      simp only [List.getElem?_toArray, List.getElem?_cons_succ, List.getElem?_cons_zero] at i1
      by_cases hkl : k < rows.length
      · have hkli : (k : Int) < (rows.length : Int) := by omega
        have hk64 : (k : Int) < 64 := by omega
        have hol := outK_len B k
        have HS : outK B (k + 1) = outK B k ++ if bitOn B k then [(k : Int)] else [] := rfl
        have hz := shr_bit B k
        go_wp2_with fail
        refine (hkb.out _).mono ?_
        rintro e w' ⟨rfl, rfl⟩
        cases hq : bitOn B k with
        | true =>
          rw [hq] at hz
          have HE : Hid (outK B (k + 1) = outK B k ++ [(k : Int)]) := by rw [HS, hq]; rfl
          obtain ⟨z1, z2, z3⟩ := hz
          clear HS hq
          go_wp2_with (at_builtin; refine wpList_push E24 rfl _ _ rfl wx.heap.size hown rfl rfl rfl (by unfold maxLen; omega) (by omega) hBk.size ?_; intro v' w3 hown' hgrow hb1)
          go_roundw
          case rel => exact ⟨k + 1, by omega, by go_num, by rw [HE.out]; simpa using hown', hBk.trans hb1⟩
          case measure => simp [intOf]; omega
        | false =>
          rw [hq] at hz
          have HE : Hid (outK B (k + 1) = outK B k) := by rw [HS, hq]; exact List.append_nil _
          obtain ⟨z1, z2, z3⟩ := hz
          clear HS hq
          go_wp2
          go_roundw
          case rel => exact ⟨k + 1, by omega, by go_num, by rw [HE.out]; exact hown, hBk⟩
          case measure => simp [intOf]; omega
      · obtain rfl : k = rows.length := by omega
        have hout : IntsAt Wk _ (outK B rows.length) := owned_slice hown
        obtain ⟨oa, oc, rfl, hoo1, hoo2⟩ := hout.len
        unfold maxLen at hoo2
        have hol := outK_len B rows.length
        obtain ⟨hve, hpv, hqv⟩ := HV.out
        obtain ⟨er1, er2, er3, wi1, wi2, al1, al2, al3, hsub, hlen, hsum, f1, s1, g1', p1, f2, s2, g2', p2, hs1, hs2, hbest⟩ := HLAW.out
        have hA := without_all _ _ _ _ Wk (hpv.below hBk) hout (by omega) (by simp only; omega)
        rw [wi1, wi2] at hA
        generalize wK rows (outK B rows.length) rows.length = Wr at hA hsub hlen al3 er3
        generalize outK B rows.length = ou at *
        have hwn : IntKind.i64.wrap ((rows.length : Int) - (ou.length : Int)) = (Wr.length : Int) := by rw [wrapS _ (by omega) (by omega)]; omega
        have kqk := kq.below hBk lkq
        have kek := ke.below hBk lke
        have i0 := kpk.cell 0
        have i2 := kpk.cell 2
        simp only [List.getElem?_toArray, List.getElem?_cons_succ, List.getElem?_cons_zero] at i0 i2
        have HF := Lib.hid (And.intro hsub (And.intro hsum hbest))
        have HE := Lib.hid (And.intro er1 (And.intro er2 (And.intro er3 (And.intro al1 (And.intro al2 (And.intro al3 (And.intro hs1 hs2)))))))
        clear hsub hsum hbest er1 er2 er3 al1 al2 al3 hs1 hs2 wi1 wi2 HLAW hout hown hkb
        go_wp2_with fail
        refine hA.mono ?_
        rintro e wa ⟨va, rfl, ⟨wr, wg, rfl, hwr, hwg⟩, hBa⟩
        simp only at hwr hwg
        obtain ⟨wra, wrc, rfl, hw1, hw2⟩ := hwr.len
        obtain ⟨wga, wgc, rfl, -, -⟩ := hwg.len
        unfold maxLen at hw2
        have hA1 : Below Wk.heap.size Wk (wa.alloc (.cells #[.int .i64 m, .slice wra Wr.length wrc, .slice wga gn.length wgc] 29)) := hBa.alloc hBa.size _
        have hA1' : Below wa.heap.size wa (wa.alloc (.cells #[.int .i64 m, .slice wra Wr.length wrc, .slice wga gn.length wgc] 29)) := (Below.refl _ _).alloc (Nat.le_refl _) _
        have kpa := kpk.below hBa kpk.lt
        have kp1 := kpa.alloc (.cells #[.int .i64 m, .slice wra Wr.length wrc, .slice wga gn.length wgc] 29)
        have kq1 := (kqk.below hBa kqk.lt).alloc (.cells #[.int .i64 m, .slice wra Wr.length wrc, .slice wga gn.length wgc] 29)
        have ke1 := (kek.below hBa kek.lt).alloc (.cells #[.int .i64 m, .slice wra Wr.length wrc, .slice wga gn.length wgc] 29)
        have kw1 := Blk.new wa #[.int .i64 m, .slice wra Wr.length wrc, .slice wga gn.length wgc] 29
        have hwv : ProgV (wa.alloc (.cells #[.int .i64 m, .slice wra Wr.length wrc, .slice wga gn.length wgc] 29)) (.agg #[.int .i64 m, .slice wra Wr.length wrc, .slice wga gn.length wgc]) ⟨m, Wr, gn⟩ := ⟨_, _, rfl, hwr.below hA1', hwg.below hA1'⟩
        have hBk1 := hBk.trans (hA1.mono hBk.size)
        clear i0 i1 i2 hA hwr hwg hA1' kpk kqk kek
        have i0 := kpa.cell 0
        have i1 := kpa.cell 1
        have i2 := kpa.cell 2
        simp only [List.getElem?_toArray, List.getElem?_cons_succ, List.getElem?_cons_zero] at i0 i1 i2
        have lpa := kpa.lt
        go_wp2_with fail
        generalize wa.alloc (.cells #[.int .i64 m, .slice wra Wr.length wrc, .slice wga gn.length wgc] 29) = X1 at hA1 kp1 kq1 ke1 kw1 hwv hBk1 ⊢
        obtain ⟨er1, er2, er3, al1, al2, al3, hs1, hs2⟩ := HE.out
        have hx := all_all (.agg #[.int .i64 m, .slice ra rows.length rc, .slice ga gn.length gc]) ⟨m, rows, gn⟩ X1 (hpv.below hBk1)
        rw [er1, al1] at hx
        clear i0 i1 i2 kpa lpa er1 er2 er3 al1 al2 al3 hs1 hs2
        refine hx.mono ?_
        rintro e wb ⟨vb, rfl, hla, hBb⟩
        obtain ⟨laa, lac, rfl, hla1, hla2⟩ := hla.len
        unfold maxLen at hla2
        have kp2 := kp1.below hBb kp1.lt
        have kq2 := kq1.below hBb kq1.lt
        have ke2 := ke1.below hBb ke1.lt
        have kw2 := kw1.below hBb kw1.lt
        have hBk2 := hBk1.trans (hBb.mono hBk1.size)
        replace hwv := hwv.below hBb
        clear hx kp1 kq1 ke1 kw1
        have i0 := kq2.cell 0
        have i1 := kq2.cell 1
        have i2 := kq2.cell 2
        simp only [List.getElem?_toArray, List.getElem?_cons_succ, List.getElem?_cons_zero] at i0 i1 i2
        obtain ⟨er1, er2, er3, al1, al2, al3, hs1, hs2⟩ := HE.out
        have hx := all_all _ ⟨m, rows ++ [er], gn⟩ wb (hqv.below hBk2)
        rw [er2, al2] at hx
        clear er1 er2 er3 al1 al2 al3 hs1 hs2
        go_wp2_with fail
        refine hx.mono ?_
        rintro e wc ⟨vb, rfl, hlb, hBc⟩
        obtain ⟨lba, lbc, rfl, hlb1, hlb2⟩ := hlb.len
        unfold maxLen at hlb2
        have kp3 := kp2.below hBc kp2.lt
        have kq3 := kq2.below hBc kq2.lt
        have ke3 := ke2.below hBc ke2.lt
        have kw3 := kw2.below hBc kw2.lt
        have hBk3 := hBk2.trans (hBc.mono hBk2.size)
        replace hwv := hwv.below hBc
        replace hla := hla.below hBc
        clear hx kp2 kq2 ke2 kw2 i0 i1 i2
        have i0 := kw3.cell 0
        have i1 := kw3.cell 1
        have i2 := kw3.cell 2
        simp only [List.getElem?_toArray, List.getElem?_cons_succ, List.getElem?_cons_zero] at i0 i1 i2
        obtain ⟨er1, er2, er3, al1, al2, al3, hs1, hs2⟩ := HE.out
        have hx := all_all _ ⟨m, Wr, gn⟩ wc hwv
        rw [er3, al3] at hx
        clear er1 er2 er3 al1 al2 al3 hs1 hs2
        go_wp2_with fail
        refine hx.mono ?_
        rintro e wd ⟨vb, rfl, hlc, hBd⟩
        obtain ⟨lca, lcc, rfl, hlc1, hlc2⟩ := hlc.len
        unfold maxLen at hlc2
        have kp4 := kp3.below hBd kp3.lt
        have kq4 := kq3.below hBd kq3.lt
        have ke4 := ke3.below hBd ke3.lt
        have kw4 := kw3.below hBd kw3.lt
        have hBk4 := hBk3.trans (hBd.mono hBk3.size)
        replace hla := hla.below hBd
        replace hlb := hlb.below hBd
        clear hx kp3 kq3 ke3 kw3 i0 i1 i2 hwv
        have i0 := kp4.cell 0
        have i1 := kp4.cell 1
        have i2 := kp4.cell 2
        simp only [List.getElem?_toArray, List.getElem?_cons_succ, List.getElem?_cons_zero] at i0 i1 i2
        obtain ⟨er1, er2, er3, al1, al2, al3, hs1, hs2⟩ := HE.out
        have hx := solve_all _ ⟨m, rows, gn⟩ wd (hpv.below hBk4)
        rw [er1, hs1] at hx
        clear er1 er2 er3 al1 al2 al3 hs1 hs2
        go_wp2_with fail
        refine hx.mono ?_
        rintro e we ⟨v5, rfl, ⟨vp5, rfl, hst⟩, hBe⟩
        obtain ⟨sa, sc, rfl, -, -⟩ := hst.len
        have hA5 : Below wd.heap.size wd (we.alloc (.cells #[.bool f1, .int .i64 s1, .int .i64 g1', .slice sa p1.length sc] 37)) := hBe.alloc hBe.size _
        have kqe := kq4.below hBe kq4.lt
        have kp5 := (kp4.below hBe kp4.lt).alloc (.cells #[.bool f1, .int .i64 s1, .int .i64 g1', .slice sa p1.length sc] 37)
        have kq5 := kqe.alloc (.cells #[.bool f1, .int .i64 s1, .int .i64 g1', .slice sa p1.length sc] 37)
        have ke5 := (ke4.below hBe ke4.lt).alloc (.cells #[.bool f1, .int .i64 s1, .int .i64 g1', .slice sa p1.length sc] 37)
        have kw5 := (kw4.below hBe kw4.lt).alloc (.cells #[.bool f1, .int .i64 s1, .int .i64 g1', .slice sa p1.length sc] 37)
        have ks5 := Blk.new we #[.bool f1, .int .i64 s1, .int .i64 g1', .slice sa p1.length sc] 37
        have hBk5 := hBk4.trans (hA5.mono hBk4.size)
        replace hla := hla.below hA5
        replace hlb := hlb.below hA5
        replace hlc := hlc.below hA5
        clear hx kp4 kq4 ke4 kw4 i0 i1 i2 hst
        have i0 := kqe.cell 0
        have i1 := kqe.cell 1
        have i2 := kqe.cell 2
        simp only [List.getElem?_toArray, List.getElem?_cons_succ, List.getElem?_cons_zero] at i0 i1 i2
        have lqe := kqe.lt
        go_wp2_with fail
        generalize we.alloc (.cells #[.bool f1, .int .i64 s1, .int .i64 g1', .slice sa p1.length sc] 37) = X5 at hA5 kp5 kq5 ke5 kw5 ks5 hBk5 hla hlb hlc ⊢
        obtain ⟨er1, er2, er3, al1, al2, al3, hs1, hs2⟩ := HE.out
        have hx := solve_all _ ⟨m, rows ++ [er], gn⟩ X5 (hqv.below hBk5)
        rw [er2, hs2] at hx
        clear er1 er2 er3 al1 al2 al3 hs1 hs2 i0 i1 i2 lqe kqe
        refine hx.mono ?_
        rintro e wf ⟨v6, rfl, ⟨vp6, rfl, hst⟩, hBf⟩
        obtain ⟨ta', tc', rfl, -, -⟩ := hst.len
        have hA6 : Below X5.heap.size X5 (wf.alloc (.cells #[.bool f2, .int .i64 s2, .int .i64 g2', .slice ta' p2.length tc'] 37)) := hBf.alloc hBf.size _
        have kpf := kp5.below hBf kp5.lt
        have kef := ke5.below hBf ke5.lt
        have kwf := kw5.below hBf kw5.lt
        have ksf := ks5.below hBf ks5.lt
        have kp6 := kpf.alloc (.cells #[.bool f2, .int .i64 s2, .int .i64 g2', .slice ta' p2.length tc'] 37)
        have ke6 := kef.alloc (.cells #[.bool f2, .int .i64 s2, .int .i64 g2', .slice ta' p2.length tc'] 37)
        have ks6 := ksf.alloc (.cells #[.bool f2, .int .i64 s2, .int .i64 g2', .slice ta' p2.length tc'] 37)
        have kt6 := Blk.new wf #[.bool f2, .int .i64 s2, .int .i64 g2', .slice ta' p2.length tc'] 37
        have hBk6 := hBk5.trans (hA6.mono hBk5.size)
        replace hla := hla.below hA6
        replace hlb := hlb.below hA6
        replace hlc := hlc.below hA6
        have hve6 := hve.below hBk6
        have hBw6 := hBwx.trans (hBk6.mono hBwx.size)
        clear hx hst kp5 kq5 ke5 kw5 ks5 HE hpv hqv hve
        have p1' := kpf.cell 1
        have w1' := kwf.cell 1
        simp only [List.getElem?_toArray, List.getElem?_cons_succ, List.getElem?_cons_zero] at p1' w1'
        have lpf := kpf.lt
        have lwf := kwf.lt
        go_wp2_with fail
        obtain ⟨hsub, hsum, hbest⟩ := HF.out
        have hW := wlk rows Wr er (2 ^ m) hsub
        have HS : Hid (∀ x : Nat, x < 2 ^ m → sumV er x = ch er.coef x ∧ decide (ch er.coef x ≤ er.most) = keptB er x ∧ -1000000000000 ≤ ch er.coef x ∧ ch er.coef x ≤ 1000000000000) := fun x hx => ⟨(hsum x hx).1, rfl, (hsum x hx).2⟩
        have HBEST := Lib.hid hbest
        generalize (fun k => (((chL rows (2 ^ m)).take k).filter (keptB er)).length) = fb at hW
        generalize (fun x => (chL Wr x).length) = cnt at hW
        generalize chL rows (2 ^ m) = LA at *
        generalize LA.filter (keptB er) = LB at *
        generalize chL Wr (2 ^ m) = LC at *
        rw [intL_len] at hla1 hlb1 hlc1
        have hlaL : (intL LA).length = LA.length := intL_len _
        have hlbL : (intL LB).length = LB.length := intL_len _
        have hlcL : (intL LC).length = LC.length := intL_len _
        rw [hlaL, hlbL, hlcL]
        have ka : IntsAt (wf.alloc (.cells #[.bool f2, .int .i64 s2, .int .i64 g2', .slice ta' p2.length tc'] 37)) (.slice laa LA.length lac) (intL LA) := by rw [← hlaL]; exact hla
        have kb : IntsAt (wf.alloc (.cells #[.bool f2, .int .i64 s2, .int .i64 g2', .slice ta' p2.length tc'] 37)) (.slice lba LB.length lbc) (intL LB) := by rw [← hlbL]; exact hlb
        have kc : IntsAt (wf.alloc (.cells #[.bool f2, .int .i64 s2, .int .i64 g2', .slice ta' p2.length tc'] 37)) (.slice lca LC.length lcc) (intL LC) := by rw [← hlcL]; exact hlc
        have hpw := pow12 (n := m) (by omega)
        have hpn : ((2 ^ m : Nat) : Int) = (2 : Int) ^ m := by simp
        have hm4 : 2 ^ m ≤ 4096 := by omega
        generalize 2 ^ m = M at hW HS hm4
        obtain ⟨hsz1, hsz2, hsz3⟩ := hW.sz
        have HW := Lib.hid hW
        have HK := Lib.hid (And.intro ka (And.intro kb kc))
        have hst := Lib.hid hW.start
        generalize wf.alloc (.cells #[.bool f2, .int .i64 s2, .int .i64 g2', .slice ta' p2.length tc'] 37) = X6 at *
        clear hla hlb hlc ka kb kc hW hlaL hlbL hlcL hsub hsum hbest HF p1' w1' lpf lwf kpf kwf kef ksf hA6 hA5 hpw hpn hwn kp ke kq kp6 hA1 hBk
        have lke6 := ke6.lt
        have lks6 := ks6.lt
        have lkt6 := kt6.lt
        go_loopw [29, 30, 31] (fun u29 u30 u31 wr => ∃ k wd : Nat, k ≤ LA.length ∧ u31 = .int .i64 k ∧ u30 = .int .i64 wd ∧ u29 = .int .i64 (fb k) ∧ (∀ x, LA[k]? = some x → wd ≤ cnt x) ∧ wd ≤ 4096 ∧ Below X6.heap.size X6 wr) (fun _ _ u31 _ => (LA.length - intOf u31).toNat)
        case atStart => exact ⟨0, 0, by omega, rfl, rfl, by rw [hst.out]; rfl, fun _ _ => Nat.zero_le _, by omega, Below.refl _ _⟩
        case round =>
          obtain ⟨k, wd, hk, rfl, rfl, rfl, hwd, hwd4, hBl⟩ := hrel
          rename World => Wl
          by_cases hkl : k < LA.length
          · have hx := List.getElem?_eq_getElem hkl
            generalize LA[k] = x at hx
            have hxM := HW.out.lt hx
            have hwx := hwd x hx
            obtain ⟨aB, aO, rfl, hca⟩ := (HK.out.1.below hBl).get (intL_get hx)
            have hcx := HW.out.at_ hx
            obtain ⟨cB, cO, rfl, hcc⟩ := (HK.out.2.2.below hBl).get (intL_get hcx)
            have hcl : cnt x < LC.length := by
              refine Classical.byContradiction fun hc => ?_
              rw [List.getElem?_eq_none (by omega)] at hcx; cases hcx
            have HX := Lib.hid hx
            clear hwd hx hcx
            have lka := World.block_lt_of_cell? _ _ hca
            have lkc := World.block_lt_of_cell? _ _ hcc
            simp only at lka lkc
            have hkk : (k : Int) < (LA.length : Int) := by omega
            go_wp2
            go_loopw [30] (fun u30 wr => ∃ j : Nat, j ≤ cnt x ∧ u30 = .int .i64 j ∧ Below Wl.heap.size Wl wr) (fun u30 _ => (cnt x - intOf u30).toNat)
            case atStart => exact ⟨wd, hwx, rfl, Below.refl _ _⟩
            case round =>
              obtain ⟨j, hj, rfl, hBj⟩ := hrel
              rename World => Wj
              have hcaj := (hBj.cell (p := ⟨aB, aO + k, none⟩) lka).trans hca
              have hBlj := hBl.trans (hBj.mono hBl.size)
              have hjl : (j : Int) < (LC.length : Int) := by omega
              by_cases hjc : j < cnt x
              · obtain ⟨y, hy, hyx⟩ := HW.out.below HX.out hjc
                obtain ⟨cB', cO', e, hcy⟩ := (HK.out.2.2.below hBlj).get (intL_get hy)
                cases e
                have hyi : (y : Int) < (x : Int) := by omega
                clear hy hBlj
                go_wp2_with fail
                go_quiet (fail)
                go_wp2
                go_roundw
                case rel => exact ⟨j + 1, by omega, by go_num, by exact below_drewN hBj _⟩
                case measure => simp [intOf]; omega
              · obtain rfl : j = cnt x := by omega
                have hccj := (hBj.cell (p := ⟨cB, cO + cnt x, none⟩) lkc).trans hcc
                have hyi : ¬ ((x : Int) < (x : Int)) := by omega
                clear hBlj hyi
                go_wp2_with fail
                go_quiet (fail)
                generalize hq : World.drewN _ _ = Wj1
                replace hBj : Below Wl.heap.size Wl Wj1 := hq ▸ below_drewN hBj _
                clear hq hcaj hccj
                have hcaj := (hBj.cell (p := ⟨aB, aO + k, none⟩) lka).trans hca
                have hccj := (hBj.cell (p := ⟨cB, cO + cnt x, none⟩) lkc).trans hcc
                go_wp2_with fail
                go_quiet (fail)
                generalize hq : World.drewN _ _ = Wj2
                replace hBj : Below Wl.heap.size Wl Wj2 := hq ▸ below_drewN hBj _
                clear hq hcaj hccj
                have hcaj := (hBj.cell (p := ⟨aB, aO + k, none⟩) lka).trans hca
                have hBlj := hBl.trans (hBj.mono hBl.size)
                have kej := ke6.below hBlj lke6
                have d0 := kej.cell 0
                have d1 := kej.cell 1
                have d2 := kej.cell 2
                have d3 := kej.cell 3
                have d4 := kej.cell 4
                have d5 := kej.cell 5
                simp only [List.getElem?_toArray, List.getElem?_cons_succ, List.getElem?_cons_zero] at d0 d1 d2 d3 d4 d5
                have lke3 := kej.lt
                have lka3 : aB < Wj2.heap.size := Nat.lt_of_lt_of_le lka hBj.size
                obtain ⟨hs1, hs2, hs3, hs4⟩ := HS.out x hxM
                have hsm := Lib.hid (fun W (hW : Below Wj2.heap.size Wj2 W) => sum_all (.agg #[.int .i64 er.kind, .int .i64 er.a, .int .i64 er.b, .int .i64 er.at_, .slice ea er.coef.length ec, .int .i64 er.most]) er (x : Int) W ((hve6.below hBlj).below hW))
                rw [hs1] at hsm
                have hfbl := HW.out.fbl k
                have hnx := HW.out.next HX.out
                have hmo : Hid (∀ z, LA[k + 1]? = some z → cnt x ≤ cnt z) := fun z hz => HW.out.mono HX.out hz
                clear hs1
                cases hkp : keptB er x with
                | true =>
                  rw [hkp] at hs2 hnx
                  have hfb : Hid (fb (k + 1) = fb k + 1) := by rw [hnx]; rfl
                  have hhit := HW.out.hit HX.out hkp
                  obtain ⟨bB, bO, rfl, hcb⟩ := (HK.out.2.1.below hBlj).get (intL_get hhit)
                  have hfl : fb k < LB.length := by
                    refine Classical.byContradiction fun hc => ?_
                    rw [List.getElem?_eq_none (by omega)] at hhit; cases hhit
                  have hs5 : ch er.coef x ≤ er.most := by simpa using hs2
                  have lkb3 := World.block_lt_of_cell? _ _ hcb
                  simp only at lkb3
                  clear hs2 hnx hkp hhit
                  go_wp2_with fail
                  apply wp_below (w0 := Wj2)
                  · go_region_held3 (fun w' => Below Wj2.heap.size Wj2 w' ∧ w'.cell? ⟨w3.heap.size, 0, none⟩ = some (.int .i64 er.kind) ∧ w'.cell? ⟨w3.heap.size, 1, none⟩ = some (.int .i64 er.a) ∧ w'.cell? ⟨w3.heap.size, 2, none⟩ = some (.int .i64 er.b) ∧ w'.cell? ⟨w3.heap.size, 3, none⟩ = some (.int .i64 er.at_) ∧ w'.cell? ⟨w3.heap.size, 4, none⟩ = some (.slice ea er.coef.length ec) ∧ w'.cell? ⟨w3.heap.size, 5, none⟩ = some (.int .i64 er.most) ∧ w'.cell? ⟨aB, aO + k, none⟩ = some (.int .i64 x))
                      (first | exact ⟨(Below.refl _ _).drew, d0, d1, d2, d3, d4, d5, hcaj⟩ | (have hh := ‹Below Wj2.heap.size Wj2 _ ∧ _›; exact ⟨hh.1.trans (hB6.mono hh.1.size), (hB6.cell (Nat.lt_of_lt_of_le lke3 hh.1.size)).trans hh.2.1, (hB6.cell (Nat.lt_of_lt_of_le lke3 hh.1.size)).trans hh.2.2.1, (hB6.cell (Nat.lt_of_lt_of_le lke3 hh.1.size)).trans hh.2.2.2.1, (hB6.cell (Nat.lt_of_lt_of_le lke3 hh.1.size)).trans hh.2.2.2.2.1, (hB6.cell (Nat.lt_of_lt_of_le lke3 hh.1.size)).trans hh.2.2.2.2.2.1, (hB6.cell (Nat.lt_of_lt_of_le lke3 hh.1.size)).trans hh.2.2.2.2.2.2.1, (hB6.cell (Nat.lt_of_lt_of_le lka3 hh.1.size)).trans hh.2.2.2.2.2.2.2⟩))
                      (first | (go_at_call 34; refine (hsm.out _ (‹Below Wj2.heap.size Wj2 _ ∧ _›).1).mono ?_; rintro e w6 ⟨rfl, hB6⟩))
                    all_goals exact ⟨rfl, rfl, (‹Below Wj2.heap.size Wj2 _ ∧ _›).1⟩
                  intro w6 hB6
                  have hcb6 := (hB6.cell (p := ⟨bB, bO + fb k, none⟩) lkb3).trans hcb
                  have hca6 := (hB6.cell (p := ⟨aB, aO + k, none⟩) lka3).trans hcaj
                  clear d0 d1 d2 d3 d4 d5 hcaj hcb
                  have hfli : (fb k : Int) < (LB.length : Int) := by omega
                  go_wp2_with fail
                  go_quiet (fail)
                  generalize hq : World.drewN _ _ = W7
                  have hB7 : Below Wj2.heap.size Wj2 W7 := hq ▸ below_drewN hB6 _
                  clear hq
                  have hBl7 := hBlj.trans (hB7.mono hBlj.size)
                  go_wp2
                  go_roundw
                  case rel => exact ⟨k + 1, cnt x, by omega, by go_num, rfl, by rw [hfb.out]; go_num, hmo.out, by omega, hBl7⟩
                  case measure => simp [intOf]; omega
                | false =>
                  rw [hkp] at hs2 hnx
                  have hfb : Hid (fb (k + 1) = fb k) := by rw [hnx]; rfl
                  have hs5 : er.most < ch er.coef x := by simpa using hs2
                  clear hs2 hnx hkp
                  go_wp2_with fail
                  apply wp_below (w0 := Wj2)
                  · go_region_held3 (fun w' => Below Wj2.heap.size Wj2 w' ∧ w'.cell? ⟨w3.heap.size, 0, none⟩ = some (.int .i64 er.kind) ∧ w'.cell? ⟨w3.heap.size, 1, none⟩ = some (.int .i64 er.a) ∧ w'.cell? ⟨w3.heap.size, 2, none⟩ = some (.int .i64 er.b) ∧ w'.cell? ⟨w3.heap.size, 3, none⟩ = some (.int .i64 er.at_) ∧ w'.cell? ⟨w3.heap.size, 4, none⟩ = some (.slice ea er.coef.length ec) ∧ w'.cell? ⟨w3.heap.size, 5, none⟩ = some (.int .i64 er.most) ∧ w'.cell? ⟨aB, aO + k, none⟩ = some (.int .i64 x))
                      (first | exact ⟨(Below.refl _ _).drew, d0, d1, d2, d3, d4, d5, hcaj⟩ | (have hh := ‹Below Wj2.heap.size Wj2 _ ∧ _›; exact ⟨hh.1.trans (hB6.mono hh.1.size), (hB6.cell (Nat.lt_of_lt_of_le lke3 hh.1.size)).trans hh.2.1, (hB6.cell (Nat.lt_of_lt_of_le lke3 hh.1.size)).trans hh.2.2.1, (hB6.cell (Nat.lt_of_lt_of_le lke3 hh.1.size)).trans hh.2.2.2.1, (hB6.cell (Nat.lt_of_lt_of_le lke3 hh.1.size)).trans hh.2.2.2.2.1, (hB6.cell (Nat.lt_of_lt_of_le lke3 hh.1.size)).trans hh.2.2.2.2.2.1, (hB6.cell (Nat.lt_of_lt_of_le lke3 hh.1.size)).trans hh.2.2.2.2.2.2.1, (hB6.cell (Nat.lt_of_lt_of_le lka3 hh.1.size)).trans hh.2.2.2.2.2.2.2⟩))
                      (first | (go_at_call 34; refine (hsm.out _ (‹Below Wj2.heap.size Wj2 _ ∧ _›).1).mono ?_; rintro e w6 ⟨rfl, hB6⟩))
                    all_goals exact ⟨rfl, rfl, (‹Below Wj2.heap.size Wj2 _ ∧ _›).1⟩
                  intro w6 hB6
                  have hBl7 := hBlj.trans (hB6.mono hBlj.size)
                  clear d0 d1 d2 d3 d4 d5 hcaj
                  go_wp2
                  go_roundw
                  case rel => exact ⟨k + 1, cnt x, by omega, by go_num, rfl, by rw [hfb.out], hmo.out, by omega, hBl7⟩
                  case measure => simp [intOf]; omega
          · obtain rfl : k = LA.length := by omega
            have hdn := HW.out.done
            have ksl := ks6.below hBl lks6
            have ktl := kt6.below hBl lkt6
            have b0 := ksl.cell 0
            have b2 := ksl.cell 2
            have c0 := ktl.cell 0
            have c2 := ktl.cell 2
            simp only [List.getElem?_toArray, List.getElem?_cons_succ, List.getElem?_cons_zero] at b0 b2 c0 c2
            have lsl := ksl.lt
            have ltl := ktl.lt
            have hBwl := hBw6.trans (hBl.mono hBw6.size)
            rw [hdn]
            clear hdn hwd
            have hb := HBEST.out
            clear HBEST
            cases f2 with
            | false =>
              clear hb
              go_wp2
              go_ret
              exact ⟨rfl, hBwl⟩
            | true =>
              obtain ⟨rfl, hb2⟩ := hb rfl
              go_wp2
              go_ret
              exact ⟨rfl, hBwl⟩
end Go.Proofs.Ytblmpmapcdpaiaa

/- nadirlaw23.ProgramAdds: the walk. -/
import Derived.Test.YtblmpmapcdpaiaaAdds
import Derived.Deep.CutRange
import Derived.Deep.DeepCutAuto
namespace Go.Proofs.Ytblmpmapcdpaiaa
open Go.RowKit Lib

theorem take_contains {l : List Int} {i : Nat} {y : Int} (h : l[i]? = some y) (j : Int) : (l.take (i + 1)).contains j = ((l.take i).contains j || (j == y)) := by
  rw [List.take_add_one, h, List.contains_eq_mem, List.contains_eq_mem]; by_cases hj : j = y <;> simp [hj]
def isA (l : List Int) (i : Nat) : Array Value := #[.bool ((l.take i).contains 0), .bool ((l.take i).contains 1), .bool ((l.take i).contains 2), .bool ((l.take i).contains 3)]
theorem is_step {l : List Int} {i : Nat} {y : Int} (h : l[i]? = some y) (hy : y = 0 ∨ y = 1 ∨ y = 2 ∨ y = 3) {W : World} {B : Nat} (hb : Blk W B (isA l i) 65) : Blk (W.setCell ⟨B, y.toNat, none⟩ (.bool true)) B (isA l (i + 1)) 65 := by
  unfold isA
  rw [take_contains h, take_contains h, take_contains h, take_contains h]
  rcases hy with rfl | rfl | rfl | rfl
  · simpa [isA] using hb.set 0 (.bool true)
  · simpa [isA] using hb.set 1 (.bool true)
  · simpa [isA] using hb.set 2 (.bool true)
  · simpa [isA] using hb.set 3 (.bool true)
set_option maxRecDepth 100000 in
set_option maxHeartbeats 8000000 in
theorem adds_true (vars : Int) (vx : Value) (x : List X3) (gain : List Int) (q0 q1 t0 t1 : Int) (w : World) (hv : InR vars) (hq0 : InR q0) (hq1 : InR q1) (ht0 : InR t0) (ht1 : InR t1) (hx : XsAt w vx x) (hxr : ∀ y ∈ x, XR y) (hg : gain.length = 8) (hgr : ∀ y ∈ gain, InR y) :
    Calls Try.prog 9 #[.int .i64 vars, vx, .agg (gain.map (Value.int .i64)).toArray, .agg #[.int .i64 q0, .int .i64 q1], .agg #[.int .i64 t0, .int .i64 t1]] w fun e w' => e = .returned (.bool true) ∧ Below w.heap.size w w' := by
  obtain ⟨m, hG⟩ := goodP vars x gain
  have hsm := madeP_smallR vars x gain
  have hmade := Lib.hid (fun W (hW : Below w.heap.size w W) => made_own vars vx x gain W hv (hx.below hW) hxr hg hgr)
  generalize madeP vars x gain = p at hG hmade hsm
  obtain ⟨pv, rows, gn⟩ := p
  obtain rfl : pv = m := hG.vm
  simp only [Int.toNat_natCast] at hsm
  obtain ⟨g0, g1, g2, g3, g4, g5, g6, g7, hge⟩ := list8 hg
  have harg : (gain.map (Value.int .i64)).toArray = #[.int .i64 g0, .int .i64 g1, .int .i64 g2, .int .i64 g3, .int .i64 g4, .int .i64 g5, .int .i64 g6, .int .i64 g7] := by rw [hge]; rfl
  rw [harg] at hmade ⊢
  have hm8 := hG.m8
  have hn8 := hG.n8
  simp only at hn8
  have HSM := Lib.hid hsm
  have HG := Lib.hid hG
  clear hx hxr hg hgr hge harg hG hsm
  go_enter Try.func9, Try.ntmps9
  go_wp2_with fail
  refine (sane_true _).mono ?_
  rintro e w1 ⟨rfl, hBa⟩
  have hBw1 : Below w.heap.size w w1 := ((((Below.refl _ _).alloc (Nat.le_refl _) _).alloc (by simp) _).alloc (by simp; omega) _).trans (hBa.mono (by simp; omega))
  have kg : Blk w1 w.heap.size #[.int .i64 g0, .int .i64 g1, .int .i64 g2, .int .i64 g3, .int .i64 g4, .int .i64 g5, .int .i64 g6, .int .i64 g7] 23 := (((Blk.new w _ 23).alloc _).alloc _).below hBa (by simp; omega)
  have kq : Blk w1 (w.heap.size + 1) #[.int .i64 q0, .int .i64 q1] 64 := ((Blk.newAt _ _ _ (by simp)).alloc _).below hBa (by simp)
  have kt : Blk w1 (w.heap.size + 2) #[.int .i64 t0, .int .i64 t1] 64 := (Blk.newAt _ _ _ (by simp)).below hBa (by simp)
  have i0 := kg.cell 0
  have i1 := kg.cell 1
  have i2 := kg.cell 2
  have i3 := kg.cell 3
  have i4 := kg.cell 4
  have i5 := kg.cell 5
  have i6 := kg.cell 6
  have i7 := kg.cell 7
  simp only [List.getElem?_toArray, List.getElem?_cons_succ, List.getElem?_cons_zero] at i0 i1 i2 i3 i4 i5 i6 i7
  have lw1 := kg.lt
  go_wp2_with fail
  refine (hmade.out w1 hBw1).mono ?_
  rintro e w2 ⟨oB, vk, vg, rfl, hO, -, hB2⟩
  obtain ⟨vr', vg', e, hvr, hvg⟩ := hO.prog
  cases e
  simp only at hvr hvg
  obtain ⟨ra, rc, rfl, hr1, hr2⟩ := (show SlicesLen vk rows.length from hvr.len)
  obtain ⟨ga, gc, rfl, -, -⟩ := hvg.len
  unfold maxLen at hr2
  have hBw2 := hBw1.trans (hB2.mono hBw1.size)
  replace kq := kq.below hB2 kq.lt
  replace kt := kt.below hB2 kt.lt
  clear hO hB2 hBa hBw1 kg i0 i1 i2 i3 i4 i5 i6 i7 hmade lw1
  have hA2 : Below w2.heap.size w2 (w2.alloc (.cells #[.int .i64 m, .slice ra rows.length rc, .slice ga gn.length gc] 29)) := (Below.refl _ _).alloc (Nat.le_refl _) _
  rcases Nat.eq_zero_or_pos rows.length with h0 | h0
  · obtain rfl : rows = [] := List.eq_nil_of_length_eq_zero h0
    clear h0
    go_wp2
    go_ret
    exact ⟨rfl, hBw2.trans (hA2.mono hBw2.size)⟩
  have kp := Blk.new w2 #[.int .i64 m, .slice ra rows.length rc, .slice ga gn.length gc] 29
  have hp1 := pickI_bd q0 (n := rows.length) (by omega)
  have hp2 := pickI_bd q1 (n := rows.length) (by omega)
  have hp3 := pickI_bd t0 (n := 51) (by omega)
  have hp4 := pickI_bd t1 (n := 51) (by omega)
  have hk1 := Lib.hid (fun W => pick18 q0 rows.length W hq0 (by omega) (by omega))
  have hk2 := Lib.hid (fun W => pick18 q1 rows.length W hq1 (by omega) (by omega))
  have hk3 := Lib.hid (fun W => pick18 t0 51 W ht0 (by omega) (by omega))
  have hk4 := Lib.hid (fun W => pick18 t1 51 W ht1 (by omega) (by omega))
  obtain ⟨A, hA⟩ := Int.eq_ofNat_of_zero_le hp1.1
  obtain ⟨B, hB⟩ := Int.eq_ofNat_of_zero_le hp2.1
  rw [hA] at hk1 hp1
  rw [hB] at hk2 hp2
  generalize pickI t0 51 = M at hk3 hp3
  generalize pickI t1 51 = N at hk4 hp4
  have hA4 : A < rows.length := by omega
  have hB4 : B < rows.length := by omega
  have hsA := getD_some row0 hA4
  have hsB := getD_some row0 hB4
  obtain ⟨rb, ro, va, rfl, c0, c1, c2, c3, c4, c5, hca⟩ := hvr.get hsA
  obtain ⟨rb', ro', vb, e, d0, d1, d2, d3, d4, d5, hcb⟩ := hvr.get hsB
  cases e
  have hsa := HSM.out _ (List.mem_of_getElem? hsA)
  have hsb := HSM.out _ (List.mem_of_getElem? hsB)
  generalize rows.getD A row0 = a at hsA c0 c1 c2 c3 c4 c5 hca hsa
  generalize rows.getD B row0 = b at hsB d0 d1 d2 d3 d4 d5 hcb hsb
  have hal := Lib.hid hsa.len
  have hbl := Lib.hid hsb.len
  obtain ⟨aa, ac, rfl, ha1, ha2⟩ := hca.len
  obtain ⟨ba, bc, rfl, hb1, hb2⟩ := hcb.len
  have hlb := World.block_lt_of_cell? _ _ c0
  simp only at hlb
  have hlq := kq.lt
  have hlt := kt.lt
  have hAi : (0 : Int) ≤ (A : Int) ∧ (A : Int) < (rows.length : Int) := by omega
  have hBi : (0 : Int) ≤ (B : Int) ∧ (B : Int) < (rows.length : Int) := by omega
  have HSA := Lib.hid hsa
  have HSB := Lib.hid hsb
  clear hsA hsB hA hB hvr hsa hsb hr1 hr2
  have hz0 : ((rows.length : Int) == 0) = false := beq_eq_false_iff_ne.2 (by omega)
  have p0 := kp.cell 0
  have p1 := kp.cell 1
  have p2 := kp.cell 2
  have z0 := (kq.alloc (.cells #[.int .i64 m, .slice (some ⟨rb, ro, none⟩) rows.length rc, .slice ga gn.length gc] 29)).cell 0
  have z1 := (kq.alloc (.cells #[.int .i64 m, .slice (some ⟨rb, ro, none⟩) rows.length rc, .slice ga gn.length gc] 29)).cell 1
  simp only [List.getElem?_toArray, List.getElem?_cons_succ, List.getElem?_cons_zero] at p0 p1 p2 z0 z1
  go_wp2_with fail
  generalize w2.alloc (.cells #[.int .i64 m, .slice (some ⟨rb, ro, none⟩) rows.length rc, .slice ga gn.length gc] 29) = V0 at kp hA2 p0 p1 p2 z0 z1 ⊢
  have hVs : w2.heap.size < V0.heap.size := kp.lt
  have rc0 := (hA2.cell (p := ⟨rb, ro + A * 6, none⟩) hlb).trans c0
  have rc1 := (hA2.cell (p := ⟨rb, ro + A * 6 + 1, none⟩) hlb).trans c1
  have rc2 := (hA2.cell (p := ⟨rb, ro + A * 6 + 2, none⟩) hlb).trans c2
  have rc3 := (hA2.cell (p := ⟨rb, ro + A * 6 + 3, none⟩) hlb).trans c3
  have rc4 := (hA2.cell (p := ⟨rb, ro + A * 6 + 4, none⟩) hlb).trans c4
  have rc5 := (hA2.cell (p := ⟨rb, ro + A * 6 + 5, none⟩) hlb).trans c5
  apply wp_one
  · go_region_held3 (fun w' => w'.cell? ⟨w2.heap.size, 1, none⟩ = some (.slice (some ⟨rb, ro, none⟩) rows.length rc) ∧ w'.cell? ⟨w.heap.size + 1, 0, none⟩ = some (.int .i64 q0) ∧ w'.cell? ⟨rb, ro + A * 6, none⟩ = some (.int .i64 a.kind) ∧ w'.cell? ⟨rb, ro + A * 6 + 1, none⟩ = some (.int .i64 a.a) ∧ w'.cell? ⟨rb, ro + A * 6 + 2, none⟩ = some (.int .i64 a.b) ∧ w'.cell? ⟨rb, ro + A * 6 + 3, none⟩ = some (.int .i64 a.at_) ∧ w'.cell? ⟨rb, ro + A * 6 + 4, none⟩ = some (.slice aa a.coef.length ac) ∧ w'.cell? ⟨rb, ro + A * 6 + 5, none⟩ = some (.int .i64 a.most))
      (first | exact ⟨p1, z0, rc0, rc1, rc2, rc3, rc4, rc5⟩ | go_keep)
      (first | (go_at_call 18; refine (hk1.out _).mono ?_; rintro e w' ⟨rfl, rfl⟩))
    all_goals exact ⟨rfl, rfl, rfl⟩
  have ka : Blk (V0.alloc (.cells #[.int .i64 a.kind, .int .i64 a.a, .int .i64 a.b, .int .i64 a.at_, .slice aa a.coef.length ac, .int .i64 a.most] 26)).drew V0.heap.size #[.int .i64 a.kind, .int .i64 a.a, .int .i64 a.b, .int .i64 a.at_, .slice aa a.coef.length ac, .int .i64 a.most] 26 := Blk.new V0 _ 26
  have hB1 : Below w2.heap.size w2 (V0.alloc (.cells #[.int .i64 a.kind, .int .i64 a.a, .int .i64 a.b, .int .i64 a.at_, .slice aa a.coef.length ac, .int .i64 a.most] 26)).drew := (hA2.alloc (by omega) _).drew
  replace kp : Blk (V0.alloc (.cells #[.int .i64 a.kind, .int .i64 a.a, .int .i64 a.b, .int .i64 a.at_, .slice aa a.coef.length ac, .int .i64 a.most] 26)).drew w2.heap.size #[.int .i64 m, .slice (some ⟨rb, ro, none⟩) rows.length rc, .slice ga gn.length gc] 29 := kp.alloc (.cells #[.int .i64 a.kind, .int .i64 a.a, .int .i64 a.b, .int .i64 a.at_, .slice aa a.coef.length ac, .int .i64 a.most] 26)
  generalize (V0.alloc (.cells #[.int .i64 a.kind, .int .i64 a.a, .int .i64 a.b, .int .i64 a.at_, .slice aa a.coef.length ac, .int .i64 a.most] 26)).drew = V1 at ka hB1 kp ⊢
  clear rc0 rc1 rc2 rc3 rc4 rc5 p0 p1 p2 z0 z1 hA2
  have kq1 := kq.below hB1 kq.lt
  have p1 := kp.cell 1
  have z1 := kq1.cell 1
  simp only [List.getElem?_toArray, List.getElem?_cons_succ, List.getElem?_cons_zero] at p1 z1
  have rd0 := (hB1.cell (p := ⟨rb, ro + B * 6, none⟩) hlb).trans d0
  have rd1 := (hB1.cell (p := ⟨rb, ro + B * 6 + 1, none⟩) hlb).trans d1
  have rd2 := (hB1.cell (p := ⟨rb, ro + B * 6 + 2, none⟩) hlb).trans d2
  have rd3 := (hB1.cell (p := ⟨rb, ro + B * 6 + 3, none⟩) hlb).trans d3
  have rd4 := (hB1.cell (p := ⟨rb, ro + B * 6 + 4, none⟩) hlb).trans d4
  have rd5 := (hB1.cell (p := ⟨rb, ro + B * 6 + 5, none⟩) hlb).trans d5
  have lp1 := kp.lt
  go_wp2_with fail
  apply wp_one
  · go_region_held3 (fun w' => w'.cell? ⟨w2.heap.size, 1, none⟩ = some (.slice (some ⟨rb, ro, none⟩) rows.length rc) ∧ w'.cell? ⟨w.heap.size + 1, 1, none⟩ = some (.int .i64 q1) ∧ w'.cell? ⟨rb, ro + B * 6, none⟩ = some (.int .i64 b.kind) ∧ w'.cell? ⟨rb, ro + B * 6 + 1, none⟩ = some (.int .i64 b.a) ∧ w'.cell? ⟨rb, ro + B * 6 + 2, none⟩ = some (.int .i64 b.b) ∧ w'.cell? ⟨rb, ro + B * 6 + 3, none⟩ = some (.int .i64 b.at_) ∧ w'.cell? ⟨rb, ro + B * 6 + 4, none⟩ = some (.slice ba b.coef.length bc) ∧ w'.cell? ⟨rb, ro + B * 6 + 5, none⟩ = some (.int .i64 b.most))
      (first | exact ⟨p1, z1, rd0, rd1, rd2, rd3, rd4, rd5⟩ | go_keep)
      (first | (go_at_call 18; refine (hk2.out _).mono ?_; rintro e w' ⟨rfl, rfl⟩))
    all_goals exact ⟨rfl, rfl, rfl⟩
  have kb : Blk (V1.alloc (.cells #[.int .i64 b.kind, .int .i64 b.a, .int .i64 b.b, .int .i64 b.at_, .slice ba b.coef.length bc, .int .i64 b.most] 26)).drew V1.heap.size #[.int .i64 b.kind, .int .i64 b.a, .int .i64 b.b, .int .i64 b.at_, .slice ba b.coef.length bc, .int .i64 b.most] 26 := Blk.new V1 _ 26
  have hB2 : Below w2.heap.size w2 (V1.alloc (.cells #[.int .i64 b.kind, .int .i64 b.a, .int .i64 b.b, .int .i64 b.at_, .slice ba b.coef.length bc, .int .i64 b.most] 26)).drew := (hB1.alloc (by omega) _).drew
  have l12 := ka.lt
  replace ka : Blk (V1.alloc (.cells #[.int .i64 b.kind, .int .i64 b.a, .int .i64 b.b, .int .i64 b.at_, .slice ba b.coef.length bc, .int .i64 b.most] 26)).drew V0.heap.size #[.int .i64 a.kind, .int .i64 a.a, .int .i64 a.b, .int .i64 a.at_, .slice aa a.coef.length ac, .int .i64 a.most] 26 := ka.alloc (.cells #[.int .i64 b.kind, .int .i64 b.a, .int .i64 b.b, .int .i64 b.at_, .slice ba b.coef.length bc, .int .i64 b.most] 26)
  replace kp : Blk (V1.alloc (.cells #[.int .i64 b.kind, .int .i64 b.a, .int .i64 b.b, .int .i64 b.at_, .slice ba b.coef.length bc, .int .i64 b.most] 26)).drew w2.heap.size #[.int .i64 m, .slice (some ⟨rb, ro, none⟩) rows.length rc, .slice ga gn.length gc] 29 := kp.alloc (.cells #[.int .i64 b.kind, .int .i64 b.a, .int .i64 b.b, .int .i64 b.at_, .slice ba b.coef.length bc, .int .i64 b.most] 26)
  generalize (V1.alloc (.cells #[.int .i64 b.kind, .int .i64 b.a, .int .i64 b.b, .int .i64 b.at_, .slice ba b.coef.length bc, .int .i64 b.most] 26)).drew = V2 at ka kb hB2 kp ⊢
  clear rd0 rd1 rd2 rd3 rd4 rd5 p1 z1 kq1 hB1
  have l22 := kb.lt
  have l02 : V0.heap.size < V2.heap.size := by omega
  have kt2 := kt.below hB2 kt.lt
  have t0' := kt2.cell 0
  have t1' := kt2.cell 1
  have a5 := ka.cell 5
  have b5 := kb.cell 5
  simp only [List.getElem?_toArray, List.getElem?_cons_succ, List.getElem?_cons_zero] at t0' t1' a5 b5
  have hw1 := mul_bd (m := M) (c := a.most) (by omega) (by have := HSA.out.mo; omega)
  have hw2 := mul_bd (m := N) (c := b.most) (by omega) (by have := HSB.out.mo; omega)
  have hw3 := mul_bd (m := M + 1) (c := a.most) (by omega) (by have := HSA.out.mo; omega)
  have e1 : IntKind.i64.wrap (M * a.most) = M * a.most := wrapS _ (by omega) (by omega)
  have e2 : IntKind.i64.wrap (N * b.most) = N * b.most := wrapS _ (by omega) (by omega)
  have e3 : IntKind.i64.wrap ((M + 1) * a.most) = (M + 1) * a.most := wrapS _ (by omega) (by omega)
  have e4 : IntKind.i64.wrap (M * a.most + N * b.most) = M * a.most + N * b.most := wrapS _ (by omega) (by omega)
  go_wp2_with fail
  refine (hk3.out _).mono ?_
  rintro e w3 ⟨rfl, rfl⟩
  go_wp2_with fail
  refine (hk4.out _).mono ?_
  rintro e w3 ⟨rfl, rfl⟩
  go_wp2_with fail
  have ks : Blk ((V2.alloc (.cells #[.int .i64 0, .int .i64 0, .int .i64 0, .int .i64 0, .slice none 0 0, .int .i64 (M * a.most + N * b.most)] 26)).alloc (.cells #[.int .i64 0, .int .i64 0, .int .i64 0, .int .i64 0, .slice none 0 0, .int .i64 ((M + 1) * a.most)] 26)) V2.heap.size #[.int .i64 0, .int .i64 0, .int .i64 0, .int .i64 0, .slice none 0 0, .int .i64 (M * a.most + N * b.most)] 26 := (Blk.new V2 _ 26).alloc _
  have kg : Blk ((V2.alloc (.cells #[.int .i64 0, .int .i64 0, .int .i64 0, .int .i64 0, .slice none 0 0, .int .i64 (M * a.most + N * b.most)] 26)).alloc (.cells #[.int .i64 0, .int .i64 0, .int .i64 0, .int .i64 0, .slice none 0 0, .int .i64 ((M + 1) * a.most)] 26)) (V2.heap.size + 1) #[.int .i64 0, .int .i64 0, .int .i64 0, .int .i64 0, .slice none 0 0, .int .i64 ((M + 1) * a.most)] 26 := Blk.newAt _ _ _ (by simp)
  have h3s : V2.heap.size + 2 ≤ ((V2.alloc (.cells #[.int .i64 0, .int .i64 0, .int .i64 0, .int .i64 0, .slice none 0 0, .int .i64 (M * a.most + N * b.most)] 26)).alloc (.cells #[.int .i64 0, .int .i64 0, .int .i64 0, .int .i64 0, .slice none 0 0, .int .i64 ((M + 1) * a.most)] 26)).heap.size := by simp
  have hB3 : Below V2.heap.size V2 ((V2.alloc (.cells #[.int .i64 0, .int .i64 0, .int .i64 0, .int .i64 0, .slice none 0 0, .int .i64 (M * a.most + N * b.most)] 26)).alloc (.cells #[.int .i64 0, .int .i64 0, .int .i64 0, .int .i64 0, .slice none 0 0, .int .i64 ((M + 1) * a.most)] 26)) := ((Below.refl _ _).alloc (Nat.le_refl _) _).alloc (by simp) _
  generalize (V2.alloc (.cells #[.int .i64 0, .int .i64 0, .int .i64 0, .int .i64 0, .slice none 0 0, .int .i64 (M * a.most + N * b.most)] 26)).alloc (.cells #[.int .i64 0, .int .i64 0, .int .i64 0, .int .i64 0, .slice none 0 0, .int .i64 ((M + 1) * a.most)] 26) = W3 at ks kg h3s hB3 ⊢
  clear t0' t1' a5 b5 e1 e2 e3 e4 kt2
  go_loopw [19] (fun u19 wr => ∃ (k : Nat) (vs vt : Value), k ≤ m ∧ u19 = .int .i64 k ∧ Blk wr V2.heap.size #[.int .i64 0, .int .i64 0, .int .i64 0, .int .i64 0, vs, .int .i64 (M * a.most + N * b.most)] 26 ∧ Blk wr (V2.heap.size + 1) #[.int .i64 0, .int .i64 0, .int .i64 0, .int .i64 0, vt, .int .i64 ((M + 1) * a.most)] 26 ∧ Two (V2.heap.size + 2) wr vs vt k k ((sumC a.coef b.coef M N k).map (Value.int .i64)) ((grtC a.coef M k).map (Value.int .i64)) ∧ Below V2.heap.size V2 wr ∧ V2.heap.size + 2 ≤ wr.heap.size)
    (fun u19 _ => (m - intOf u19).toNat)
  case atStart => exact ⟨0, _, _, by omega, rfl, ks, kg, ⟨World.ownsRow_nil _ _ _ _, World.ownsRow_nil _ _ _ _, fun _ h => by cases h⟩, hB3, h3s⟩
  case round =>
    obtain ⟨k, vs, vt, hk, rfl, hbs, hbg, hT, hBk, hszk⟩ := hrel
    rename World => Wk
    have kpk := kp.below (hBk.mono (by omega)) kp.lt
    have kak := ka.below hBk l02
    have kbk := kb.below hBk l22
    have p0 := kpk.cell 0
    simp only [List.getElem?_toArray, List.getElem?_cons_zero] at p0
    by_cases hkm : k < m
    · have hgs := Lib.hid (sumC_succ a.coef b.coef M N k)
      have hgg := Lib.hid (grtC_succ a.coef M k)
      have hak := HSA.out.co k
      have hbk := HSB.out.co k
      have hka : k < a.coef.length := by rw [hal.out]; exact hkm
      have hkb : k < b.coef.length := by rw [hbl.out]; exact hkm
      have hsa := getD_some (0 : Int) hka
      have hsb := getD_some (0 : Int) hkb
      have hB0k : Below w2.heap.size w2 Wk := hB2.trans (hBk.mono (by omega))
      obtain ⟨ab, ao, rfl, hca0⟩ := SliceOf.get hca hsa
      obtain ⟨bb, bo, rfl, hcb0⟩ := SliceOf.get hcb hsb
      have lka := World.block_lt_of_cell? _ _ hca0
      have lkb := World.block_lt_of_cell? _ _ hcb0
      replace hca0 := (hB0k.cell lka).trans hca0
      replace hcb0 := (hB0k.cell lkb).trans hcb0
      simp only at lka lkb
      generalize a.coef.getD k 0 = y at hgs hgg hak hsa hca0
      generalize b.coef.getD k 0 = z at hgs hbk hsb hcb0
      have c4 := kak.cell 4
      have d4 := kbk.cell 4
      have s4 := hbs.cell 4
      simp only [List.getElem?_toArray, List.getElem?_cons_succ, List.getElem?_cons_zero] at c4 d4 s4
      have m1 := mul_bd (m := M) (c := y) (by omega) (by omega)
      have m2 := mul_bd (m := N) (c := z) (by omega) (by omega)
      have m3 := mul_bd (m := M + 1) (c := y) (by omega) (by omega)
      have e1 : IntKind.i64.wrap (M * y) = M * y := wrapS _ (by omega) (by omega)
      have e2 : IntKind.i64.wrap (N * z) = N * z := wrapS _ (by omega) (by omega)
      have e4 : IntKind.i64.wrap (M * y + N * z) = M * y + N * z := wrapS _ (by omega) (by omega)
      have hkk : (0 : Int) ≤ (k : Int) ∧ (k : Int) < (a.coef.length : Int) ∧ (k : Int) < (b.coef.length : Int) := by omega
      have la2 : ab < V2.heap.size := by omega
      have lka3 : ab < Wk.heap.size := by omega
      have lkb3 : bb < Wk.heap.size := by omega
      have la1 : V0.heap.size < Wk.heap.size := by omega
      have lb1 : V1.heap.size < Wk.heap.size := by omega
      have ls1 : V2.heap.size < Wk.heap.size := by omega
      have hn : k ≤ 1000000 := by omega
      clear c0 c1 c2 c3 c5 d0 d1 d2 d3 d5 hv hq0 hq1 ht0 ht1 HSM HG hBw2 kq kt h0 hp1 hk1 hp2 hk2 hk3 hk4 hA4 hB4 hAi hBi HSA HSB hvg hz0 ks kg h3s hB3 W3 hlb hlq hlt hm8 hn8 hsa hsb hca hcb ka kb kp hB2 hw1 hw2 hw3 lp1 l12
      go_upto_region 16 with fail
      go_cut [] from 85 to 104 (fun wx => ∃ g cap, Blk wx V2.heap.size #[.int .i64 0, .int .i64 0, .int .i64 0, .int .i64 0, .slice (some ⟨g, 0, none⟩) (k + 1) cap, .int .i64 (M * a.most + N * b.most)] 26 ∧ Blk wx (V2.heap.size + 1) #[.int .i64 0, .int .i64 0, .int .i64 0, .int .i64 0, vt, .int .i64 ((M + 1) * a.most)] 26 ∧ Two (V2.heap.size + 2) wx (.slice (some ⟨g, 0, none⟩) (k + 1) cap) vt (k + 1) k ((sumC a.coef b.coef M N (k + 1)).map (Value.int .i64)) ((grtC a.coef M k).map (Value.int .i64)) ∧ Below V2.heap.size Wk wx ∧ V2.heap.size + 2 ≤ wx.heap.size)
      case first =>
        go_region_law (first | (refine step_push2 (w0 := Wk.drew) (x := M * y + N * z) rfl (.tmp 86) (.tmp 102) rfl (V2.heap.size + 2) rfl (hT.below ((Below.refl _ _).drew)) (by simp [Act.eval]) (by simp [Act.eval]) hn (by show _ ≤ Wk.heap.size; omega) ?_; intro g cap w' hT' hBw; have hbs' : Blk w' V2.heap.size #[.int .i64 0, .int .i64 0, .int .i64 0, .int .i64 0, vs, .int .i64 (M * a.most + N * b.most)] 26 := (hBw.block _ (by omega)).trans (show Blk Wk.drew _ _ _ from hbs); have hbg' : Blk w' (V2.heap.size + 1) #[.int .i64 0, .int .i64 0, .int .i64 0, .int .i64 0, vt, .int .i64 ((M + 1) * a.most)] 26 := (hBw.block _ (by omega)).trans (show Blk Wk.drew _ _ _ from hbg); have j4 := hbs'.cell 4; have f4 := hbs'.frozen 4; simp only [List.getElem?_toArray, List.getElem?_cons_succ, List.getElem?_cons_zero] at j4))
        all_goals (
          go_wp2_with fail
          go_meet
          have hsz' := hBw.size
          have hsz2 : Wk.drew.heap.size = Wk.heap.size := rfl
          exact ⟨g, cap, hbs'.set 4 _, hbg'.other _ (by simp), (by rw [hgs.out, List.map_append]; exact hT'.set (by simp) _), ((Below.refl _ _).drew.trans (hBw.mono (Nat.le_add_right V2.heap.size 2))).setCell (p := ⟨V2.heap.size, 4, none⟩) (Nat.le_refl _) _, by simp; omega⟩)
      case rest =>
        rename World => Wx
        obtain ⟨g, cap, hbsx, hbgx, hTx, hBx, hszx⟩ := hcut
        clear hbs hbg hT kpk c4 d4 s4 p0
        have kax := kak.below hBx l02
        have hcax : Wx.cell? ⟨ab, ao + k, none⟩ = some (.int .i64 y) := (hBx.cell la2).trans hca0
        have c4 := kax.cell 4
        have s4 := hbgx.cell 4
        simp only [List.getElem?_toArray, List.getElem?_cons_succ, List.getElem?_cons_zero] at c4 s4
        have e3 : IntKind.i64.wrap ((M + 1) * y) = (M + 1) * y := wrapS _ (by omega) (by omega)
        have hM1 : IntKind.i64.wrap (M + 1) = M + 1 := wrapS _ (by omega) (by omega)
        have la4 : ab < Wx.heap.size := by omega
        have la5 : V0.heap.size < Wx.heap.size := by omega
        have la6 : V2.heap.size + 1 < Wx.heap.size := by omega
        have hBkx := hBk.trans hBx
        clear e1 e2 e4 m1 m2 hca0 hcb0 hkb lkb lkb3 lka3 lb1 la1 ls1 kak kbk hBk hgs
        go_wp2_with fail
        go_region_law (first | (refine step_push2 (w0 := Wx.drew) (x := (M + 1) * y) rfl (.tmp 106) (.tmp 115) rfl (V2.heap.size + 2) rfl ((hTx.below ((Below.refl _ _).drew)).swap) (by simp [Act.eval]) (by simp [Act.eval]) hn (by show _ ≤ Wx.heap.size; omega) ?_; intro g' cap' w' hT' hBw; have hbs' : Blk w' V2.heap.size #[.int .i64 0, .int .i64 0, .int .i64 0, .int .i64 0, .slice (some ⟨g, 0, none⟩) (k + 1) cap, .int .i64 (M * a.most + N * b.most)] 26 := (hBw.block _ (by omega)).trans (show Blk Wx.drew _ _ _ from hbsx); have hbg' : Blk w' (V2.heap.size + 1) #[.int .i64 0, .int .i64 0, .int .i64 0, .int .i64 0, vt, .int .i64 ((M + 1) * a.most)] 26 := (hBw.block _ (by omega)).trans (show Blk Wx.drew _ _ _ from hbgx); have j4 := hbg'.cell 4; have f4 := hbg'.frozen 4; simp only [List.getElem?_toArray, List.getElem?_cons_succ, List.getElem?_cons_zero] at j4))
        all_goals (
          go_wp2_with fail
          have hsz' := hBw.size
          have hsz2 : Wx.drew.heap.size = Wx.heap.size := rfl
          go_roundw
          case rel => exact ⟨k + 1, _, _, by omega, by go_num, hbs'.other _ (by simp), hbg'.set 4 _, (by rw [hgg.out, List.map_append]; exact (hT'.swap.set (by simp) _)), (hBkx.drew.trans (hBw.mono (Nat.le_add_right V2.heap.size 2))).setCell (p := ⟨V2.heap.size + 1, 4, none⟩) (Nat.le_succ V2.heap.size) _, by simp; omega⟩
          case measure => simp [intOf]; omega)
    · obtain rfl : m = k := by omega
      have his : IntsAt Wk vs (sumC a.coef b.coef M N m) := owned_slice (by rw [sumC_len]; exact hT.hv)
      have hig : IntsAt Wk vt (grtC a.coef M m) := owned_slice (by rw [grtC_len]; exact hT.hu)
      have hB0k : Below w2.heap.size w2 Wk := hB2.trans (hBk.mono (by omega))
      have hia := hca.below hB0k
      have hib := hcb.below hB0k
      have hvg2 := hvg.below hB0k
      obtain ⟨sa, sc, rfl, -, -⟩ := owned_len hT.hv
      obtain ⟨ta, tc, rfl, -, -⟩ := owned_len hT.hu
      have a0 := kak.cell 0
      have a1 := kak.cell 1
      have a2 := kak.cell 2
      have a3 := kak.cell 3
      have a4 := kak.cell 4
      have a5 := kak.cell 5
      have b0 := kbk.cell 0
      have b1 := kbk.cell 1
      have b2 := kbk.cell 2
      have b3 := kbk.cell 3
      have b4 := kbk.cell 4
      have b5 := kbk.cell 5
      have s0 := hbs.cell 0
      have s1 := hbs.cell 1
      have s2 := hbs.cell 2
      have s3 := hbs.cell 3
      have s4 := hbs.cell 4
      have s5 := hbs.cell 5
      have r0 := hbg.cell 0
      have r1 := hbg.cell 1
      have r2 := hbg.cell 2
      have r3 := hbg.cell 3
      have r4 := hbg.cell 4
      have r5 := hbg.cell 5
      have p1 := kpk.cell 1
      have p2 := kpk.cell 2
      simp only [List.getElem?_toArray, List.getElem?_cons_succ, List.getElem?_cons_zero] at a0 a1 a2 a3 a4 a5 b0 b1 b2 b3 b4 b5 s0 s1 s2 s3 s4 s5 r0 r1 r2 r3 r4 r5 p1 p2
      have lp := kpk.lt
      have la := kak.lt
      have lb := kbk.lt
      have ls := hbs.lt
      have lg := hbg.lt
      have HC := Lib.hid (And.intro hca hcb)
      have HT := Lib.hid hT
      have HI := Lib.hid (And.intro his (And.intro hig (And.intro hia (And.intro hib hvg2))))
      clear c0 c1 c2 c3 c4 c5 d0 d1 d2 d3 d4 d5 hca hcb hT his hig hia hib hvg2 HC HT
      go_wp2_with fail
      have kQ : Blk ((Wk.alloc (.cells #[.int .i64 m, .slice (some ⟨Wk.heap.size + 1, 0, none⟩) 4 4, .slice ga gn.length gc] 29)).alloc (.cells #[.int .i64 a.kind, .int .i64 a.a, .int .i64 a.b, .int .i64 a.at_, .slice aa a.coef.length ac, .int .i64 a.most, .int .i64 b.kind, .int .i64 b.a, .int .i64 b.b, .int .i64 b.at_, .slice ba b.coef.length bc, .int .i64 b.most, .int .i64 0, .int .i64 0, .int .i64 0, .int .i64 0, .slice sa m sc, .int .i64 (M * a.most + N * b.most), .int .i64 0, .int .i64 0, .int .i64 0, .int .i64 0, .slice ta m tc, .int .i64 ((M + 1) * a.most)] 26)) Wk.heap.size #[.int .i64 m, .slice (some ⟨Wk.heap.size + 1, 0, none⟩) 4 4, .slice ga gn.length gc] 29 := (Blk.new _ _ _).alloc _
      have kf : Blk ((Wk.alloc (.cells #[.int .i64 m, .slice (some ⟨Wk.heap.size + 1, 0, none⟩) 4 4, .slice ga gn.length gc] 29)).alloc (.cells #[.int .i64 a.kind, .int .i64 a.a, .int .i64 a.b, .int .i64 a.at_, .slice aa a.coef.length ac, .int .i64 a.most, .int .i64 b.kind, .int .i64 b.a, .int .i64 b.b, .int .i64 b.at_, .slice ba b.coef.length bc, .int .i64 b.most, .int .i64 0, .int .i64 0, .int .i64 0, .int .i64 0, .slice sa m sc, .int .i64 (M * a.most + N * b.most), .int .i64 0, .int .i64 0, .int .i64 0, .int .i64 0, .slice ta m tc, .int .i64 ((M + 1) * a.most)] 26)) (Wk.heap.size + 1) #[.int .i64 a.kind, .int .i64 a.a, .int .i64 a.b, .int .i64 a.at_, .slice aa a.coef.length ac, .int .i64 a.most, .int .i64 b.kind, .int .i64 b.a, .int .i64 b.b, .int .i64 b.at_, .slice ba b.coef.length bc, .int .i64 b.most, .int .i64 0, .int .i64 0, .int .i64 0, .int .i64 0, .slice sa m sc, .int .i64 (M * a.most + N * b.most), .int .i64 0, .int .i64 0, .int .i64 0, .int .i64 0, .slice ta m tc, .int .i64 ((M + 1) * a.most)] 26 := Blk.newAt _ _ _ (by simp)
      have hX : Below Wk.heap.size Wk ((Wk.alloc (.cells #[.int .i64 m, .slice (some ⟨Wk.heap.size + 1, 0, none⟩) 4 4, .slice ga gn.length gc] 29)).alloc (.cells #[.int .i64 a.kind, .int .i64 a.a, .int .i64 a.b, .int .i64 a.at_, .slice aa a.coef.length ac, .int .i64 a.most, .int .i64 b.kind, .int .i64 b.a, .int .i64 b.b, .int .i64 b.at_, .slice ba b.coef.length bc, .int .i64 b.most, .int .i64 0, .int .i64 0, .int .i64 0, .int .i64 0, .slice sa m sc, .int .i64 (M * a.most + N * b.most), .int .i64 0, .int .i64 0, .int .i64 0, .int .i64 0, .slice ta m tc, .int .i64 ((M + 1) * a.most)] 26)) := ((Below.refl _ _).alloc (Nat.le_refl _) _).alloc (by simp) _
      have kpx : Blk ((Wk.alloc (.cells #[.int .i64 m, .slice (some ⟨Wk.heap.size + 1, 0, none⟩) 4 4, .slice ga gn.length gc] 29)).alloc (.cells #[.int .i64 a.kind, .int .i64 a.a, .int .i64 a.b, .int .i64 a.at_, .slice aa a.coef.length ac, .int .i64 a.most, .int .i64 b.kind, .int .i64 b.a, .int .i64 b.b, .int .i64 b.at_, .slice ba b.coef.length bc, .int .i64 b.most, .int .i64 0, .int .i64 0, .int .i64 0, .int .i64 0, .slice sa m sc, .int .i64 (M * a.most + N * b.most), .int .i64 0, .int .i64 0, .int .i64 0, .int .i64 0, .slice ta m tc, .int .i64 ((M + 1) * a.most)] 26)) w2.heap.size #[.int .i64 m, .slice (some ⟨rb, ro, none⟩) rows.length rc, .slice ga gn.length gc] 29 := (kpk.alloc _).alloc _
      generalize (Wk.alloc (.cells #[.int .i64 m, .slice (some ⟨Wk.heap.size + 1, 0, none⟩) 4 4, .slice ga gn.length gc] 29)).alloc (.cells #[.int .i64 a.kind, .int .i64 a.a, .int .i64 a.b, .int .i64 a.at_, .slice aa a.coef.length ac, .int .i64 a.most, .int .i64 b.kind, .int .i64 b.a, .int .i64 b.b, .int .i64 b.at_, .slice ba b.coef.length bc, .int .i64 b.most, .int .i64 0, .int .i64 0, .int .i64 0, .int .i64 0, .slice sa m sc, .int .i64 (M * a.most + N * b.most), .int .i64 0, .int .i64 0, .int .i64 0, .int .i64 0, .slice ta m tc, .int .i64 ((M + 1) * a.most)] 26) = X at kQ kf hX kpx ⊢
      obtain ⟨his, hig, hia, hib, hvg2⟩ := HI.out
      have hfour : RowsAt X (.slice (some ⟨Wk.heap.size + 1, 0, none⟩) 4 4) (fourR a b M N m) := four_view kf (hia.below hX) (hib.below hX) (his.below hX) (hig.below hX)
      have hprog : ProgV X (.agg #[.int .i64 m, .slice (some ⟨Wk.heap.size + 1, 0, none⟩) 4 4, .slice ga gn.length gc]) ⟨m, fourR a b M N m, gn⟩ := ⟨_, _, rfl, hfour, hvg2.below hX⟩
      have hval := four_valid HG.out.val HSA.out HSB.out (m := M) (n := N) (by omega) (by omega)
      have hbr : ∀ s : Nat, s < 2 ^ m → brokenV ⟨m, fourR a b M N m, gn⟩ s = brK (fourR a b M N m) s 4 := fun s hs => by
        unfold brokenV
        rw [if_pos (choiceB_ok hval (by simpa using hs)), Int.toNat_natCast]; rfl
      have hBwX := hBw2.trans ((hB0k.trans (hX.mono hB0k.size)).mono hBw2.size)
      have HP := Lib.hid hprog
      have HBR := Lib.hid hbr
      have HFB := Lib.hid (fun s => four_broken HSA.out HSB.out (m := M) (n := N) (by omega) (by omega) s)
      have hpw := pow12 (n := m) (by omega)
      have hpn : ((2 ^ m : Nat) : Int) = (2 : Int) ^ m := by simp
      have hm4 : 2 ^ m ≤ 4096 := by omega
      have lpx := kpx.lt
      have lqx := kQ.lt
      clear his hig hia hib hvg2 hfour hprog hval hbr HI HG HSA HSB hvg kf kak kbk hbs hbg kpk hBk ka kb kp ks kg hB3 hB2 h3s hszk a0 a1 a2 a3 a4 a5 b0 b1 b2 b3 b4 b5 s0 s1 s2 s3 s4 s5 r0 r1 r2 r3 r4 r5 p0 p1 p2 hw1 hw2 hw3 hX hB0k hal hbl kt kq HSM hkm
      go_loopw [21] (fun u21 wr => ∃ k : Nat, k ≤ 2 ^ m ∧ u21 = .int .i64 k ∧ Below X.heap.size X wr) (fun u21 _ => (2 ^ m - intOf u21).toNat)
      case atStart => exact ⟨0, by omega, rfl, Below.refl _ _⟩
      case round =>
        obtain ⟨k, hk, rfl, hBk⟩ := hrel
        rename World => Wl
        have kpk := kpx.below hBk lpx
        have kqk := kQ.below hBk lqx
        have p0 := kpk.cell 0
        have q0 := kqk.cell 0
        have q1 := kqk.cell 1
        have q2 := kqk.cell 2
        simp only [List.getElem?_toArray, List.getElem?_cons_succ, List.getElem?_cons_zero] at p0 q0 q1 q2
        by_cases hkl : k < 2 ^ m
        · have hki : (k : Int) < (2 : Int) ^ m := by omega
          have hx := broken_all _ ⟨m, fourR a b M N m, gn⟩ k Wl (HP.out.below hBk)
          rw [HBR.out k hkl] at hx
          obtain ⟨hy, hz, h03, hlen⟩ := HFB.out k
          generalize brK (fourR a b M N m) k 4 = l at hx hy hz h03 hlen
          go_wp2_with fail
          refine hx.mono ?_
          rintro e wb ⟨vl, rfl, hl, hBb⟩
          obtain ⟨la, lc, rfl, hl1, hl2⟩ := hl.len
          unfold maxLen at hl2
          have hBb2 := hBk.trans (hBb.mono hBk.size)
          have HLL := Lib.hid (And.intro hy (And.intro hz (And.intro h03 hl)))
          clear hx hy hz h03 hl q0 q1 q2 p0
          go_wp2_with fail
          go_loopw [24] (fun u24 wr => ∃ i : Nat, i ≤ l.length ∧ u24 = .int .i64 i ∧ Blk wr wb.heap.size (isA l i) 65 ∧ Below wb.heap.size wb wr) (fun u24 _ => (l.length - intOf u24).toNat)
          case atStart => exact ⟨0, by omega, rfl, Blk.new wb _ 65, (Below.refl _ _).alloc (Nat.le_refl _) _⟩
          case round =>
            obtain ⟨i, hi, rfl, hbi, hBi⟩ := hrel
            rename World => Wi
            obtain ⟨hy, hz, h03, hl⟩ := HLL.out
            by_cases hil : i < l.length
            · have hs := getD_some (0 : Int) hil
              obtain ⟨lb, lo, rfl, hlc⟩ := (hl.below (hBi.mono (Nat.le_refl _))).get hs
              have hst := Lib.hid (is_step hs (hy _ (List.mem_of_getElem? hs)) hbi)
              have hys := hy _ (List.mem_of_getElem? hs)
              have f0 := hbi.frozen 0
              have f1 := hbi.frozen 1
              have f2 := hbi.frozen 2
              have f3 := hbi.frozen 3
              have v0 : Wi.cell? ⟨wb.heap.size, 0, none⟩ = some (.bool ((l.take i).contains 0)) := hbi.cell 0
              have v1 : Wi.cell? ⟨wb.heap.size, 1, none⟩ = some (.bool ((l.take i).contains 1)) := hbi.cell 1
              have v2 : Wi.cell? ⟨wb.heap.size, 2, none⟩ = some (.bool ((l.take i).contains 2)) := hbi.cell 2
              have v3 : Wi.cell? ⟨wb.heap.size, 3, none⟩ = some (.bool ((l.take i).contains 3)) := hbi.cell 3
              have lwi := hbi.lt
              have hii : (0 : Int) ≤ (i : Int) ∧ (i : Int) < (l.length : Int) := by omega
              generalize l.getD i 0 = y at hlc hys hst hs
              have HS := Lib.hid hs
              clear hy hz h03 hl hs
              rcases hys with rfl | rfl | rfl | rfl
              all_goals (
                go_wp2
                go_roundw
                case rel => exact ⟨i + 1, by omega, by go_num, hst.out, hBi.setCell (p := ⟨wb.heap.size, _, none⟩) (Nat.le_refl _) _⟩
                case measure => simp [intOf]; omega)
            · obtain rfl : i = l.length := by omega
              unfold isA at hbi
              rw [List.take_of_length_le (Nat.le_refl _)] at hbi
              have hBl := hBb2.trans (hBi.mono hBb2.size)
              clear HLL hl
              generalize l.contains 0 = x0 at hbi hz h03
              generalize l.contains 1 = x1 at hbi hz
              generalize l.contains 2 = x2 at hbi hz
              generalize l.contains 3 = x3 at hbi h03
              subst h03
              have v0 := hbi.cell 0
              have v1 := hbi.cell 1
              have v2 := hbi.cell 2
              have v3 := hbi.cell 3
              simp only [List.getElem?_toArray, List.getElem?_cons_succ, List.getElem?_cons_zero] at v0 v1 v2 v3
              cases x0 <;> cases x1 <;> cases x2 <;> first | (simp at hz; done) | skip
              all_goals (
                clear hz hy
                go_wp2
                go_roundw
                case rel => exact ⟨k + 1, by omega, by go_num, hBl⟩
                case measure => simp [intOf]; omega)
        · obtain rfl : k = 2 ^ m := by omega
          have hki : ¬ (((2 ^ m : Nat) : Int) < (2 : Int) ^ m) := by omega
          go_wp2
          go_ret
          exact ⟨rfl, hBwX.trans (hBk.mono hBwX.size)⟩
end Go.Proofs.Ytblmpmapcdpaiaa

/- package rational: the four operations. -/
import Derived.BigQuiet
import Derived.Test.YtjnpenljgfdaiaaGreatDoorQ3
namespace Go.Proofs.YtjnpenljgfdaiaaGreatDoor
open Go.RowKit Go.Shelf Lib

def sumR (op : ByteArray → ByteArray → Option Int) (an ad bn bd : ByteArray) : Option (ByteArray × ByteArray) :=
  let b0 := chkL false [(an, ad), (bn, bd)]
  let m1 := doS b0 (N3.outS (N3.mulO an bd)); let b1 := doB b0 (N3.outE (N3.mulO an bd))
  let m2 := doS b1 (N3.outS (N3.mulO bn ad)); let b2 := doB b1 (N3.outE (N3.mulO bn ad))
  let n := doS b2 (N3.outS (op m1 m2)); let b3 := doB b2 (N3.outE (op m1 m2))
  let m3 := doS b3 (N3.outS (N3.mulO ad bd)); let b4 := doB b3 (N3.outE (N3.mulO ad bd))
  redU b4 n m3
theorem five_blocks (w : World) (an ad bn bd : ByteArray) : ∃ W, (((((w.alloc (.cells #[.string an, .string ad] 26)).alloc (.cells #[.string bn, .string bd] 26)).alloc (.cells #[.string ⟨#[]⟩, .string ⟨#[]⟩] 26)).alloc (.cells #[.bool false] 81)).alloc (.cells #[.string an, .string ad, .string bn, .string bd] 26)) = W ∧
    BlkT W w.heap.size #[.string an, .string ad] 26 ∧ BlkT W (w.heap.size + 1) #[.string bn, .string bd] 26 ∧ BlkT W (w.heap.size + 1 + 1) #[.string ⟨#[]⟩, .string ⟨#[]⟩] 26 ∧ BlkT W (w.heap.size + 1 + 1 + 1) #[.bool false] 81 ∧ BlkT W (w.heap.size + 1 + 1 + 1 + 1) #[.string an, .string ad, .string bn, .string bd] 26 ∧ Below w.heap.size w W :=
  ⟨_, rfl, ((((BlkT.newAt w _ _ rfl).alloc _).alloc _).alloc _).alloc _, (((BlkT.newAt _ _ _ (by simp)).alloc _).alloc _).alloc _, ((BlkT.newAt _ _ _ (by simp)).alloc _).alloc _, (BlkT.newAt _ _ _ (by simp)).alloc _, BlkT.newAt _ _ _ (by simp),
    (((((Below.refl _ _).alloc (Nat.le_refl _) _).alloc (by simp) _).alloc (by simp; omega) _).alloc (by simp; omega) _).alloc (by simp; omega) _⟩
theorem Oth.drew (g : Nat) {w V : World} (h : Oth g w V) : Oth g w V.drew := ⟨h.1.drew, h.2⟩
set_option maxRecDepth 100000 in
set_option maxHeartbeats 4000000 in
theorem sum_u (k : Nat) (op : ByteArray → ByteArray → Option Int) (an ad bn bd : ByteArray) (w : World) (hk : ∀ args w, (callFunc k args).run Tryz.prog w = .ok (.enter k args) w)
    (hop : ∀ (x y : ByteArray) (V : World), x.size ≤ 300 → y.size ≤ 300 → EnvW V → Calls Tryz.prog k #[.string x, .string y] V fun r w' => r = .returned (.tuple #[.string (N3.outS (op x y)), .int .i64 (N3.outE (op x y))]) ∧ Below V.heap.size V w')
    (s1 : an.size ≤ 1000000) (s2 : ad.size ≤ 1000000) (s3 : bn.size ≤ 1000000) (s4 : bd.size ≤ 1000000) (he : EnvW w) :
    Calls Tryz.prog 77 #[.func (.func k) #[] #[], ratV an ad, ratV bn bd] w fun r w' => r = .returned (.tuple #[valR (sumR op an ad bn bd), .int .i64 (errR (sumR op an ad bn bd))]) ∧ Below w.heap.size w w' := by
  obtain ⟨W, hW, k1, k2, k3, k4, k5, hB⟩ := five_blocks w an ad bn bd
  have HE := Lib.hid he
  have HOP := Lib.hid hop
  have hc := check_u [(an, ad), (bn, bd)] (w.heap.size + 1 + 1 + 1) (w.heap.size + 1 + 1 + 1 + 1) false W (by simp) (by
    intro r hr
    simp only [List.mem_cons, List.not_mem_nil, or_false] at hr
    rcases hr with rfl | rfl
    · exact ⟨by show an.size ≤ _; omega, by show ad.size ≤ _; omega⟩
    · exact ⟨by show bn.size ≤ _; omega, by show bd.size ≤ _; omega⟩) w he hB (by omega) k4 k5 (by omega)
  obtain ⟨b0, hb0⟩ : ∃ b, b = chkL false [(an, ad), (bn, bd)] := ⟨_, rfl⟩
  rw [← hb0] at hc
  have HC := Lib.hid hc
  have HB0 := Lib.hid hb0
  obtain ⟨m1, hm1⟩ : ∃ s, s = doS b0 (N3.outS (N3.mulO an bd)) := ⟨_, rfl⟩
  obtain ⟨b1, hb1⟩ : ∃ s, s = doB b0 (N3.outE (N3.mulO an bd)) := ⟨_, rfl⟩
  obtain ⟨m2, hm2⟩ : ∃ s, s = doS b1 (N3.outS (N3.mulO bn ad)) := ⟨_, rfl⟩
  obtain ⟨b2, hb2⟩ : ∃ s, s = doB b1 (N3.outE (N3.mulO bn ad)) := ⟨_, rfl⟩
  obtain ⟨n, hn⟩ : ∃ s, s = doS b2 (N3.outS (op m1 m2)) := ⟨_, rfl⟩
  obtain ⟨b3, hb3⟩ : ∃ s, s = doB b2 (N3.outE (op m1 m2)) := ⟨_, rfl⟩
  obtain ⟨m3, hm3⟩ : ∃ s, s = doS b3 (N3.outS (N3.mulO ad bd)) := ⟨_, rfl⟩
  obtain ⟨b4, hb4⟩ : ∃ s, s = doB b3 (N3.outE (N3.mulO ad bd)) := ⟨_, rfl⟩
  obtain ⟨R, hR⟩ : ∃ R, redU b4 n m3 = R := ⟨_, rfl⟩
  have e : sumR op an ad bn bd = R := by rw [← hR]; unfold sumR; rw [hb4, hm3, hb3, hn, hb2, hm2, hb1, hm1, hb0]
  rw [e]
  have z1 : m1.size ≤ 300 := by rw [hm1]; exact doS_size _ _
  have z2 : m2.size ≤ 300 := by rw [hm2]; exact doS_size _ _
  have z3 : n.size ≤ 300 := by rw [hn]; exact doS_size _ _
  have z4 : m3.size ≤ 300 := by rw [hm3]; exact doS_size _ _
  have M1 : Hid (∀ V, EnvW V → WkB V (w.heap.size + 1 + 1 + 1) b0 → _) := Lib.hid (fun V hV hg => by have q := mul_u an bd (w.heap.size + 1 + 1 + 1) b0 V (by omega) (by omega) hV hg; rw [← hm1, ← hb1] at q; exact q)
  have M2 : Hid (∀ V, EnvW V → WkB V (w.heap.size + 1 + 1 + 1) b1 → _) := Lib.hid (fun V hV hg => by have q := mul_u bn ad (w.heap.size + 1 + 1 + 1) b1 V (by omega) (by omega) hV hg; rw [← hm2, ← hb2] at q; exact q)
  have M3 : Hid (∀ V, EnvW V → WkB V (w.heap.size + 1 + 1 + 1) b2 → _) := Lib.hid (fun V hV hg => by have q := do_u k m1 m2 _ _ (w.heap.size + 1 + 1 + 1) b2 V hk (HOP.out m1 m2 V z1 z2 hV) hg; rw [← hn, ← hb3] at q; exact q)
  have M4 : Hid (∀ V, EnvW V → WkB V (w.heap.size + 1 + 1 + 1) b3 → _) := Lib.hid (fun V hV hg => by have q := mul_u ad bd (w.heap.size + 1 + 1 + 1) b3 V (by omega) (by omega) hV hg; rw [← hm3, ← hb4] at q; exact q)
  have RD : Hid (∀ V, Below w.heap.size w V → WkB V (w.heap.size + 1 + 1 + 1) b4 → _) := Lib.hid (fun V hV hg => by have q := reduced_u n m3 (w.heap.size + 1 + 1 + 1) b4 V w (by omega) (by omega) HE.out hV (by omega) hg; rw [hR] at q; exact q)
  have K1 := Lib.hid k1
  have K2 := Lib.hid k2
  have K3 := Lib.hid k3
  have x0 := k1.cell 0
  have x1 := k1.cell 1
  have y0 := k2.cell 0
  have y1 := k2.cell 1
  simp only [List.getElem?_toArray, List.getElem?_cons_succ, List.getElem?_cons_zero] at x0 x1 y0 y1
  have hne1 : w.heap.size ≠ w.heap.size + 1 + 1 + 1 := by omega
  have hne2 : w.heap.size + 1 ≠ w.heap.size + 1 + 1 + 1 := by omega
  have hne3 : w.heap.size + 1 + 1 ≠ w.heap.size + 1 + 1 + 1 := by omega
  clear hb0 hm1 hb1 hm2 hb2 hn hb3 hm3 hb4 hR e hc he hop k1 k2 k3 k4 k5 z1 z2 z3 z4 hk
  go_enter Tryz.func77, Tryz.ntmps77
  go_wp2_with (simp only [hW])
  refine HC.out.mono ?_
  rintro r V1 ⟨rfl, hg1, hO1⟩
  have l1 := hO1.blk K1.out hne1
  have l2 := hO1.blk K2.out hne2
  have l3 := hO1.blk K3.out hne3
  clear x0 x1 y0 y1 hW
  have KC := Lib.hid (fun V (hV : Oth (w.heap.size + 1 + 1 + 1) V1 V) => And.intro (And.intro ((hV.blk l1 hne1).cell 0) ((hV.blk l1 hne1).cell 1)) (And.intro ((hV.blk l2 hne2).cell 0) ((hV.blk l2 hne2).cell 1)))
  simp only [List.getElem?_toArray, List.getElem?_cons_succ, List.getElem?_cons_zero] at KC
  have hgd : WkB V1.drew (w.heap.size + 1 + 1 + 1) b0 := hg1
  have EV := Lib.hid (fun V (hV : Oth (w.heap.size + 1 + 1 + 1) V1 V) => HE.out.below (hV.below (hO1.below hB (by omega)) (by omega)))
  go_wp2_with fail
  go_region_held3 (fun w' => Oth (w.heap.size + 1 + 1 + 1) V1 w' ∧ ((w'.cell? ⟨w.heap.size, 0, none⟩ = some (.string an) ∧ w'.cell? ⟨w.heap.size, 1, none⟩ = some (.string ad)) ∧ (w'.cell? ⟨w.heap.size + 1, 0, none⟩ = some (.string bn) ∧ w'.cell? ⟨w.heap.size + 1, 1, none⟩ = some (.string bd))))
    (first | exact ⟨(Oth.refl _ _).drew, KC.out _ (Oth.refl _ _).drew⟩ | (have hh := (‹Oth (w.heap.size + 1 + 1 + 1) V1 _ ∧ _›).1.trans hOq; exact ⟨hh, KC.out _ hh⟩) | go_keep)
    (first
      | (go_at_call 79; (with_reducible refine (M1.out _ (EV.out _ (‹Oth (w.heap.size + 1 + 1 + 1) V1 _ ∧ _›).1) hgd).mono ?_); rintro r wq ⟨rfl, hgq, hOq⟩)
      | (go_at_call 79; (with_reducible refine (M2.out _ (EV.out _ (‹Oth (w.heap.size + 1 + 1 + 1) V1 _ ∧ _›).1) (by assumption)).mono ?_); rintro r wq ⟨rfl, hgq, hOq⟩)
      | (go_at_call 110; (with_reducible refine (M3.out _ (EV.out _ (‹Oth (w.heap.size + 1 + 1 + 1) V1 _ ∧ _›).1) (by assumption)).mono ?_); rintro r wq ⟨rfl, hgq, hOq⟩))
  all_goals (
    have hg3 := ‹WkB _ (w.heap.size + 1 + 1 + 1) b3›
    have hh3 := (‹Oth (w.heap.size + 1 + 1 + 1) V1 _ ∧ _›).1
    have hc3 := (‹Oth (w.heap.size + 1 + 1 + 1) V1 _ ∧ _›).2
    obtain ⟨⟨u0, u1⟩, u2, u3⟩ := hc3
    go_wp2_with fail
    refine (M4.out _ (EV.out _ hh3) hg3).mono ?_
    rintro r X4 ⟨rfl, hg4, hO4⟩
    have hh4 := hh3.trans hO4
    have hB4 := hh4.below (hO1.below hB (by omega)) (by omega)
    clear u0 u1 u2 u3
    go_wp2_with fail
    refine (RD.out _ hB4 hg4).mono ?_
    rintro r X5 ⟨rfl, hO5⟩
    have hB5 := hO5.below hB4 (by omega)
    have l4 := (hh4.trans hO5).blk l3 hne3
    have x0 := l4.cell 0
    have x1 := l4.cell 1
    have f0 := l4.frozen 0
    have f1 := l4.frozen 1
    simp only [List.getElem?_toArray, List.getElem?_cons_succ, List.getElem?_cons_zero] at x0 x1
    have HK := Lib.hid l4
    clear l4 hg3 hh3
    cases R with
    | none =>
      dsimp only [valR, errR]
      go_wp2_with fail
      have hz : BlkT _ _ #[.string ⟨#[]⟩, .string ⟨#[]⟩] 26 := (HK.out.set 0 (.string ⟨#[]⟩)).set 1 (.string ⟨#[]⟩)
      have z0 := hz.cell 0
      have z1 := hz.cell 1
      simp only [List.getElem?_toArray, List.getElem?_cons_succ, List.getElem?_cons_zero] at z0 z1
      refine bodyPost_ret (v := .tuple #[ratV ⟨#[]⟩ ⟨#[]⟩, .int .i64 40]) (by simp [results, Tryz.results77, go_sem, z0, z1]) rfl ?_
      exact ⟨rfl, (hB5.setCell (by show w.heap.size ≤ w.heap.size + 1 + 1; omega) _).setCell (by show w.heap.size ≤ w.heap.size + 1 + 1; omega) _⟩
    | some R =>
      obtain ⟨x, y⟩ := R
      dsimp only [valR, errR]
      go_wp2_with fail
      have hz : BlkT _ _ #[.string x, .string y] 26 := (HK.out.set 0 (.string x)).set 1 (.string y)
      have z0 := hz.cell 0
      have z1 := hz.cell 1
      simp only [List.getElem?_toArray, List.getElem?_cons_succ, List.getElem?_cons_zero] at z0 z1
      refine bodyPost_ret (v := .tuple #[ratV x y, .int .i64 0]) (by simp [results, Tryz.results77, go_sem, z0, z1]) rfl ?_
      exact ⟨rfl, (hB5.setCell (by show w.heap.size ≤ w.heap.size + 1 + 1; omega) _).setCell (by show w.heap.size ≤ w.heap.size + 1 + 1; omega) _⟩)
theorem three_blocks (w : World) (an ad bn bd : ByteArray) : ∃ W, ((w.alloc (.cells #[.string an, .string ad] 26)).alloc (.cells #[.string bn, .string bd] 26)).alloc (.cells #[.string ⟨#[]⟩, .string ⟨#[]⟩] 26) = W ∧
    BlkT W w.heap.size #[.string an, .string ad] 26 ∧ BlkT W (w.heap.size + 1) #[.string bn, .string bd] 26 ∧ BlkT W (w.heap.size + 1 + 1) #[.string ⟨#[]⟩, .string ⟨#[]⟩] 26 ∧ Below w.heap.size w W :=
  ⟨_, rfl, ((BlkT.newAt w _ _ rfl).alloc _).alloc _, (BlkT.newAt _ _ _ (by simp)).alloc _, BlkT.newAt _ _ _ (by simp),
    (((Below.refl _ _).alloc (Nat.le_refl _) _).alloc (by simp) _).alloc (by simp; omega) _⟩
set_option maxRecDepth 100000 in
set_option maxHeartbeats 4000000 in
theorem add04 (an ad bn bd : ByteArray) (w : World) (s1 : an.size ≤ 1000000) (s2 : ad.size ≤ 1000000) (s3 : bn.size ≤ 1000000) (s4 : bd.size ≤ 1000000) (he : EnvW w) :
    Calls Tryz.prog 26 #[ratV an ad, ratV bn bd] w fun r w' => r = .returned (.tuple #[valR (sumR N3.addO an ad bn bd), .int .i64 (errR (sumR N3.addO an ad bn bd))]) ∧ Below w.heap.size w w' := by
  obtain ⟨W, hW, k1, k2, k3, hB⟩ := three_blocks w an ad bn bd
  have HE := Lib.hid he
  have HS := Lib.hid (fun V (hV : EnvW V) => sum_u 34 N3.addO an ad bn bd V Tryz.call34 (fun x y V hx hy hV => add_f x y V (by omega) (by omega) hV) s1 s2 s3 s4 hV)
  obtain ⟨R, hR⟩ : ∃ R, sumR N3.addO an ad bn bd = R := ⟨_, rfl⟩
  rw [hR] at HS ⊢
  have x0 := k1.cell 0
  have x1 := k1.cell 1
  have y0 := k2.cell 0
  have y1 := k2.cell 1
  simp only [List.getElem?_toArray, List.getElem?_cons_succ, List.getElem?_cons_zero] at x0 x1 y0 y1
  have K3 := Lib.hid k3
  clear hR he k1 k2 k3
  go_enter Tryz.func26, Tryz.ntmps26
  go_wp2_with (simp only [hW])
  refine (HS.out _ (HE.out.below hB)).mono ?_
  rintro r V1 ⟨rfl, hb1⟩
  have hB1 := hB.trans (hb1.mono hB.size)
  have l4 := BlkT.keep K3.out hb1
  clear x0 x1 y0 y1
  have x0 := l4.cell 0
  have x1 := l4.cell 1
  have f0 := l4.frozen 0
  have f1 := l4.frozen 1
  simp only [List.getElem?_toArray, List.getElem?_cons_succ, List.getElem?_cons_zero] at x0 x1
  have HK := Lib.hid l4
  clear l4 hW
  cases R with
  | none =>
    dsimp only [valR, errR]
    go_wp2_with fail
    have hz : BlkT _ _ #[.string ⟨#[]⟩, .string ⟨#[]⟩] 26 := (HK.out.set 0 (.string ⟨#[]⟩)).set 1 (.string ⟨#[]⟩)
    have z0 := hz.cell 0
    have z1 := hz.cell 1
    simp only [List.getElem?_toArray, List.getElem?_cons_succ, List.getElem?_cons_zero] at z0 z1
    refine bodyPost_ret (v := .tuple #[ratV ⟨#[]⟩ ⟨#[]⟩, .int .i64 40]) (by simp [results, Tryz.results26, go_sem, z0, z1]) rfl ?_
    exact ⟨rfl, (hB1.setCell (by show w.heap.size ≤ w.heap.size + 1 + 1; omega) _).setCell (by show w.heap.size ≤ w.heap.size + 1 + 1; omega) _⟩
  | some R =>
    obtain ⟨x, y⟩ := R
    dsimp only [valR, errR]
    go_wp2_with fail
    have hz : BlkT _ _ #[.string x, .string y] 26 := (HK.out.set 0 (.string x)).set 1 (.string y)
    have z0 := hz.cell 0
    have z1 := hz.cell 1
    simp only [List.getElem?_toArray, List.getElem?_cons_succ, List.getElem?_cons_zero] at z0 z1
    refine bodyPost_ret (v := .tuple #[ratV x y, .int .i64 0]) (by simp [results, Tryz.results26, go_sem, z0, z1]) rfl ?_
    exact ⟨rfl, (hB1.setCell (by show w.heap.size ≤ w.heap.size + 1 + 1; omega) _).setCell (by show w.heap.size ≤ w.heap.size + 1 + 1; omega) _⟩
set_option maxRecDepth 100000 in
set_option maxHeartbeats 4000000 in
theorem sub04 (an ad bn bd : ByteArray) (w : World) (s1 : an.size ≤ 1000000) (s2 : ad.size ≤ 1000000) (s3 : bn.size ≤ 1000000) (s4 : bd.size ≤ 1000000) (he : EnvW w) :
    Calls Tryz.prog 24 #[ratV an ad, ratV bn bd] w fun r w' => r = .returned (.tuple #[valR (sumR N3.subO an ad bn bd), .int .i64 (errR (sumR N3.subO an ad bn bd))]) ∧ Below w.heap.size w w' := by
  obtain ⟨W, hW, k1, k2, k3, hB⟩ := three_blocks w an ad bn bd
  have HE := Lib.hid he
  have HS := Lib.hid (fun V (hV : EnvW V) => sum_u 36 N3.subO an ad bn bd V Tryz.call36 (fun x y V hx hy hV => sub_f x y V (by omega) (by omega) hV) s1 s2 s3 s4 hV)
  obtain ⟨R, hR⟩ : ∃ R, sumR N3.subO an ad bn bd = R := ⟨_, rfl⟩
  rw [hR] at HS ⊢
  have x0 := k1.cell 0
  have x1 := k1.cell 1
  have y0 := k2.cell 0
  have y1 := k2.cell 1
  simp only [List.getElem?_toArray, List.getElem?_cons_succ, List.getElem?_cons_zero] at x0 x1 y0 y1
  have K3 := Lib.hid k3
  clear hR he k1 k2 k3
  go_enter Tryz.func24, Tryz.ntmps24
  go_wp2_with (simp only [hW])
  refine (HS.out _ (HE.out.below hB)).mono ?_
  rintro r V1 ⟨rfl, hb1⟩
  have hB1 := hB.trans (hb1.mono hB.size)
  have l4 := BlkT.keep K3.out hb1
  clear x0 x1 y0 y1
  have x0 := l4.cell 0
  have x1 := l4.cell 1
  have f0 := l4.frozen 0
  have f1 := l4.frozen 1
  simp only [List.getElem?_toArray, List.getElem?_cons_succ, List.getElem?_cons_zero] at x0 x1
  have HK := Lib.hid l4
  clear l4 hW
  cases R with
  | none =>
    dsimp only [valR, errR]
    go_wp2_with fail
    have hz : BlkT _ _ #[.string ⟨#[]⟩, .string ⟨#[]⟩] 26 := (HK.out.set 0 (.string ⟨#[]⟩)).set 1 (.string ⟨#[]⟩)
    have z0 := hz.cell 0
    have z1 := hz.cell 1
    simp only [List.getElem?_toArray, List.getElem?_cons_succ, List.getElem?_cons_zero] at z0 z1
    refine bodyPost_ret (v := .tuple #[ratV ⟨#[]⟩ ⟨#[]⟩, .int .i64 40]) (by simp [results, Tryz.results24, go_sem, z0, z1]) rfl ?_
    exact ⟨rfl, (hB1.setCell (by show w.heap.size ≤ w.heap.size + 1 + 1; omega) _).setCell (by show w.heap.size ≤ w.heap.size + 1 + 1; omega) _⟩
  | some R =>
    obtain ⟨x, y⟩ := R
    dsimp only [valR, errR]
    go_wp2_with fail
    have hz : BlkT _ _ #[.string x, .string y] 26 := (HK.out.set 0 (.string x)).set 1 (.string y)
    have z0 := hz.cell 0
    have z1 := hz.cell 1
    simp only [List.getElem?_toArray, List.getElem?_cons_succ, List.getElem?_cons_zero] at z0 z1
    refine bodyPost_ret (v := .tuple #[ratV x y, .int .i64 0]) (by simp [results, Tryz.results24, go_sem, z0, z1]) rfl ?_
    exact ⟨rfl, (hB1.setCell (by show w.heap.size ≤ w.heap.size + 1 + 1; omega) _).setCell (by show w.heap.size ≤ w.heap.size + 1 + 1; omega) _⟩
def mulR (an ad bn bd : ByteArray) : Option (ByteArray × ByteArray) :=
  let b0 := chkL false [(an, ad), (bn, bd)]
  let n := doS b0 (N3.outS (N3.mulO an bn)); let b1 := doB b0 (N3.outE (N3.mulO an bn))
  let m := doS b1 (N3.outS (N3.mulO ad bd)); let b2 := doB b1 (N3.outE (N3.mulO ad bd))
  redU b2 n m
set_option maxRecDepth 100000 in
set_option maxHeartbeats 4000000 in
theorem mul04 (an ad bn bd : ByteArray) (w : World) (s1 : an.size ≤ 1000000) (s2 : ad.size ≤ 1000000) (s3 : bn.size ≤ 1000000) (s4 : bd.size ≤ 1000000) (he : EnvW w) :
    Calls Tryz.prog 27 #[ratV an ad, ratV bn bd] w fun r w' => r = .returned (.tuple #[valR (mulR an ad bn bd), .int .i64 (errR (mulR an ad bn bd))]) ∧ Below w.heap.size w w' := by
  obtain ⟨W, hW, k1, k2, k3, k4, k5, hB⟩ := five_blocks w an ad bn bd
  have HE := Lib.hid he
  have hc := check_u [(an, ad), (bn, bd)] (w.heap.size + 1 + 1 + 1) (w.heap.size + 1 + 1 + 1 + 1) false W (by simp) (by
    intro r hr
    simp only [List.mem_cons, List.not_mem_nil, or_false] at hr
    rcases hr with rfl | rfl
    · exact ⟨by show an.size ≤ _; omega, by show ad.size ≤ _; omega⟩
    · exact ⟨by show bn.size ≤ _; omega, by show bd.size ≤ _; omega⟩) w he hB (by omega) k4 k5 (by omega)
  obtain ⟨b0, hb0⟩ : ∃ b, b = chkL false [(an, ad), (bn, bd)] := ⟨_, rfl⟩
  rw [← hb0] at hc
  have HC := Lib.hid hc
  obtain ⟨n, hn⟩ : ∃ s, s = doS b0 (N3.outS (N3.mulO an bn)) := ⟨_, rfl⟩
  obtain ⟨b1, hb1⟩ : ∃ s, s = doB b0 (N3.outE (N3.mulO an bn)) := ⟨_, rfl⟩
  obtain ⟨m, hm⟩ : ∃ s, s = doS b1 (N3.outS (N3.mulO ad bd)) := ⟨_, rfl⟩
  obtain ⟨b2, hb2⟩ : ∃ s, s = doB b1 (N3.outE (N3.mulO ad bd)) := ⟨_, rfl⟩
  obtain ⟨R, hR⟩ : ∃ R, redU b2 n m = R := ⟨_, rfl⟩
  have e : mulR an ad bn bd = R := by rw [← hR]; unfold mulR; rw [hb2, hm, hb1, hn, hb0]
  rw [e]
  have z1 : n.size ≤ 300 := by rw [hn]; exact doS_size _ _
  have z2 : m.size ≤ 300 := by rw [hm]; exact doS_size _ _
  have M1 : Hid (∀ V, EnvW V → WkB V (w.heap.size + 1 + 1 + 1) b0 → _) := Lib.hid (fun V hV hg => by have q := mul_u an bn (w.heap.size + 1 + 1 + 1) b0 V (by omega) (by omega) hV hg; rw [← hn, ← hb1] at q; exact q)
  have M2 : Hid (∀ V, EnvW V → WkB V (w.heap.size + 1 + 1 + 1) b1 → _) := Lib.hid (fun V hV hg => by have q := mul_u ad bd (w.heap.size + 1 + 1 + 1) b1 V (by omega) (by omega) hV hg; rw [← hm, ← hb2] at q; exact q)
  have RD : Hid (∀ V, Below w.heap.size w V → WkB V (w.heap.size + 1 + 1 + 1) b2 → _) := Lib.hid (fun V hV hg => by have q := reduced_u n m (w.heap.size + 1 + 1 + 1) b2 V w (by omega) (by omega) HE.out hV (by omega) hg; rw [hR] at q; exact q)
  have K1 := Lib.hid k1
  have K2 := Lib.hid k2
  have K3 := Lib.hid k3
  have x0 := k1.cell 0
  have x1 := k1.cell 1
  have y0 := k2.cell 0
  have y1 := k2.cell 1
  simp only [List.getElem?_toArray, List.getElem?_cons_succ, List.getElem?_cons_zero] at x0 x1 y0 y1
  have hne1 : w.heap.size ≠ w.heap.size + 1 + 1 + 1 := by omega
  have hne2 : w.heap.size + 1 ≠ w.heap.size + 1 + 1 + 1 := by omega
  have hne3 : w.heap.size + 1 + 1 ≠ w.heap.size + 1 + 1 + 1 := by omega
  clear hb0 hb1 hb2 hn hm hR e hc he k1 k2 k3 k4 k5 z1 z2
  go_enter Tryz.func27, Tryz.ntmps27
  go_wp2_with (simp only [hW])
  refine HC.out.mono ?_
  rintro r V1 ⟨rfl, hg1, hO1⟩
  have l1 := hO1.blk K1.out hne1
  have l2 := hO1.blk K2.out hne2
  have l3 := hO1.blk K3.out hne3
  have hB1 := hO1.below hB (by omega)
  clear x0 x1 y0 y1 hW
  have x0 := l1.cell 0
  have x1 := l1.cell 1
  have y0 := l2.cell 0
  have y1 := l2.cell 1
  simp only [List.getElem?_toArray, List.getElem?_cons_succ, List.getElem?_cons_zero] at x0 x1 y0 y1
  go_wp2_with fail
  refine (M1.out _ (HE.out.below hB1) hg1).mono ?_
  rintro r V2 ⟨rfl, hg2, hO2⟩
  have l1 := hO2.blk l1 hne1
  have l2 := hO2.blk l2 hne2
  have l3 := hO2.blk l3 hne3
  have hB2 := hO2.below hB1 (by omega)
  clear x0 x1 y0 y1
  have x0 := l1.cell 0
  have x1 := l1.cell 1
  have y0 := l2.cell 0
  have y1 := l2.cell 1
  simp only [List.getElem?_toArray, List.getElem?_cons_succ, List.getElem?_cons_zero] at x0 x1 y0 y1
  go_wp2_with fail
  refine (M2.out _ (HE.out.below hB2) hg2).mono ?_
  rintro r V3 ⟨rfl, hg3, hO3⟩
  have l3 := hO3.blk l3 hne3
  have hB3 := hO3.below hB2 (by omega)
  clear x0 x1 y0 y1
  go_wp2_with fail
  refine (RD.out _ hB3 hg3).mono ?_
  rintro r V4 ⟨rfl, hO4⟩
  have l4 := hO4.blk l3 hne3
  have hB4 := hO4.below hB3 (by omega)
  have x0 := l4.cell 0
  have x1 := l4.cell 1
  have f0 := l4.frozen 0
  have f1 := l4.frozen 1
  simp only [List.getElem?_toArray, List.getElem?_cons_succ, List.getElem?_cons_zero] at x0 x1
  have HK := Lib.hid l4
  clear l4
  cases R with
  | none =>
    dsimp only [valR, errR]
    go_wp2_with fail
    have hz : BlkT _ _ #[.string ⟨#[]⟩, .string ⟨#[]⟩] 26 := (HK.out.set 0 (.string ⟨#[]⟩)).set 1 (.string ⟨#[]⟩)
    have z0 := hz.cell 0
    have z1 := hz.cell 1
    simp only [List.getElem?_toArray, List.getElem?_cons_succ, List.getElem?_cons_zero] at z0 z1
    refine bodyPost_ret (v := .tuple #[ratV ⟨#[]⟩ ⟨#[]⟩, .int .i64 40]) (by simp [results, Tryz.results27, go_sem, z0, z1]) rfl ?_
    exact ⟨rfl, (hB4.setCell (by show w.heap.size ≤ w.heap.size + 1 + 1; omega) _).setCell (by show w.heap.size ≤ w.heap.size + 1 + 1; omega) _⟩
  | some R =>
    obtain ⟨x, y⟩ := R
    dsimp only [valR, errR]
    go_wp2_with fail
    have hz : BlkT _ _ #[.string x, .string y] 26 := (HK.out.set 0 (.string x)).set 1 (.string y)
    have z0 := hz.cell 0
    have z1 := hz.cell 1
    simp only [List.getElem?_toArray, List.getElem?_cons_succ, List.getElem?_cons_zero] at z0 z1
    refine bodyPost_ret (v := .tuple #[ratV x y, .int .i64 0]) (by simp [results, Tryz.results27, go_sem, z0, z1]) rfl ?_
    exact ⟨rfl, (hB4.setCell (by show w.heap.size ≤ w.heap.size + 1 + 1; omega) _).setCell (by show w.heap.size ≤ w.heap.size + 1 + 1; omega) _⟩
def divR (an ad bn bd : ByteArray) : Option (ByteArray × ByteArray) :=
  let b0 := chkL false [(an, ad), (bn, bd)]
  let n := doS b0 (N3.outS (N3.mulO an bd)); let b1 := doB b0 (N3.outE (N3.mulO an bd))
  let m := doS b1 (N3.outS (N3.mulO ad bn)); let b2 := doB b1 (N3.outE (N3.mulO ad bn))
  redU b2 n m
set_option maxRecDepth 100000 in
set_option maxHeartbeats 4000000 in
theorem div04 (an ad bn bd : ByteArray) (w : World) (s1 : an.size ≤ 1000000) (s2 : ad.size ≤ 1000000) (s3 : bn.size ≤ 1000000) (s4 : bd.size ≤ 1000000) (he : EnvW w) :
    Calls Tryz.prog 63 #[ratV an ad, ratV bn bd] w fun r w' => r = .returned (.tuple #[valR (divR an ad bn bd), .int .i64 (errR (divR an ad bn bd))]) ∧ Below w.heap.size w w' := by
  obtain ⟨W, hW, k1, k2, k3, k4, k5, hB⟩ := five_blocks w an ad bn bd
  have HE := Lib.hid he
  have hc := check_u [(an, ad), (bn, bd)] (w.heap.size + 1 + 1 + 1) (w.heap.size + 1 + 1 + 1 + 1) false W (by simp) (by
    intro r hr
    simp only [List.mem_cons, List.not_mem_nil, or_false] at hr
    rcases hr with rfl | rfl
    · exact ⟨by show an.size ≤ _; omega, by show ad.size ≤ _; omega⟩
    · exact ⟨by show bn.size ≤ _; omega, by show bd.size ≤ _; omega⟩) w he hB (by omega) k4 k5 (by omega)
  obtain ⟨b0, hb0⟩ : ∃ b, b = chkL false [(an, ad), (bn, bd)] := ⟨_, rfl⟩
  rw [← hb0] at hc
  have HC := Lib.hid hc
  obtain ⟨n, hn⟩ : ∃ s, s = doS b0 (N3.outS (N3.mulO an bd)) := ⟨_, rfl⟩
  obtain ⟨b1, hb1⟩ : ∃ s, s = doB b0 (N3.outE (N3.mulO an bd)) := ⟨_, rfl⟩
  obtain ⟨m, hm⟩ : ∃ s, s = doS b1 (N3.outS (N3.mulO ad bn)) := ⟨_, rfl⟩
  obtain ⟨b2, hb2⟩ : ∃ s, s = doB b1 (N3.outE (N3.mulO ad bn)) := ⟨_, rfl⟩
  obtain ⟨R, hR⟩ : ∃ R, redU b2 n m = R := ⟨_, rfl⟩
  have e : divR an ad bn bd = R := by rw [← hR]; unfold divR; rw [hb2, hm, hb1, hn, hb0]
  rw [e]
  have z1 : n.size ≤ 300 := by rw [hn]; exact doS_size _ _
  have z2 : m.size ≤ 300 := by rw [hm]; exact doS_size _ _
  have M1 : Hid (∀ V, EnvW V → WkB V (w.heap.size + 1 + 1 + 1) b0 → _) := Lib.hid (fun V hV hg => by have q := mul_u an bd (w.heap.size + 1 + 1 + 1) b0 V (by omega) (by omega) hV hg; rw [← hn, ← hb1] at q; exact q)
  have M2 : Hid (∀ V, EnvW V → WkB V (w.heap.size + 1 + 1 + 1) b1 → _) := Lib.hid (fun V hV hg => by have q := mul_u ad bn (w.heap.size + 1 + 1 + 1) b1 V (by omega) (by omega) hV hg; rw [← hm, ← hb2] at q; exact q)
  have RD : Hid (∀ V, Below w.heap.size w V → WkB V (w.heap.size + 1 + 1 + 1) b2 → _) := Lib.hid (fun V hV hg => by have q := reduced_u n m (w.heap.size + 1 + 1 + 1) b2 V w (by omega) (by omega) HE.out hV (by omega) hg; rw [hR] at q; exact q)
  have K1 := Lib.hid k1
  have K2 := Lib.hid k2
  have K3 := Lib.hid k3
  have x0 := k1.cell 0
  have x1 := k1.cell 1
  have y0 := k2.cell 0
  have y1 := k2.cell 1
  simp only [List.getElem?_toArray, List.getElem?_cons_succ, List.getElem?_cons_zero] at x0 x1 y0 y1
  have hne1 : w.heap.size ≠ w.heap.size + 1 + 1 + 1 := by omega
  have hne2 : w.heap.size + 1 ≠ w.heap.size + 1 + 1 + 1 := by omega
  have hne3 : w.heap.size + 1 + 1 ≠ w.heap.size + 1 + 1 + 1 := by omega
  clear hb0 hb1 hb2 hn hm hR e hc he k1 k2 k3 k4 k5 z1 z2
  go_enter Tryz.func63, Tryz.ntmps63
  go_wp2_with (simp only [hW])
  refine HC.out.mono ?_
  rintro r V1 ⟨rfl, hg1, hO1⟩
  have l1 := hO1.blk K1.out hne1
  have l2 := hO1.blk K2.out hne2
  have l3 := hO1.blk K3.out hne3
  have hB1 := hO1.below hB (by omega)
  clear x0 x1 y0 y1 hW
  have x0 := l1.cell 0
  have x1 := l1.cell 1
  have y0 := l2.cell 0
  have y1 := l2.cell 1
  simp only [List.getElem?_toArray, List.getElem?_cons_succ, List.getElem?_cons_zero] at x0 x1 y0 y1
  go_wp2_with fail
  refine (M1.out _ (HE.out.below hB1) hg1).mono ?_
  rintro r V2 ⟨rfl, hg2, hO2⟩
  have l1 := hO2.blk l1 hne1
  have l2 := hO2.blk l2 hne2
  have l3 := hO2.blk l3 hne3
  have hB2 := hO2.below hB1 (by omega)
  clear x0 x1 y0 y1
  have x0 := l1.cell 0
  have x1 := l1.cell 1
  have y0 := l2.cell 0
  have y1 := l2.cell 1
  simp only [List.getElem?_toArray, List.getElem?_cons_succ, List.getElem?_cons_zero] at x0 x1 y0 y1
  go_wp2_with fail
  refine (M2.out _ (HE.out.below hB2) hg2).mono ?_
  rintro r V3 ⟨rfl, hg3, hO3⟩
  have l3 := hO3.blk l3 hne3
  have hB3 := hO3.below hB2 (by omega)
  clear x0 x1 y0 y1
  go_wp2_with fail
  refine (RD.out _ hB3 hg3).mono ?_
  rintro r V4 ⟨rfl, hO4⟩
  have l4 := hO4.blk l3 hne3
  have hB4 := hO4.below hB3 (by omega)
  have x0 := l4.cell 0
  have x1 := l4.cell 1
  have f0 := l4.frozen 0
  have f1 := l4.frozen 1
  simp only [List.getElem?_toArray, List.getElem?_cons_succ, List.getElem?_cons_zero] at x0 x1
  have HK := Lib.hid l4
  clear l4
  cases R with
  | none =>
    dsimp only [valR, errR]
    go_wp2_with fail
    have hz : BlkT _ _ #[.string ⟨#[]⟩, .string ⟨#[]⟩] 26 := (HK.out.set 0 (.string ⟨#[]⟩)).set 1 (.string ⟨#[]⟩)
    have z0 := hz.cell 0
    have z1 := hz.cell 1
    simp only [List.getElem?_toArray, List.getElem?_cons_succ, List.getElem?_cons_zero] at z0 z1
    refine bodyPost_ret (v := .tuple #[ratV ⟨#[]⟩ ⟨#[]⟩, .int .i64 40]) (by simp [results, Tryz.results63, go_sem, z0, z1]) rfl ?_
    exact ⟨rfl, (hB4.setCell (by show w.heap.size ≤ w.heap.size + 1 + 1; omega) _).setCell (by show w.heap.size ≤ w.heap.size + 1 + 1; omega) _⟩
  | some R =>
    obtain ⟨x, y⟩ := R
    dsimp only [valR, errR]
    go_wp2_with fail
    have hz : BlkT _ _ #[.string x, .string y] 26 := (HK.out.set 0 (.string x)).set 1 (.string y)
    have z0 := hz.cell 0
    have z1 := hz.cell 1
    simp only [List.getElem?_toArray, List.getElem?_cons_succ, List.getElem?_cons_zero] at z0 z1
    refine bodyPost_ret (v := .tuple #[ratV x y, .int .i64 0]) (by simp [results, Tryz.results63, go_sem, z0, z1]) rfl ?_
    exact ⟨rfl, (hB4.setCell (by show w.heap.size ≤ w.heap.size + 1 + 1; omega) _).setCell (by show w.heap.size ≤ w.heap.size + 1 + 1; omega) _⟩
end Go.Proofs.YtjnpenljgfdaiaaGreatDoor

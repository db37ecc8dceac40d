/- nadirlaw04: the chapter's examples. -/
import Derived.Deep.RegionWith
import Derived.Test.YtjnpenljgfdaiaaGreatDoorQ7
namespace Go.Proofs.YtjnpenljgfdaiaaGreatDoor
open Go.RowKit Go.Shelf Lib

theorem opt_lit {o : Option (ByteArray × ByteArray)} {x y : ByteArray} (h : o.map (fun r => (r.1.data.toList, r.2.data.toList)) = some (x.data.toList, y.data.toList)) : o = some (x, y) := by
  cases o with
  | none => cases h
  | some r =>
    injection h with h
    injection h with h1 h2
    have e1 : r.1 = x := bytes_ext h1
    have e2 : r.2 = y := bytes_ext h2
    rw [← e1, ← e2]
theorem is_any (x y : ByteArray) (w : World) : Calls Tryz.prog 25 #[.string x, .string y] w fun r w' => r = .returned (ratV x y) ∧ Below w.heap.size w w' := by
  obtain ⟨W, hW⟩ : ∃ W, w.alloc (.cells #[.string ⟨#[]⟩, .string ⟨#[]⟩] 26) = W := ⟨_, rfl⟩
  have k1 : BlkT W w.heap.size #[.string ⟨#[]⟩, .string ⟨#[]⟩] 26 := hW ▸ BlkT.newAt w _ _ rfl
  have hB : Below w.heap.size w W := hW ▸ (Below.refl _ _).alloc (Nat.le_refl _) _
  have x0 := k1.cell 0
  have x1 := k1.cell 1
  have f0 := k1.frozen 0
  have f1 := k1.frozen 1
  simp only [List.getElem?_toArray, List.getElem?_cons_succ, List.getElem?_cons_zero] at x0 x1
  have K1 := Lib.hid k1
  clear k1
  go_enter Tryz.func25, Tryz.ntmps25
  go_wp2_with (simp only [hW])
  have hz : BlkT _ _ #[.string x, .string y] 26 := (K1.out.set 0 (.string x)).set 1 (.string y)
  have z0 := hz.cell 0
  have z1 := hz.cell 1
  simp only [List.getElem?_toArray, List.getElem?_cons_succ, List.getElem?_cons_zero] at z0 z1
  refine bodyPost_ret (v := ratV x y) (by simp [results, Tryz.results25, go_sem, z0, z1]) rfl ?_
  exact ⟨rfl, (hB.setCell (Nat.le_refl _) _).setCell (Nat.le_refl _) _⟩

theorem wp_suchN {P : Program} {c : Code} {Q : Exit → Act → World → Prop} {a : Act} {fr : Nat → Act} {w0 w : World} (h : c.wp P (NoPanic fun e a' w' => e = .normal ∧ ∃ g, a' = fr g ∧ Below w0.heap.size w0 w') a w) (k : ∀ g w', Below w0.heap.size w0 w' → Q .normal (fr g) w') : c.wp P Q a w :=
  Code.wp_mono (fun e a' w' hh => by obtain ⟨rfl, g, rfl, hb⟩ := NoPanic.imp e a' w' hh; exact k g w' hb) h

theorem sx_a (w : World) (he : EnvW w) : Calls Tryz.prog 74 #[.int .i64 6, .int .i64 (-4)] w fun r w' => r = .returned (.tuple #[ratV ⟨#[45, 51]⟩ ⟨#[50]⟩, .int .i64 0]) ∧ Below w.heap.size w w' := by
  have h := of_u 6 (-4) w (by decide) (by decide) (by decide) (by decide) he
  rw [(opt_lit (x := ⟨#[45, 51]⟩) (y := ⟨#[50]⟩) (by decide +kernel) : redU false (N3.S 6) (N3.S (-4)) = some (⟨#[45, 51]⟩, ⟨#[50]⟩))] at h
  exact h
theorem sx_b (w : World) (he : EnvW w) : Calls Tryz.prog 74 #[.int .i64 0, .int .i64 (-5)] w fun r w' => r = .returned (.tuple #[ratV ⟨#[48]⟩ ⟨#[49]⟩, .int .i64 0]) ∧ Below w.heap.size w w' := by
  have h := of_u 0 (-5) w (by decide) (by decide) (by decide) (by decide) he
  rw [(opt_lit (x := ⟨#[48]⟩) (y := ⟨#[49]⟩) (by decide +kernel) : redU false (N3.S 0) (N3.S (-5)) = some (⟨#[48]⟩, ⟨#[49]⟩))] at h
  exact h
theorem sx_g (w : World) (he : EnvW w) : Calls Tryz.prog 74 #[.int .i64 1, .int .i64 0] w fun r w' => r = .returned (.tuple #[ratV ⟨#[]⟩ ⟨#[]⟩, .int .i64 40]) ∧ Below w.heap.size w w' := by
  have h := of_u 1 0 w (by decide) (by decide) (by decide) (by decide) he
  rw [(Option.map_eq_none_iff.1 (by decide +kernel : (redU false (N3.S 1) (N3.S 0)).map (fun r => (r.1.data.toList, r.2.data.toList)) = none) : redU false (N3.S 1) (N3.S 0) = none)] at h
  exact h
theorem sx_c (w : World) (he : EnvW w) : Calls Tryz.prog 26 #[ratV ⟨#[49]⟩ ⟨#[50]⟩, ratV ⟨#[49]⟩ ⟨#[51]⟩] w fun r w' => r = .returned (.tuple #[ratV ⟨#[53]⟩ ⟨#[54]⟩, .int .i64 0]) ∧ Below w.heap.size w w' := by
  have h := add04 ⟨#[49]⟩ ⟨#[50]⟩ ⟨#[49]⟩ ⟨#[51]⟩ w (by decide) (by decide) (by decide) (by decide) he
  rw [(opt_lit (x := ⟨#[53]⟩) (y := ⟨#[54]⟩) (by decide +kernel) : sumR N3.addO ⟨#[49]⟩ ⟨#[50]⟩ ⟨#[49]⟩ ⟨#[51]⟩ = some (⟨#[53]⟩, ⟨#[54]⟩))] at h
  exact h
theorem sx_d (w : World) (he : EnvW w) : Calls Tryz.prog 63 #[ratV ⟨#[49]⟩ ⟨#[50]⟩, ratV ⟨#[45, 49]⟩ ⟨#[52]⟩] w fun r w' => r = .returned (.tuple #[ratV ⟨#[45, 50]⟩ ⟨#[49]⟩, .int .i64 0]) ∧ Below w.heap.size w w' := by
  have h := div04 ⟨#[49]⟩ ⟨#[50]⟩ ⟨#[45, 49]⟩ ⟨#[52]⟩ w (by decide) (by decide) (by decide) (by decide) he
  rw [(opt_lit (x := ⟨#[45, 50]⟩) (y := ⟨#[49]⟩) (by decide +kernel) : divR ⟨#[49]⟩ ⟨#[50]⟩ ⟨#[45, 49]⟩ ⟨#[52]⟩ = some (⟨#[45, 50]⟩, ⟨#[49]⟩))] at h
  exact h
theorem sx_j (w : World) (he : EnvW w) : Calls Tryz.prog 63 #[ratV ⟨#[49]⟩ ⟨#[49]⟩, ratV ⟨#[48]⟩ ⟨#[49]⟩] w fun r w' => r = .returned (.tuple #[ratV ⟨#[]⟩ ⟨#[]⟩, .int .i64 40]) ∧ Below w.heap.size w w' := by
  have h := div04 ⟨#[49]⟩ ⟨#[49]⟩ ⟨#[48]⟩ ⟨#[49]⟩ w (by decide) (by decide) (by decide) (by decide) he
  rw [(Option.map_eq_none_iff.1 (by decide +kernel : (divR ⟨#[49]⟩ ⟨#[49]⟩ ⟨#[48]⟩ ⟨#[49]⟩).map (fun r => (r.1.data.toList, r.2.data.toList)) = none) : divR ⟨#[49]⟩ ⟨#[49]⟩ ⟨#[48]⟩ ⟨#[49]⟩ = none)] at h
  exact h
theorem sx_k (w : World) (he : EnvW w) : Calls Tryz.prog 29 #[ratV ⟨#[45, 49]⟩ ⟨#[51]⟩, .int .i64 2] w fun r w' => r = .returned (.tuple #[ratV ⟨#[45, 49, 55]⟩ ⟨#[53, 48]⟩, .int .i64 0]) ∧ Below w.heap.size w w' := by
  have h := down04 ⟨#[45, 49]⟩ ⟨#[51]⟩ 2 w (by decide) (by decide) he
  rw [(opt_lit (x := ⟨#[45, 49, 55]⟩) (y := ⟨#[53, 48]⟩) (by decide +kernel) : roundR ⟨#[45, 49]⟩ ⟨#[51]⟩ 2 false = some (⟨#[45, 49, 55]⟩, ⟨#[53, 48]⟩))] at h
  exact h
theorem sx_m (w : World) (he : EnvW w) : Calls Tryz.prog 30 #[ratV ⟨#[49]⟩ ⟨#[51]⟩, .int .i64 2] w fun r w' => r = .returned (.tuple #[ratV ⟨#[49, 55]⟩ ⟨#[53, 48]⟩, .int .i64 0]) ∧ Below w.heap.size w w' := by
  have h := up04 ⟨#[49]⟩ ⟨#[51]⟩ 2 w (by decide) (by decide) he
  rw [(opt_lit (x := ⟨#[49, 55]⟩) (y := ⟨#[53, 48]⟩) (by decide +kernel) : roundR ⟨#[49]⟩ ⟨#[51]⟩ 2 true = some (⟨#[49, 55]⟩, ⟨#[53, 48]⟩))] at h
  exact h
theorem sx_o (w : World) (he : EnvR w) : Calls Tryz.prog 58 #[.string ⟨#[45, 51, 47, 50]⟩] w fun r w' => r = .returned (.tuple #[ratV ⟨#[45, 51]⟩ ⟨#[50]⟩, .int .i64 0]) ∧ Below w.heap.size w w' := by
  have h := parse04 ⟨#[45, 51, 47, 50]⟩ w (by decide) he
  rw [(opt_lit (x := ⟨#[45, 51]⟩) (y := ⟨#[50]⟩) (by decide +kernel) : parseR ⟨#[45, 51, 47, 50]⟩ = some (⟨#[45, 51]⟩, ⟨#[50]⟩))] at h
  exact h
theorem sx_q (w : World) (he : EnvR w) : Calls Tryz.prog 58 #[.string ⟨#[54, 47, 52]⟩] w fun r w' => r = .returned (.tuple #[ratV ⟨#[]⟩ ⟨#[]⟩, .int .i64 40]) ∧ Below w.heap.size w w' := by
  have h := parse04 ⟨#[54, 47, 52]⟩ w (by decide) he
  rw [(Option.map_eq_none_iff.1 (by decide +kernel : (parseR ⟨#[54, 47, 52]⟩).map (fun r => (r.1.data.toList, r.2.data.toList)) = none) : parseR ⟨#[54, 47, 52]⟩ = none)] at h
  exact h
theorem sx_pr (w : World) (he : EnvW w) : Calls Tryz.prog 57 #[ratV ⟨#[45, 51]⟩ ⟨#[50]⟩] w fun r w' => r = .returned (.string ⟨#[45, 51, 47, 50]⟩) ∧ Below w.heap.size w w' := by
  have h := print04 ⟨#[45, 51]⟩ ⟨#[50]⟩ w (by decide) (by decide) he
  rw [(bytes_ext (by decide +kernel) : printR ⟨#[45, 51]⟩ ⟨#[50]⟩ = ⟨#[45, 51, 47, 50]⟩)] at h
  exact h
theorem sx_cmp (w : World) (he : EnvW w) : Calls Tryz.prog 23 #[ratV ⟨#[49]⟩ ⟨#[51]⟩, ratV ⟨#[51, 51, 51, 51, 51]⟩ ⟨#[49, 48, 48, 48, 48, 48]⟩] w fun r w' => r = .returned (.int .i64 1) ∧ Below w.heap.size w w' := by
  have h := compare04 ⟨#[49]⟩ ⟨#[51]⟩ ⟨#[51, 51, 51, 51, 51]⟩ ⟨#[49, 48, 48, 48, 48, 48]⟩ w (by decide) (by decide) (by decide) (by decide) he
  rw [(by decide +kernel : cmpR ⟨#[49]⟩ ⟨#[51]⟩ ⟨#[51, 51, 51, 51, 51]⟩ ⟨#[49, 48, 48, 48, 48, 48]⟩ = 1)] at h
  exact h
theorem sx_v (w : World) (he : EnvW w) : Calls Tryz.prog 60 #[ratV ⟨#[45, 51]⟩ ⟨#[50]⟩] w fun r w' => r = .returned (.bool true) ∧ Below w.heap.size w w' := by
  have h := valid04 ⟨#[45, 51]⟩ ⟨#[50]⟩ w (by decide) (by decide) he
  rw [(by decide +kernel : validR ⟨#[45, 51]⟩ ⟨#[50]⟩ = true)] at h
  exact h
theorem sx_v0 (w : World) (he : EnvW w) : Calls Tryz.prog 60 #[ratV ⟨#[]⟩ ⟨#[]⟩] w fun r w' => r = .returned (.bool false) ∧ Below w.heap.size w w' := by
  have h := valid04 ⟨#[]⟩ ⟨#[]⟩ w (by decide) (by decide) he
  rw [(by decide +kernel : validR ⟨#[]⟩ ⟨#[]⟩ = false)] at h
  exact h
set_option maxRecDepth 100000 in
set_option maxHeartbeats 8000000 in
theorem sane04 (w : World) (he : EnvR w) : Calls Tryz.prog 20 #[] w fun r w' => r = .returned (.bool true) ∧ Below w.heap.size w w' := by
  have HE := Lib.hid he
  clear he
  go_enter Tryz.func20, Tryz.ntmps20
  go_wp2_with fail
  refine (sx_a w HE.out.env).mono ?_
  rintro r V1 ⟨rfl, hb1⟩
  have hB1 := hb1
  obtain ⟨W1, hW1⟩ : ∃ W, V1.alloc (.cells #[.string ⟨#[45, 51]⟩, .string ⟨#[50]⟩] 26) = W := ⟨_, rfl⟩
  have hw1 : Below V1.heap.size V1 W1 := hW1 ▸ (Below.refl _ _).alloc (Nat.le_refl _) _
  have hBw1 := hB1.trans (hw1.mono hB1.size)
  have ka : BlkT W1 V1.heap.size #[.string ⟨#[45, 51]⟩, .string ⟨#[50]⟩] 26 := hW1 ▸ BlkT.newAt _ _ _ rfl
  go_wp2_with (simp only)
  refine (sx_b _ (HE.out.below hBw1).env).mono ?_
  rintro r V2 ⟨rfl, hb2⟩
  have hB2 := hBw1.trans (hb2.mono hBw1.size)
  have ka := BlkT.keep ka hb2
  obtain ⟨W2, hW2⟩ : ∃ W, V2.alloc (.cells #[.string ⟨#[48]⟩, .string ⟨#[49]⟩] 26) = W := ⟨_, rfl⟩
  have hw2 : Below V2.heap.size V2 W2 := hW2 ▸ (Below.refl _ _).alloc (Nat.le_refl _) _
  have hBw2 := hB2.trans (hw2.mono hB2.size)
  have ka := BlkT.keep ka hw2
  have kb : BlkT W2 V2.heap.size #[.string ⟨#[48]⟩, .string ⟨#[49]⟩] 26 := hW2 ▸ BlkT.newAt _ _ _ rfl
  go_wp2_with (simp only)
  refine (sx_g _ (HE.out.below hBw2).env).mono ?_
  rintro r V3 ⟨rfl, hb3⟩
  have hB3 := hBw2.trans (hb3.mono hBw2.size)
  have ka := BlkT.keep ka hb3
  have kb := BlkT.keep kb hb3
  go_wp2_with fail
  generalize hW3 : World.alloc V3 _ = W3
  have hw3 : Below V3.heap.size V3 W3 := hW3 ▸ (Below.refl _ _).alloc (Nat.le_refl _) _
  have hBw3 := hB3.trans (hw3.mono hB3.size)
  clear hW3
  have ka := BlkT.keep ka hw3
  have kb := BlkT.keep kb hw3
  skip
  refine (is_any _ _ _).mono ?_
  rintro r V4 ⟨rfl, hb4⟩
  have hB4 := hBw3.trans (hb4.mono hBw3.size)
  have ka := BlkT.keep ka hb4
  have kb := BlkT.keep kb hb4
  go_wp2_with fail
  refine (is_any _ _ _).mono ?_
  rintro r V5 ⟨rfl, hb5⟩
  have hB5 := hB4.trans (hb5.mono hB4.size)
  have ka := BlkT.keep ka hb5
  have kb := BlkT.keep kb hb5
  go_wp2_with fail
  refine (sx_c _ (HE.out.below hB5).env).mono ?_
  rintro r V6 ⟨rfl, hb6⟩
  have hB6 := hB5.trans (hb6.mono hB5.size)
  have ka := BlkT.keep ka hb6
  have kb := BlkT.keep kb hb6
  obtain ⟨W6, hW6⟩ : ∃ W, V6.alloc (.cells #[.string ⟨#[53]⟩, .string ⟨#[54]⟩] 26) = W := ⟨_, rfl⟩
  have hw6 : Below V6.heap.size V6 W6 := hW6 ▸ (Below.refl _ _).alloc (Nat.le_refl _) _
  have hBw6 := hB6.trans (hw6.mono hB6.size)
  have ka := BlkT.keep ka hw6
  have kb := BlkT.keep kb hw6
  have kc : BlkT W6 V6.heap.size #[.string ⟨#[53]⟩, .string ⟨#[54]⟩] 26 := hW6 ▸ BlkT.newAt _ _ _ rfl
  go_wp2_with (simp only)
  refine (is_any _ _ _).mono ?_
  rintro r V7 ⟨rfl, hb7⟩
  have hB7 := hBw6.trans (hb7.mono hBw6.size)
  have ka := BlkT.keep ka hb7
  have kb := BlkT.keep kb hb7
  have kc := BlkT.keep kc hb7
  go_wp2_with fail
  refine (is_any _ _ _).mono ?_
  rintro r V8 ⟨rfl, hb8⟩
  have hB8 := hB7.trans (hb8.mono hB7.size)
  have ka := BlkT.keep ka hb8
  have kb := BlkT.keep kb hb8
  have kc := BlkT.keep kc hb8
  go_wp2_with fail
  refine (sx_d _ (HE.out.below hB8).env).mono ?_
  rintro r V9 ⟨rfl, hb9⟩
  have hB9 := hB8.trans (hb9.mono hB8.size)
  have ka := BlkT.keep ka hb9
  have kb := BlkT.keep kb hb9
  have kc := BlkT.keep kc hb9
  obtain ⟨W9, hW9⟩ : ∃ W, V9.alloc (.cells #[.string ⟨#[45, 50]⟩, .string ⟨#[49]⟩] 26) = W := ⟨_, rfl⟩
  have hw9 : Below V9.heap.size V9 W9 := hW9 ▸ (Below.refl _ _).alloc (Nat.le_refl _) _
  have hBw9 := hB9.trans (hw9.mono hB9.size)
  have ka := BlkT.keep ka hw9
  have kb := BlkT.keep kb hw9
  have kc := BlkT.keep kc hw9
  have kd : BlkT W9 V9.heap.size #[.string ⟨#[45, 50]⟩, .string ⟨#[49]⟩] 26 := hW9 ▸ BlkT.newAt _ _ _ rfl
  go_wp2_with (simp only)
  have HK6 := Lib.hid (fun V (hV : Below W9.heap.size W9 V) => And.intro ((BlkT.keep kb hV).cell 0) ((BlkT.keep kb hV).cell 1))
  simp only [List.getElem?_toArray, List.getElem?_cons_succ, List.getElem?_cons_zero] at HK6
  have HEV := Lib.hid (fun V (hV : Below W9.heap.size W9 V) => HE.out.below (hBw9.trans (hV.mono hBw9.size)))
  have q0 := (HK6.out _ (Below.refl _ _)).1
  have q1 := (HK6.out _ (Below.refl _ _)).2
  apply wp_suchN (w0 := W9)
  · go_region_held3 (fun w' => Below W9.heap.size W9 w' ∧ (w'.cell? ⟨V2.heap.size, 0, none⟩ = some (.string ⟨#[48]⟩) ∧ w'.cell? ⟨V2.heap.size, 1, none⟩ = some (.string ⟨#[49]⟩)))
      (first | exact ⟨(Below.refl _ _).drew, HK6.out _ (Below.refl _ _).drew⟩ | (have hh := (‹Below W9.heap.size W9 _ ∧ _›).1; have hb := hh.trans (hBq.mono hh.size); exact ⟨hb, HK6.out _ hb⟩) | (have hh := (‹Below W9.heap.size W9 _ ∧ _›).1; have hb := hh.trans (hBr.mono hh.size); exact ⟨hb, HK6.out _ hb⟩) | (have hh := (‹Below W9.heap.size W9 _ ∧ _›).1; exact ⟨hh.alloc hh.size _, HK6.out _ (hh.alloc hh.size _)⟩) | (have hh := (‹Below W9.heap.size W9 _ ∧ _›).1; exact ⟨(hh.setCell (by dsimp only; omega) _).setCell (by dsimp only; omega) _, HK6.out _ ((hh.setCell (by dsimp only; omega) _).setCell (by dsimp only; omega) _)⟩) | go_keep)
      (first
        | (go_at_call 25; (with_reducible refine (is_any _ _ _).mono ?_); rintro r wq ⟨rfl, hBq⟩; have hSq := Nat.le_trans (‹Below W9.heap.size W9 _ ∧ _›).1.size hBq.size; have hblk := BlkT.keep (BlkT.newAt (World.drew W9) #[.string ⟨#[]⟩, .string ⟨#[]⟩] 26 (n := W9.heap.size) rfl) hBq)
        | (go_at_call 25; (with_reducible refine (is_any _ _ _).mono ?_); rintro r wq ⟨rfl, hBq⟩; have hSq := Nat.le_trans (‹Below W9.heap.size W9 _ ∧ _›).1.size hBq.size)
        | (go_at_call 63; (with_reducible refine (sx_j _ (HEV.out _ (‹Below W9.heap.size W9 _ ∧ _›).1).env).mono ?_); rintro r wr ⟨rfl, hBr⟩; have hSz := Nat.le_trans (‹Below W9.heap.size W9 _ ∧ _›).1.size hBr.size; have hblk2 := BlkT.keep hblk hBr; have u0 := hblk2.cell 0; have u1 := hblk2.cell 1; have v0 := hblk2.frozen 0; have v1 := hblk2.frozen 1; simp only [List.getElem?_toArray, List.getElem?_cons_succ, List.getElem?_cons_zero] at u0 u1)
        | (go_at_call 63; (with_reducible refine (sx_j _ (HEV.out _ (‹Below W9.heap.size W9 _ ∧ _›).1).env).mono ?_); rintro r wr ⟨rfl, hBr⟩; have hSz := Nat.le_trans (‹Below W9.heap.size W9 _ ∧ _›).1.size hBr.size; have hblk2 := BlkT.keep (BlkT.newAt wq #[.string ⟨#[]⟩, .string ⟨#[]⟩] 26 rfl) hBr; have u0 := hblk2.cell 0; have u1 := hblk2.cell 1; have v0 := hblk2.frozen 0; have v1 := hblk2.frozen 1; simp only [List.getElem?_toArray, List.getElem?_cons_succ, List.getElem?_cons_zero] at u0 u1)
        | (go_at_call 63; (with_reducible refine (sx_j _ (HEV.out _ (‹Below W9.heap.size W9 _ ∧ _›).1).env).mono ?_); rintro r wr ⟨rfl, hBr⟩; have hSz := Nat.le_trans (‹Below W9.heap.size W9 _ ∧ _›).1.size hBr.size; have hblk2 := BlkT.newAt wr #[.string ⟨#[]⟩, .string ⟨#[]⟩] 26 rfl; have u0 := hblk2.cell 0; have u1 := hblk2.cell 1; have v0 := hblk2.frozen 0; have v1 := hblk2.frozen 1; simp only [List.getElem?_toArray, List.getElem?_cons_succ, List.getElem?_cons_zero] at u0 u1))
    all_goals (
      refine NoPanic.normal ?_
      have hh := (‹Below W9.heap.size W9 _ ∧ _›).1
      first
        | (obtain ⟨gx, hgx⟩ : ∃ g, wr.heap.size = g := ⟨_, rfl⟩; rw [hgx]; exact ⟨rfl, gx, rfl, hh⟩)
        | (obtain ⟨gx, hgx⟩ : ∃ g, wq.heap.size = g := ⟨_, rfl⟩; rw [hgx]; exact ⟨rfl, gx, rfl, by rw [hgx] at hh; exact hh⟩)
        | (obtain ⟨gx, hgx⟩ : ∃ g, wq.heap.size = g := ⟨_, rfl⟩; rw [hgx]; exact ⟨rfl, gx, rfl, hh⟩)
        | (obtain ⟨gx, hgx⟩ : ∃ g, W9.heap.size = g := ⟨_, rfl⟩; exact ⟨rfl, gx, by rw [hgx], hh⟩)
        | (exact ⟨rfl, W9.heap.size, rfl, hh⟩))
  rintro g6 W10 hb10
  have hB10 := hBw9.trans (hb10.mono hBw9.size)
  clear HK6 HEV
  have ka := BlkT.keep ka hb10
  have kb := BlkT.keep kb hb10
  have kc := BlkT.keep kc hb10
  have kd := BlkT.keep kd hb10
  go_wp2_with fail
  refine (is_any _ _ _).mono ?_
  rintro r V11 ⟨rfl, hb11⟩
  have hB11 := hB10.trans (hb11.mono hB10.size)
  have ka := BlkT.keep ka hb11
  have kb := BlkT.keep kb hb11
  have kc := BlkT.keep kc hb11
  have kd := BlkT.keep kd hb11
  go_wp2_with fail
  refine (sx_k _ (HE.out.below hB11).env).mono ?_
  rintro r V12 ⟨rfl, hb12⟩
  have hB12 := hB11.trans (hb12.mono hB11.size)
  have ka := BlkT.keep ka hb12
  have kb := BlkT.keep kb hb12
  have kc := BlkT.keep kc hb12
  have kd := BlkT.keep kd hb12
  obtain ⟨W12, hW12⟩ : ∃ W, V12.alloc (.cells #[.string ⟨#[45, 49, 55]⟩, .string ⟨#[53, 48]⟩] 26) = W := ⟨_, rfl⟩
  have hw12 : Below V12.heap.size V12 W12 := hW12 ▸ (Below.refl _ _).alloc (Nat.le_refl _) _
  have hBw12 := hB12.trans (hw12.mono hB12.size)
  have ka := BlkT.keep ka hw12
  have kb := BlkT.keep kb hw12
  have kc := BlkT.keep kc hw12
  have kd := BlkT.keep kd hw12
  have kk : BlkT W12 V12.heap.size #[.string ⟨#[45, 49, 55]⟩, .string ⟨#[53, 48]⟩] 26 := hW12 ▸ BlkT.newAt _ _ _ rfl
  go_wp2_with (simp only)
  refine (is_any _ _ _).mono ?_
  rintro r V13 ⟨rfl, hb13⟩
  have hB13 := hBw12.trans (hb13.mono hBw12.size)
  have ka := BlkT.keep ka hb13
  have kb := BlkT.keep kb hb13
  have kc := BlkT.keep kc hb13
  have kd := BlkT.keep kd hb13
  have kk := BlkT.keep kk hb13
  go_wp2_with fail
  refine (sx_m _ (HE.out.below hB13).env).mono ?_
  rintro r V14 ⟨rfl, hb14⟩
  have hB14 := hB13.trans (hb14.mono hB13.size)
  have ka := BlkT.keep ka hb14
  have kb := BlkT.keep kb hb14
  have kc := BlkT.keep kc hb14
  have kd := BlkT.keep kd hb14
  have kk := BlkT.keep kk hb14
  obtain ⟨W14, hW14⟩ : ∃ W, V14.alloc (.cells #[.string ⟨#[49, 55]⟩, .string ⟨#[53, 48]⟩] 26) = W := ⟨_, rfl⟩
  have hw14 : Below V14.heap.size V14 W14 := hW14 ▸ (Below.refl _ _).alloc (Nat.le_refl _) _
  have hBw14 := hB14.trans (hw14.mono hB14.size)
  have ka := BlkT.keep ka hw14
  have kb := BlkT.keep kb hw14
  have kc := BlkT.keep kc hw14
  have kd := BlkT.keep kd hw14
  have kk := BlkT.keep kk hw14
  have km : BlkT W14 V14.heap.size #[.string ⟨#[49, 55]⟩, .string ⟨#[53, 48]⟩] 26 := hW14 ▸ BlkT.newAt _ _ _ rfl
  go_wp2_with (simp only)
  refine (sx_o _ (HE.out.below hBw14)).mono ?_
  rintro r V15 ⟨rfl, hb15⟩
  have hB15 := hBw14.trans (hb15.mono hBw14.size)
  have ka := BlkT.keep ka hb15
  have kb := BlkT.keep kb hb15
  have kc := BlkT.keep kc hb15
  have kd := BlkT.keep kd hb15
  have kk := BlkT.keep kk hb15
  have km := BlkT.keep km hb15
  obtain ⟨W15, hW15⟩ : ∃ W, V15.alloc (.cells #[.string ⟨#[45, 51]⟩, .string ⟨#[50]⟩] 26) = W := ⟨_, rfl⟩
  have hw15 : Below V15.heap.size V15 W15 := hW15 ▸ (Below.refl _ _).alloc (Nat.le_refl _) _
  have hBw15 := hB15.trans (hw15.mono hB15.size)
  have ka := BlkT.keep ka hw15
  have kb := BlkT.keep kb hw15
  have kc := BlkT.keep kc hw15
  have kd := BlkT.keep kd hw15
  have kk := BlkT.keep kk hw15
  have km := BlkT.keep km hw15
  have ko : BlkT W15 V15.heap.size #[.string ⟨#[45, 51]⟩, .string ⟨#[50]⟩] 26 := hW15 ▸ BlkT.newAt _ _ _ rfl
  go_wp2_with (simp only)
  refine (sx_q _ (HE.out.below hBw15)).mono ?_
  rintro r V16 ⟨rfl, hb16⟩
  have hB16 := hBw15.trans (hb16.mono hBw15.size)
  have ka := BlkT.keep ka hb16
  have kb := BlkT.keep kb hb16
  have kc := BlkT.keep kc hb16
  have kd := BlkT.keep kd hb16
  have kk := BlkT.keep kk hb16
  have km := BlkT.keep km hb16
  have ko := BlkT.keep ko hb16
  go_wp2_with fail
  generalize hWq : World.alloc V16 _ = Wq
  have hwq : Below V16.heap.size V16 Wq := hWq ▸ (Below.refl _ _).alloc (Nat.le_refl _) _
  have hBwq := hB16.trans (hwq.mono hB16.size)
  clear hWq
  have ka := BlkT.keep ka hwq
  have kb := BlkT.keep kb hwq
  have kc := BlkT.keep kc hwq
  have kd := BlkT.keep kd hwq
  have kk := BlkT.keep kk hwq
  have km := BlkT.keep km hwq
  have ko := BlkT.keep ko hwq
  have HKS : Hid (∀ w', Below Wq.heap.size Wq w' → (w'.cell? ⟨V1.heap.size, 0, none⟩ = some (.string ⟨#[45, 51]⟩) ∧ w'.cell? ⟨V1.heap.size, 1, none⟩ = some (.string ⟨#[50]⟩)) ∧ (w'.cell? ⟨V2.heap.size, 0, none⟩ = some (.string ⟨#[48]⟩) ∧ w'.cell? ⟨V2.heap.size, 1, none⟩ = some (.string ⟨#[49]⟩)) ∧ (w'.cell? ⟨V6.heap.size, 0, none⟩ = some (.string ⟨#[53]⟩) ∧ w'.cell? ⟨V6.heap.size, 1, none⟩ = some (.string ⟨#[54]⟩)) ∧ (w'.cell? ⟨V9.heap.size, 0, none⟩ = some (.string ⟨#[45, 50]⟩) ∧ w'.cell? ⟨V9.heap.size, 1, none⟩ = some (.string ⟨#[49]⟩)) ∧ (w'.cell? ⟨V12.heap.size, 0, none⟩ = some (.string ⟨#[45, 49, 55]⟩) ∧ w'.cell? ⟨V12.heap.size, 1, none⟩ = some (.string ⟨#[53, 48]⟩)) ∧ (w'.cell? ⟨V14.heap.size, 0, none⟩ = some (.string ⟨#[49, 55]⟩) ∧ w'.cell? ⟨V14.heap.size, 1, none⟩ = some (.string ⟨#[53, 48]⟩)) ∧ (w'.cell? ⟨V15.heap.size, 0, none⟩ = some (.string ⟨#[45, 51]⟩) ∧ w'.cell? ⟨V15.heap.size, 1, none⟩ = some (.string ⟨#[50]⟩))) := Lib.hid (fun V hV => (And.intro (And.intro ((BlkT.keep ka hV).cell 0) ((BlkT.keep ka hV).cell 1)) (And.intro (And.intro ((BlkT.keep kb hV).cell 0) ((BlkT.keep kb hV).cell 1)) (And.intro (And.intro ((BlkT.keep kc hV).cell 0) ((BlkT.keep kc hV).cell 1)) (And.intro (And.intro ((BlkT.keep kd hV).cell 0) ((BlkT.keep kd hV).cell 1)) (And.intro (And.intro ((BlkT.keep kk hV).cell 0) ((BlkT.keep kk hV).cell 1)) (And.intro (And.intro ((BlkT.keep km hV).cell 0) ((BlkT.keep km hV).cell 1)) (And.intro ((BlkT.keep ko hV).cell 0) ((BlkT.keep ko hV).cell 1)))))))))
  have HEV := Lib.hid (fun V (hV : Below Wq.heap.size Wq V) => HE.out.below (hBwq.trans (hV.mono hBwq.size)))
  go_region_held3 (fun w' => Below Wq.heap.size Wq w' ∧ (w'.cell? ⟨V1.heap.size, 0, none⟩ = some (.string ⟨#[45, 51]⟩) ∧ w'.cell? ⟨V1.heap.size, 1, none⟩ = some (.string ⟨#[50]⟩)) ∧ (w'.cell? ⟨V2.heap.size, 0, none⟩ = some (.string ⟨#[48]⟩) ∧ w'.cell? ⟨V2.heap.size, 1, none⟩ = some (.string ⟨#[49]⟩)) ∧ (w'.cell? ⟨V6.heap.size, 0, none⟩ = some (.string ⟨#[53]⟩) ∧ w'.cell? ⟨V6.heap.size, 1, none⟩ = some (.string ⟨#[54]⟩)) ∧ (w'.cell? ⟨V9.heap.size, 0, none⟩ = some (.string ⟨#[45, 50]⟩) ∧ w'.cell? ⟨V9.heap.size, 1, none⟩ = some (.string ⟨#[49]⟩)) ∧ (w'.cell? ⟨V12.heap.size, 0, none⟩ = some (.string ⟨#[45, 49, 55]⟩) ∧ w'.cell? ⟨V12.heap.size, 1, none⟩ = some (.string ⟨#[53, 48]⟩)) ∧ (w'.cell? ⟨V14.heap.size, 0, none⟩ = some (.string ⟨#[49, 55]⟩) ∧ w'.cell? ⟨V14.heap.size, 1, none⟩ = some (.string ⟨#[53, 48]⟩)) ∧ (w'.cell? ⟨V15.heap.size, 0, none⟩ = some (.string ⟨#[45, 51]⟩) ∧ w'.cell? ⟨V15.heap.size, 1, none⟩ = some (.string ⟨#[50]⟩)))
    (first | exact ⟨(Below.refl _ _).drew, HKS.out _ (Below.refl _ _).drew⟩ | (have hh := (‹Below Wq.heap.size Wq _ ∧ _›).1; have hb := hh.trans (hBq.mono hh.size); exact ⟨hb, HKS.out _ hb⟩))
    (first
      | (go_at_call 25; (with_reducible refine (is_any _ _ _).mono ?_); rintro r wq ⟨rfl, hBq⟩)
      | (go_at_call 57; (with_reducible refine (sx_pr _ (HEV.out _ (‹Below Wq.heap.size Wq _ ∧ _›).1).env).mono ?_); rintro r wq ⟨rfl, hBq⟩)
      | (go_at_call 23; (with_reducible refine (sx_cmp _ (HEV.out _ (‹Below Wq.heap.size Wq _ ∧ _›).1).env).mono ?_); rintro r wq ⟨rfl, hBq⟩)
      | (go_at_call 60; (with_reducible refine (sx_v _ (HEV.out _ (‹Below Wq.heap.size Wq _ ∧ _›).1).env).mono ?_); rintro r wq ⟨rfl, hBq⟩)
      | (go_at_call 60; (with_reducible refine (sx_v0 _ (HEV.out _ (‹Below Wq.heap.size Wq _ ∧ _›).1).env).mono ?_); rintro r wq ⟨rfl, hBq⟩))
  all_goals (
    have hh := (‹Below Wq.heap.size Wq _ ∧ _›).1
    go_wp2_with fail
    go_ret
    exact ⟨rfl, hBwq.trans (hh.mono hBwq.size)⟩)
end Go.Proofs.YtjnpenljgfdaiaaGreatDoor

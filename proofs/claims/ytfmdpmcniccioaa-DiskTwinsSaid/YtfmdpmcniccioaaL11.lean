/- nadirlaw33.DiskTwins: the walk. -/
import Derived.Test.YtfmdpmcniccioaaTri
import Derived.Deep.RegionHeld3
namespace Go.Proofs.Ytfmdpmcniccioaa
open Go.RowKit Go.Shelf Lib

theorem wp_such {P : Program} {c : Code} {Q : Exit → Act → World → Prop} {a fr : Act} {w : World} (S : World → Prop) (h : c.wp P (fun e a' w' => e = .normal ∧ a' = fr ∧ S w') a w) (k : ∀ w', S w' → Q .normal fr w') : c.wp P Q a w :=
  Code.wp_mono (fun e a' w' hh => by obtain ⟨rfl, rfl, hb⟩ := hh; exact k w' hb) h
set_option maxRecDepth 100000 in
set_option maxHeartbeats 40000000 in
theorem twins_true (size : Int) (vl : Value) (l : List WP) (w : World) (hs : InR size) (hl : WpsAt w vl l) : Calls Try.prog 11 #[.int .i64 size, vl] w fun e w' => e = .returned (.bool true) ∧ Below w.heap.size w w' := by
  have hpb := pickI_bd size (n := 100) (by decide)
  have hpk := Lib.hid (fun W => pick_any size 100 W hs (by decide) (by decide))
  obtain ⟨p, hp⟩ := Int.eq_ofNat_of_zero_le hpb.1
  rw [hp] at hpk hpb
  have hn1 : 1 ≤ 1 + p := by omega
  have hn2 : 1 + p ≤ 4194304 := by omega
  have hcast : (1 : Int) + (p : Int) = ((1 + p : Nat) : Int) := by omega
  have hw1 : IntKind.i64.wrap (1 + (p : Int)) = ((1 + p : Nat) : Int) := by rw [wrapS _ (by omega) (by omega)]; omega
  have hnew := Lib.hid (fun W => new_own (1 + p) W hn1 hn2)
  have hon0 := Lib.hid (on_new hn1 hn2)
  have hN := Lib.hid (And.intro hn1 hn2)
  obtain ⟨la, lc, rfl, hl1, hl2⟩ := hl.len
  unfold maxLen at hl2
  have HL := Lib.hid hl
  clear hs hpb hp hcast hl hn1 hn2
  generalize 1 + p = n at *
  go_enter Try.func11, Try.ntmps11
  go_wp2_with fail
  refine (sane_true _).mono ?_
  rintro e w1 ⟨rfl, hB1⟩
  go_wp2_with fail
  refine (hpk.out _).mono ?_
  rintro e wq ⟨rfl, rfl⟩
  go_wp2_with fail
  refine (hnew.out _).mono ?_
  rintro e w2 ⟨B1, rfl, hO2, hB2⟩
  go_wp2_with fail
  refine (hnew.out _).mono ?_
  rintro e w3 ⟨B2, rfl, hO3, hB3⟩
  go_wp2_with fail
  refine (hnew.out _).mono ?_
  rintro e w4 ⟨B3, rfl, hO4, hB4⟩
  have hT := Tri.new hO2 hO3 hO4 hB2.size hB3 hB4
  have hB34 := hB3.trans (hB4.mono hB3.size)
  have hBz := hB2.trans (hB34.mono hB2.size)
  have HB1 := Lib.hid hB1
  clear hO2 hO3 hO4 hB2 hB3 hB4 hB34
  go_wp2
  clear hB1 hnew hpk hw1
  go_loopw [12] (fun u12 wr => ∃ (k : Nat) (D E : DiskD), k ≤ l.length ∧ k ≤ 30 ∧ u12 = .int .i64 k ∧ Tri wr (fun i => w1.heap.size ≤ i) n B1 B2 B3 D E D ∧ Hid (OnD n D) ∧ Hid (OnD n E) ∧ D.pend.length ≤ k ∧ E.pend.length ≤ k ∧ Below w1.heap.size w1 wr) (fun u12 _ => (30 - intOf u12).toNat)
  case atStart => exact ⟨0, newD n, newD n, by omega, by omega, rfl, hT, hon0, hon0, Nat.le_refl _, Nat.le_refl _, hBz⟩
  case round =>
    obtain ⟨k, D, E, hk, hk60, rfl, hT, hon, honE, hpl, hplE, hBr⟩ := hrel
    rename World => wr
    by_cases hkl : k < l.length ∧ k < 30
    · obtain ⟨hkl, hk2⟩ := hkl
      have hBw := HB1.out.trans (hBr.mono HB1.out.size)
      have hx := List.getElem?_eq_getElem hkl
      generalize l[k] = x at hx
      obtain ⟨b, off, rfl, c0, c1, c2, hxi, hxs⟩ := (HL.out.below' hBw).get hx
      have hfi := fits_any x n hN.out.2 hxi wr
      have hle := fit_le x n
      have hki : (0 : Int) ≤ (k : Int) ∧ (k : Int) < (l.length : Int) := by omega
      generalize fitO x n = o at hfi hle
      generalize fitS x n = s at hfi hle
      obtain ⟨xo, xs, xb⟩ := x
      simp only at c0 c1 c2 hfi
      clear hx hxi hxs
      go_wp2_with fail
      refine hfi.mono ?_
      rintro e w4 ⟨rfl, hB4⟩
      have hT4 := hT.below hB4
      have hB4r := hBr.trans (hB4.mono hBr.size)
      have hA5 : Below w4.heap.size w4 (w4.alloc (.cells #[.int .i64 (o : Nat), .string s, .bool xb] 53)) := (Below.refl _ _).alloc (Nat.le_refl _) _
      have kA5 := Blk.new w4 #[.int .i64 (o : Nat), .string s, .bool xb] 53
      have hT5 : Tri (w4.alloc (.cells #[.int .i64 (o : Nat), .string s, .bool xb] 53)) (Bes w1.heap.size w4.heap.size) n B1 B2 B3 D E D := ((hT4.below hA5).away kA5).mono (fun i _ h => h)
      have hs5 : (w4.alloc (.cells #[.int .i64 (o : Nat), .string s, .bool xb] 53)).heap.size = w4.heap.size + 1 := by simp
      have hB5 := hB4r.trans (hA5.mono hB4r.size)
      have hz5 := hB4r.size
      have hbes : ∀ W : World, w4.heap.size + 1 ≤ W.heap.size → ∀ i, W.heap.size ≤ i → Bes w1.heap.size w4.heap.size i := fun W hW i hi => ⟨by omega, by omega⟩
      have HBES := Lib.hid hbes
      clear hfi c0 c1 c2 hT4 hB4 hB4r hT hA5 hbes
      by_cases hpar : k % 2 = 1
      · have hr2 : Int.tmod (k : Int) 2 = 1 := by rw [Int.tmod_eq_emod_of_nonneg (by omega)]; omega
        obtain ⟨e1, on1, -, -, p1⟩ := on_write honE.out o s hle
        have hwr := Tri.write1 hT5.swap12 (HBES.out _ (by omega)) (by omega) (o : Nat) s
        rw [e1] at hwr
        have hpl1 : (writeD E (o : Nat) s).pend.length ≤ k + 1 := by rw [p1, List.length_append]; simp; omega
        have a0 := kA5.cell 0
        have a1 := kA5.cell 1
        simp only [List.getElem?_toArray, List.getElem?_cons_succ, List.getElem?_cons_zero] at a0 a1
        clear e1 p1 hT5 hs5
        generalize writeD E (o : Nat) s = E1 at *
        go_wp2_with fail
        generalize w4.alloc (.cells #[.int .i64 (o : Nat), .string s, .bool xb] 53) = W5 at *
        refine hwr.mono ?_
        rintro e w7 ⟨rfl, hT7, hf7⟩
        have kA7 := kA5.frm hf7 (fun h => h.2 rfl)
        have hB7 := hB5.trans (hf7.besBelow hB5.size)
        have a2 := kA7.cell 2
        have a0' := kA7.cell 0
        simp only [List.getElem?_toArray, List.getElem?_cons_succ, List.getElem?_cons_zero] at a2 a0'
        clear hwr a0 a1 hf7 kA5 hB5
        obtain ⟨r7, h7⟩ : ∃ r : Nat, Int.tmod (o : Int) 7 = (r : Int) := ⟨o % 7, by rw [Int.tmod_eq_emod_of_nonneg (by omega)]; omega⟩
        have HON1 := Lib.hid on1
        clear on1
        cases xb with
        | false =>
          by_cases h73 : r7 = 3
          · have h7' : Int.tmod (o : Int) 7 = 3 := by rw [h7, h73]; rfl
            have hcr := Tri.crash1 hT7 1
            have on2 := Lib.hid (on_crash HON1.out [] 1)
            have hp2 : (crashD E1 [] 1).pend.length = 0 := rfl
            clear h7 hT7
            generalize crashD E1 [] 1 = E2 at *
            go_wp2_with fail
            refine hcr.mono ?_
            rintro e w8 ⟨rfl, hT8, hf8⟩
            have hB8 := hB7.trans (hf8.besBelow hB7.size)
            have HT8 := Lib.hid (hT8.swap12.mono (Q := fun i => w1.heap.size ≤ i) (fun i _ h => h.1))
            clear hcr hT8 hf8 a2 a0' kA7
            go_wp2
            go_roundw
            case rel => exact ⟨k + 1, D, E2, by omega, by omega, by go_num, HT8.out, hon, on2, by omega, by omega, hB8⟩
            case measure => simp [intOf]; omega
          · have HT8 := Lib.hid (hT7.swap12.mono (Q := fun i => w1.heap.size ≤ i) (fun i _ h => h.1))
            clear hT7 kA7
            go_wp2
            go_roundw
            case rel => exact ⟨k + 1, D, E1, by omega, by omega, by go_num, HT8.out, hon, HON1, by omega, by omega, hB7⟩
            case measure => simp [intOf]; omega
        | true =>
          have hsy := Tri.sync1 hT7
          obtain ⟨e2, on2, -, -, p2⟩ := on_sync HON1.out
          rw [e2] at hsy
          have hp2 : (syncD E1).pend.length = 0 := by rw [p2]; rfl
          have HON2 := Lib.hid on2
          clear e2 p2 on2 hT7
          generalize syncD E1 = E2 at *
          go_wp2_with fail
          refine hsy.mono ?_
          rintro e w8 ⟨rfl, hT8, hf8⟩
          have hB8 := hB7.trans (hf8.besBelow hB7.size)
          have kA8 := kA7.frm hf8 (fun h => h.2 rfl)
          have a3 := kA8.cell 0
          simp only [List.getElem?_toArray, List.getElem?_cons_succ, List.getElem?_cons_zero] at a3
          clear hsy hf8 a2 a0' kA7 kA8
          by_cases h73 : r7 = 3
          · have h7' : Int.tmod (o : Int) 7 = 3 := by rw [h7, h73]; rfl
            have hcr := Tri.crash1 hT8 1
            have on3 := Lib.hid (on_crash HON2.out [] 1)
            have hp3 : (crashD E2 [] 1).pend.length = 0 := rfl
            clear h7 hT8
            generalize crashD E2 [] 1 = E3 at *
            go_wp2_with fail
            refine hcr.mono ?_
            rintro e w9 ⟨rfl, hT9, hf9⟩
            have hB9 := hB8.trans (hf9.besBelow hB8.size)
            have HT9 := Lib.hid (hT9.swap12.mono (Q := fun i => w1.heap.size ≤ i) (fun i _ h => h.1))
            clear hcr hT9 hf9 a3
            go_wp2
            go_roundw
            case rel => exact ⟨k + 1, D, E3, by omega, by omega, by go_num, HT9.out, hon, on3, by omega, by omega, hB9⟩
            case measure => simp [intOf]; omega
          · have HT9 := Lib.hid (hT8.swap12.mono (Q := fun i => w1.heap.size ≤ i) (fun i _ h => h.1))
            clear hT8
            go_wp2
            go_roundw
            case rel => exact ⟨k + 1, D, E2, by omega, by omega, by go_num, HT9.out, hon, HON2, by omega, by omega, hB8⟩
            case measure => simp [intOf]; omega
      · have hr2 : Int.tmod (k : Int) 2 = 0 := by rw [Int.tmod_eq_emod_of_nonneg (by omega)]; omega
        obtain ⟨e1, on1, -, -, p1⟩ := on_write hon.out o s hle
        have H98 := Lib.hid (fun W (hT : Tri W (Bes w1.heap.size w4.heap.size) n B1 B2 B3 D E D) (hz : w4.heap.size + 1 ≤ W.heap.size) => Tri.write1 hT (HBES.out W hz) (by omega) (o : Nat) s)
        have H104 := Lib.hid (fun W (hT : Tri W (Bes w1.heap.size w4.heap.size) n B1 B2 B3 (writeD D (o : Nat) s) E D) (hz : w4.heap.size + 1 ≤ W.heap.size) => Tri.write1 hT.swap13 (HBES.out W hz) (by omega) (o : Nat) s)
        rw [e1] at H98 H104
        have hpl1 : (writeD D (o : Nat) s).pend.length ≤ k + 1 := by rw [p1, List.length_append]; simp; omega
        clear e1 p1
        generalize writeD D (o : Nat) s = D1 at *
        have HC : ∀ W : World, Blk W w4.heap.size #[.int .i64 (o : Nat), .string s, .bool xb] 53 → (W.cell? ⟨w4.heap.size, 0, none⟩ = some (.int .i64 (o : Nat)) ∧ W.cell? ⟨w4.heap.size, 1, none⟩ = some (.string s) ∧ W.cell? ⟨w4.heap.size, 2, none⟩ = some (.bool xb)) := fun W hb => ⟨hb.cell 0, hb.cell 1, hb.cell 2⟩
        have HCC := Lib.hid HC
        have HT5 := Lib.hid hT5
        clear HC hT5
        cases xb with
        | false =>
          go_wp2_with fail
          generalize w4.alloc (.cells #[.int .i64 (o : Nat), .string s, .bool false] 53) = W5 at *
          have hz0 : w4.heap.size + 1 ≤ W5.heap.size := Nat.le_of_eq hs5.symm
          have hkd : Blk W5.drew w4.heap.size _ 53 := kA5
          refine wp_region_held_drew (S := (fun w' => w'.cell? ⟨w4.heap.size, 0, none⟩ = some (.int .i64 (o : Nat)) ∧ w'.cell? ⟨w4.heap.size, 1, none⟩ = some (.string s) ∧ w'.cell? ⟨w4.heap.size, 2, none⟩ = some (.bool false))) (by kernel_rfl) (HCC.out _ hkd) (fun hHeld => ?_)
          refine wpAnyH_take (i := 0) (oi := { dst := some 93, op := Op.move (Operand.tmp 6), type := 23, pos := "law.go:302", after := #[], guard := none }) (v := ?_) rfl (by kernel_rfl) (by kernel_rfl) (by kernel_rfl) (fun _ _ _ h => h) (Or.inl ⟨by kernel_rfl, ?_⟩) (by assumption) ?_
          rotate_left
          · intro w hSw
            (try dsimp only at hSw)
            go_simp
            all_goals (with_reducible rfl)
          (try simp only [Act.put, List.setIfInBounds_toArray, List.set_cons_zero, List.set_cons_succ])
          refine wpAnyH_take (i := 1) (oi := { dst := some 94, op := Op.fieldAddr 53 (Operand.tmp 13) 0, type := 0, pos := "law.go:302", after := #[], guard := none }) (v := ?_) rfl (by kernel_rfl) (by kernel_rfl) (by kernel_rfl) (fun _ _ _ h => h) (Or.inl ⟨by kernel_rfl, ?_⟩) (by assumption) ?_
          rotate_left
          · intro w hSw
            (try dsimp only at hSw)
            go_simp
            all_goals (with_reducible rfl)
          (try simp only [Act.put, List.setIfInBounds_toArray, List.set_cons_zero, List.set_cons_succ])
          refine wpAnyH_take (i := 2) (oi := { dst := some 95, op := Op.load 3 (Operand.tmp 94), type := 3, pos := "law.go:302", after := #[{ on := 1, ground := Ground.data }], guard := none }) (v := ?_) rfl (by kernel_rfl) (by kernel_rfl) (by kernel_rfl) (fun _ _ _ h => h) (Or.inl ⟨by kernel_rfl, ?_⟩) (by assumption) ?_
          rotate_left
          · intro w hSw
            (try dsimp only at hSw)
            go_simp
            all_goals (with_reducible rfl)
          (try simp only [Act.put, List.setIfInBounds_toArray, List.set_cons_zero, List.set_cons_succ])
          refine wpAnyH_take (i := 3) (oi := { dst := some 96, op := Op.fieldAddr 53 (Operand.tmp 13) 1, type := 0, pos := "law.go:302", after := #[], guard := none }) (v := ?_) rfl (by kernel_rfl) (by kernel_rfl) (by kernel_rfl) (fun _ _ _ h => h) (Or.inl ⟨by kernel_rfl, ?_⟩) (by assumption) ?_
          rotate_left
          · intro w hSw
            (try dsimp only at hSw)
            go_simp
            all_goals (with_reducible rfl)
          (try simp only [Act.put, List.setIfInBounds_toArray, List.set_cons_zero, List.set_cons_succ])
          refine wpAnyH_take (i := 4) (oi := { dst := some 97, op := Op.load 9 (Operand.tmp 96), type := 9, pos := "law.go:302", after := #[{ on := 3, ground := Ground.data }], guard := none }) (v := ?_) rfl (by kernel_rfl) (by kernel_rfl) (by kernel_rfl) (fun _ _ _ h => h) (Or.inl ⟨by kernel_rfl, ?_⟩) (by assumption) ?_
          rotate_left
          · intro w hSw
            (try dsimp only at hSw)
            go_simp
            all_goals (with_reducible rfl)
          (try simp only [Act.put, List.setIfInBounds_toArray, List.set_cons_zero, List.set_cons_succ])
          refine wpAnyH_take (i := 6) (oi := { dst := some 99, op := Op.move (Operand.tmp 10), type := 23, pos := "law.go:302", after := #[], guard := none }) (v := ?_) rfl (by kernel_rfl) (by kernel_rfl) (by kernel_rfl) (fun _ _ _ h => h) (Or.inl ⟨by kernel_rfl, ?_⟩) (by assumption) ?_
          rotate_left
          · intro w hSw
            (try dsimp only at hSw)
            go_simp
            all_goals (with_reducible rfl)
          (try simp only [Act.put, List.setIfInBounds_toArray, List.set_cons_zero, List.set_cons_succ])
          refine wpAnyH_take (i := 7) (oi := { dst := some 100, op := Op.fieldAddr 53 (Operand.tmp 13) 0, type := 0, pos := "law.go:302", after := #[], guard := none }) (v := ?_) rfl (by kernel_rfl) (by kernel_rfl) (by kernel_rfl) (fun _ _ _ h => h) (Or.inl ⟨by kernel_rfl, ?_⟩) (by assumption) ?_
          rotate_left
          · intro w hSw
            (try dsimp only at hSw)
            go_simp
            all_goals (with_reducible rfl)
          (try simp only [Act.put, List.setIfInBounds_toArray, List.set_cons_zero, List.set_cons_succ])
          refine wpAnyH_take (i := 8) (oi := { dst := some 101, op := Op.load 3 (Operand.tmp 100), type := 3, pos := "law.go:302", after := #[{ on := 7, ground := Ground.data }], guard := none }) (v := ?_) rfl (by kernel_rfl) (by kernel_rfl) (by kernel_rfl) (fun _ _ _ h => h) (Or.inl ⟨by kernel_rfl, ?_⟩) (by assumption) ?_
          rotate_left
          · intro w hSw
            (try dsimp only at hSw)
            go_simp
            all_goals (with_reducible rfl)
          (try simp only [Act.put, List.setIfInBounds_toArray, List.set_cons_zero, List.set_cons_succ])
          refine wpAnyH_take (i := 9) (oi := { dst := some 102, op := Op.fieldAddr 53 (Operand.tmp 13) 1, type := 0, pos := "law.go:302", after := #[], guard := none }) (v := ?_) rfl (by kernel_rfl) (by kernel_rfl) (by kernel_rfl) (fun _ _ _ h => h) (Or.inl ⟨by kernel_rfl, ?_⟩) (by assumption) ?_
          rotate_left
          · intro w hSw
            (try dsimp only at hSw)
            go_simp
            all_goals (with_reducible rfl)
          (try simp only [Act.put, List.setIfInBounds_toArray, List.set_cons_zero, List.set_cons_succ])
          refine wpAnyH_take (i := 10) (oi := { dst := some 103, op := Op.load 9 (Operand.tmp 102), type := 9, pos := "law.go:302", after := #[{ on := 9, ground := Ground.data }], guard := none }) (v := ?_) rfl (by kernel_rfl) (by kernel_rfl) (by kernel_rfl) (fun _ _ _ h => h) (Or.inl ⟨by kernel_rfl, ?_⟩) (by assumption) ?_
          rotate_left
          · intro w hSw
            (try dsimp only at hSw)
            go_simp
            all_goals (with_reducible rfl)
          (try simp only [Act.put, List.setIfInBounds_toArray, List.set_cons_zero, List.set_cons_succ])
          refine wpAnyH_ready (rs := [5]) (by kernel_rfl) (by simp) ?_
          refine AllReadyH.cons (o := { dst := some 98, op := Op.call { callee := Callee.value (Operand.func 21), args := #[Operand.tmp 93, Operand.tmp 95, Operand.tmp 97], argTypes := #[23, 3, 9] }, type := 24, pos := "law.go:302", after := #[{ on := 0, ground := Ground.data }, { on := 2, ground := Ground.data }, { on := 4, ground := Ground.data }], guard := none }) rfl (fun K hK => ?_) AllReadyH.nil
          go_simp
          go_at_call 21
          refine (H98.out W5.drew HT5.out.drew hz0).mono ?_
          rintro e w98 ⟨rfl, hT98, hf98⟩
          have hk98 := hkd.frm hf98 (fun h => h.2 rfl)
          refine hK.out _ _ (HCC.out _ hk98) (fun hHeld => ?_)
          clear hK K
          (try simp only [Act.put, List.setIfInBounds_toArray, List.set_cons_zero, List.set_cons_succ])
          refine wpAnyH_ready (rs := [11]) (by kernel_rfl) (by simp) ?_
          refine AllReadyH.cons (o := { dst := some 104, op := Op.call { callee := Callee.value (Operand.func 21), args := #[Operand.tmp 99, Operand.tmp 101, Operand.tmp 103], argTypes := #[23, 3, 9] }, type := 24, pos := "law.go:302", after := #[{ on := 6, ground := Ground.data }, { on := 8, ground := Ground.data }, { on := 10, ground := Ground.data }, { on := 5, ground := Ground.chain }], guard := none }) rfl (fun K hK => ?_) AllReadyH.nil
          go_simp
          go_at_call 21
          refine (H104.out w98 hT98 (Nat.le_trans hz0 hf98.size)).mono ?_
          rintro e w104 ⟨rfl, hT104, hf104⟩
          have hk104 := hk98.frm hf104 (fun h => h.2 rfl)
          refine hK.out _ _ (HCC.out _ hk104) (fun hHeld => ?_)
          clear hK K
          (try simp only [Act.put, List.setIfInBounds_toArray, List.set_cons_zero, List.set_cons_succ])
          refine wpAnyH_take (i := 12) (oi := { dst := some 105, op := Op.binOp BinOp.neq 24 (Operand.tmp 98) (Operand.tmp 104) 24, type := 4, pos := "law.go:302", after := #[{ on := 5, ground := Ground.data }, { on := 11, ground := Ground.data }], guard := none }) (v := ?_) rfl (by kernel_rfl) (by kernel_rfl) (by kernel_rfl) (fun _ _ _ h => h) (Or.inl ⟨by kernel_rfl, ?_⟩) (by assumption) ?_
          rotate_left
          · intro w hSw
            (try dsimp only at hSw)
            go_simp
            all_goals (with_reducible rfl)
          (try simp only [Act.put, List.setIfInBounds_toArray, List.set_cons_zero, List.set_cons_succ])
          refine wpAnyH_take (i := 13) (oi := { dst := some 106, op := Op.move (Operand.tmp 105), type := 4, pos := "law.go:302", after := #[{ on := 12, ground := Ground.data }, { on := 11, ground := Ground.chain }], guard := none }) (v := ?_) rfl (by kernel_rfl) (by kernel_rfl) (by kernel_rfl) (fun _ _ _ h => h) (Or.inl ⟨by kernel_rfl, ?_⟩) (by assumption) ?_
          rotate_left
          · intro w hSw
            (try dsimp only at hSw)
            go_simp
            all_goals (with_reducible rfl)
          (try simp only [Act.put, List.setIfInBounds_toArray, List.set_cons_zero, List.set_cons_succ])
          refine wpAnyH_take (i := 14) (oi := { dst := some 107, op := Op.fieldAddr 53 (Operand.tmp 13) 2, type := 0, pos := "law.go:302", after := #[{ on := 13, ground := Ground.guard }], guard := some (13, false) }) (v := ?_) rfl (by kernel_rfl) (by kernel_rfl) (by kernel_rfl) (fun _ _ _ h => h) (Or.inl ⟨by kernel_rfl, ?_⟩) (by assumption) ?_
          rotate_left
          · intro w hSw
            (try dsimp only at hSw)
            go_simp
            all_goals (with_reducible rfl)
          (try simp only [Act.put, List.setIfInBounds_toArray, List.set_cons_zero, List.set_cons_succ])
          refine wpAnyH_take (i := 15) (oi := { dst := some 108, op := Op.load 4 (Operand.tmp 107), type := 4, pos := "law.go:302", after := #[{ on := 14, ground := Ground.data }, { on := 13, ground := Ground.guard }], guard := some (13, false) }) (v := ?_) rfl (by kernel_rfl) (by kernel_rfl) (by kernel_rfl) (fun _ _ _ h => h) (Or.inl ⟨by kernel_rfl, ?_⟩) (by assumption) ?_
          rotate_left
          · intro w hSw
            (try dsimp only at hSw)
            go_simp
            all_goals (with_reducible rfl)
          (try simp only [Act.put, List.setIfInBounds_toArray, List.set_cons_zero, List.set_cons_succ])
          refine wpAnyH_take (i := 16) (oi := { dst := some 109, op := Op.move (Operand.tmp 108), type := 4, pos := "law.go:302", after := #[{ on := 15, ground := Ground.data }, { on := 13, ground := Ground.chain }, { on := 13, ground := Ground.guard }], guard := some (13, false) }) (v := ?_) rfl (by kernel_rfl) (by kernel_rfl) (by kernel_rfl) (fun _ _ _ h => h) (Or.inl ⟨by kernel_rfl, ?_⟩) (by assumption) ?_
          rotate_left
          · intro w hSw
            (try dsimp only at hSw)
            go_simp
            all_goals (with_reducible rfl)
          (try simp only [Act.put, List.setIfInBounds_toArray, List.set_cons_zero, List.set_cons_succ])
          refine wpAnyH_take (i := 17) (oi := { dst := some 110, op := Op.move (Operand.tmp 6), type := 23, pos := "law.go:302", after := #[{ on := 16, ground := Ground.guard }], guard := some (16, true) }) (v := undef) rfl (by kernel_rfl) (by kernel_rfl) (by kernel_rfl) (fun _ _ _ h => h) (Or.inr ⟨by kernel_rfl, rfl⟩) (by assumption) ?_
          (try simp only [Act.put, List.setIfInBounds_toArray, List.set_cons_zero, List.set_cons_succ])
          refine wpAnyH_take (i := 18) (oi := { dst := some 111, op := Op.call { callee := Callee.value (Operand.func 23), args := #[Operand.tmp 110], argTypes := #[23] }, type := 24, pos := "law.go:302", after := #[{ on := 17, ground := Ground.data }, { on := 16, ground := Ground.chain }, { on := 16, ground := Ground.guard }], guard := some (16, true) }) (v := undef) rfl (by kernel_rfl) (by kernel_rfl) (by kernel_rfl) (fun _ _ _ h => h) (Or.inr ⟨by kernel_rfl, rfl⟩) (by assumption) ?_
          (try simp only [Act.put, List.setIfInBounds_toArray, List.set_cons_zero, List.set_cons_succ])
          refine wpAnyH_take (i := 19) (oi := { dst := some 112, op := Op.move (Operand.tmp 10), type := 23, pos := "law.go:302", after := #[{ on := 16, ground := Ground.guard }], guard := some (16, true) }) (v := undef) rfl (by kernel_rfl) (by kernel_rfl) (by kernel_rfl) (fun _ _ _ h => h) (Or.inr ⟨by kernel_rfl, rfl⟩) (by assumption) ?_
          (try simp only [Act.put, List.setIfInBounds_toArray, List.set_cons_zero, List.set_cons_succ])
          refine wpAnyH_take (i := 20) (oi := { dst := some 113, op := Op.call { callee := Callee.value (Operand.func 23), args := #[Operand.tmp 112], argTypes := #[23] }, type := 24, pos := "law.go:302", after := #[{ on := 19, ground := Ground.data }, { on := 18, ground := Ground.chain }, { on := 16, ground := Ground.guard }], guard := some (16, true) }) (v := undef) rfl (by kernel_rfl) (by kernel_rfl) (by kernel_rfl) (fun _ _ _ h => h) (Or.inr ⟨by kernel_rfl, rfl⟩) (by assumption) ?_
          (try simp only [Act.put, List.setIfInBounds_toArray, List.set_cons_zero, List.set_cons_succ])
          refine wpAnyH_take (i := 21) (oi := { dst := some 114, op := Op.binOp BinOp.neq 24 (Operand.tmp 111) (Operand.tmp 113) 24, type := 4, pos := "law.go:302", after := #[{ on := 18, ground := Ground.data }, { on := 20, ground := Ground.data }, { on := 16, ground := Ground.guard }], guard := some (16, true) }) (v := undef) rfl (by kernel_rfl) (by kernel_rfl) (by kernel_rfl) (fun _ _ _ h => h) (Or.inr ⟨by kernel_rfl, rfl⟩) (by assumption) ?_
          (try simp only [Act.put, List.setIfInBounds_toArray, List.set_cons_zero, List.set_cons_succ])
          refine wpAnyH_take (i := 22) (oi := { dst := some 115, op := Op.pick (Operand.tmp 109) (Operand.tmp 114) (Operand.const (Value.bool false)), type := 4, pos := "law.go:302", after := #[{ on := 16, ground := Ground.data }, { on := 21, ground := Ground.data }, { on := 13, ground := Ground.guard }], guard := some (13, false) }) (v := ?_) rfl (by kernel_rfl) (by kernel_rfl) (by kernel_rfl) (fun _ _ _ h => h) (Or.inl ⟨by kernel_rfl, ?_⟩) (by assumption) ?_
          rotate_left
          · intro w hSw
            (try dsimp only at hSw)
            go_simp
            all_goals (with_reducible rfl)
          (try simp only [Act.put, List.setIfInBounds_toArray, List.set_cons_zero, List.set_cons_succ])
          refine wpAnyH_take (i := 23) (oi := { dst := some 116, op := Op.pick (Operand.tmp 106) (Operand.const (Value.bool true)) (Operand.tmp 115), type := 4, pos := "law.go:302", after := #[{ on := 13, ground := Ground.data }, { on := 22, ground := Ground.data }], guard := none }) (v := ?_) rfl (by kernel_rfl) (by kernel_rfl) (by kernel_rfl) (fun _ _ _ h => h) (Or.inl ⟨by kernel_rfl, ?_⟩) (by assumption) ?_
          rotate_left
          · intro w hSw
            (try dsimp only at hSw)
            go_simp
            all_goals (with_reducible rfl)
          (try simp only [Act.put, List.setIfInBounds_toArray, List.set_cons_zero, List.set_cons_succ])
          refine wpAnyH_done (by kernel_rfl) ?_ _
          have hB7 := (hB5.trans (((Below.refl _ W5).drew).trans (hf98.besBelow hB5.size))).trans (hf104.besBelow (Nat.le_trans hB5.size hf98.size))
          have HT7 := Lib.hid (hT104.swap13.mono (Q := fun i => w1.heap.size ≤ i) (fun i _ h => h.1))
          have HON := Lib.hid on1
          clear hT98 hT104 hf98 hf104 hk98 hk104 H98 H104 HCC HT5 on1
          go_wp2
          go_roundw
          case rel => exact ⟨k + 1, D1, E, by omega, by omega, by go_num, HT7.out, HON, honE, by omega, by omega, hB7⟩
          case measure => simp [intOf]; omega
        | true =>
          obtain ⟨e2, on2, -, -, p2⟩ := on_sync on1
          have HS := Lib.hid (fun (W : World) (X1 X2 : Nat) (Dz : DiskD) (hT : Tri W (Bes w1.heap.size w4.heap.size) n X1 B2 X2 D1 E Dz) => Tri.sync1 hT)
          rw [e2] at HS
          have hp2 : (syncD D1).pend.length = 0 := by rw [p2]; rfl
          have HON := Lib.hid on2
          clear e2 p2 on1 on2
          generalize syncD D1 = D2 at *
          go_wp2_with fail
          generalize w4.alloc (.cells #[.int .i64 (o : Nat), .string s, .bool true] 53) = W5 at *
          have hz0 : w4.heap.size + 1 ≤ W5.heap.size := Nat.le_of_eq hs5.symm
          have hkd : Blk W5.drew w4.heap.size _ 53 := kA5
          go_region_held3 (fun w' => w'.cell? ⟨w4.heap.size, 0, none⟩ = some (.int .i64 (o : Nat)) ∧ w'.cell? ⟨w4.heap.size, 1, none⟩ = some (.string s) ∧ w'.cell? ⟨w4.heap.size, 2, none⟩ = some (.bool true))
            (first | exact HCC.out _ hk113 | exact HCC.out _ hk111 | exact HCC.out _ hk104 | exact HCC.out _ hk98 | exact HCC.out _ hkd)
            (first | (have zz := hT111; clear zz; go_at_call 23; refine (HS.out _ _ _ _ hT111.swap13).mono ?_; rintro e w113 ⟨rfl, hT113, hf113⟩; have hk113 := hk111.frm hf113 (fun h => h.2 rfl)) | (have zz := hT104; clear zz; go_at_call 23; refine (HS.out _ _ _ _ hT104.swap13).mono ?_; rintro e w111 ⟨rfl, hT111, hf111⟩; have hk111 := hk104.frm hf111 (fun h => h.2 rfl)) | (have zz := hT98; clear zz; go_at_call 21; refine (H104.out w98 hT98 (Nat.le_trans hz0 hf98.size)).mono ?_; rintro e w104 ⟨rfl, hT104, hf104⟩; have hk104 := hk98.frm hf104 (fun h => h.2 rfl)) | (go_at_call 21; refine (H98.out W5.drew HT5.out.drew hz0).mono ?_; rintro e w98 ⟨rfl, hT98, hf98⟩; have hk98 := hkd.frm hf98 (fun h => h.2 rfl)))
          have hB7 := (((hB5.trans (((Below.refl _ W5).drew).trans (hf98.besBelow hB5.size))).trans (hf104.besBelow (Nat.le_trans hB5.size hf98.size))).trans (hf111.besBelow (Nat.le_trans (Nat.le_trans hB5.size hf98.size) hf104.size))).trans (hf113.besBelow (Nat.le_trans (Nat.le_trans (Nat.le_trans hB5.size hf98.size) hf104.size) hf111.size))
          have HT7 := Lib.hid (hT113.swap13.mono (Q := fun i => w1.heap.size ≤ i) (fun i _ h => h.1))
          clear hT98 hT104 hf98 hf104 hk98 hk104 hT111 hT113 hf111 hf113 hk111 hk113 H98 H104 HCC HT5 HS
          go_wp2
          go_roundw
          case rel => exact ⟨k + 1, D2, E, by omega, by omega, by go_num, HT7.out, HON, honE, by omega, by omega, hB7⟩
          case measure => simp [intOf]; omega
    · obtain ⟨q1, q2⟩ := on_read hon.out
      have hr1 := read_f hT.o1 0 n
      have hr3 := read_f hT.swap13.o1 0 n
      rw [q1, q2] at hr1 hr3
      have hp1 := pending_f hT.o1
      have hp3 := pending_f hT.swap13.o1
      clear q1 q2 hT
      by_cases hk2 : k < l.length
      · obtain rfl : k = 30 := by omega
        go_wp2_with fail
        refine hr1.mono ?_
        rintro e wq ⟨rfl, rfl⟩
        go_wp2_with fail
        refine hr3.mono ?_
        rintro e wq ⟨rfl, rfl⟩
        go_wp2_with fail
        refine hp1.mono ?_
        rintro e wq ⟨rfl, rfl⟩
        go_wp2_with fail
        refine hp3.mono ?_
        rintro e wq ⟨rfl, rfl⟩
        go_wp2
        go_ret
        exact ⟨rfl, HB1.out.trans (hBr.mono HB1.out.size)⟩
      · obtain rfl : k = l.length := by omega
        go_wp2_with fail
        refine hr1.mono ?_
        rintro e wq ⟨rfl, rfl⟩
        go_wp2_with fail
        refine hr3.mono ?_
        rintro e wq ⟨rfl, rfl⟩
        go_wp2_with fail
        refine hp1.mono ?_
        rintro e wq ⟨rfl, rfl⟩
        go_wp2_with fail
        refine hp3.mono ?_
        rintro e wq ⟨rfl, rfl⟩
        go_wp2
        go_ret
        exact ⟨rfl, HB1.out.trans (hBr.mono HB1.out.size)⟩
end Go.Proofs.Ytfmdpmcniccioaa

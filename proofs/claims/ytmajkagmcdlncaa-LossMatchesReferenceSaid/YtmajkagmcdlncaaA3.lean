/- package cmp at integers; package contact's order of passes; slices.IsSortedFunc; Proper; package nadirref09: Proper. -/
import Derived.Test.YtmajkagmcdlncaaA2
namespace Go.Proofs.Ytmajkagmcdlncaa
open Go.RowKit
open L18 (Pass Slot isPassB passOK sgnI orI cmpP)

theorem nan95 (x : Int) (w : World) : Calls Try.prog 95 #[.int .i64 x] w fun e w' => e = .returned (.bool false) ∧ w = w' := by
  go_enter Try.func95, Try.ntmps95
  go_wp2
  go_ret
  exact ⟨by simp, rfl⟩
set_option maxRecDepth 100000 in
theorem cmp80 (x y : Int) (w : World) : Calls Try.prog 80 #[.int .i64 x, .int .i64 y] w fun e w' => e = .returned (.int .i64 (sgnI x y)) ∧ w = w' := by
  unfold sgnI
  by_cases h1 : x < y
  · rw [if_pos h1]
    go_enter Try.func80, Try.ntmps80
    go_wp2_with fail
    refine (nan95 x _).mono ?_
    rintro e w' ⟨rfl, rfl⟩
    go_wp2_with fail
    refine (nan95 y _).mono ?_
    rintro e w' ⟨rfl, rfl⟩
    go_wp2
    go_ret
    exact ⟨rfl, rfl⟩
  · rw [if_neg h1]
    by_cases h2 : y < x
    · rw [if_pos h2]
      go_enter Try.func80, Try.ntmps80
      go_wp2_with fail
      refine (nan95 x _).mono ?_
      rintro e w' ⟨rfl, rfl⟩
      go_wp2_with fail
      refine (nan95 y _).mono ?_
      rintro e w' ⟨rfl, rfl⟩
      go_wp2
      go_ret
      exact ⟨rfl, rfl⟩
    · rw [if_neg h2]
      obtain rfl : x = y := by omega
      clear h1 h2
      go_enter Try.func80, Try.ntmps80
      go_wp2_with fail
      refine (nan95 x _).mono ?_
      rintro e w' ⟨rfl, rfl⟩
      go_wp2_with fail
      refine (nan95 x _).mono ?_
      rintro e w' ⟨rfl, rfl⟩
      go_wp2
      go_ret
      exact ⟨rfl, rfl⟩
/-- The first number that is not zero. -/
def orF : List Int → Int
  | [] => 0
  | x :: r => if x ≠ 0 then x else orF r
theorem orF_at : ∀ {l : List Int} {k : Nat}, k < l.length → (∀ j, j < k → l.getD j 0 = 0) → l.getD k 0 ≠ 0 → orF l = l.getD k 0
  | x :: r, 0, _, _, h => by
    rw [orF]; simp at h ⊢; exact fun h2 => absurd h2 h
  | x :: r, k + 1, hk, h, hx => by
    have h0 : x = 0 := by simpa using h 0 (by omega)
    rw [orF, if_neg (by simpa using h0)]
    simpa using orF_at (l := r) (k := k) (by simpa using hk) (fun j hj => by simpa using h (j + 1) (by omega)) (by simpa using hx)
theorem orF_none : ∀ {l : List Int}, (∀ j, j < l.length → l.getD j 0 = 0) → orF l = 0
  | [], _ => rfl
  | x :: r, h => by
    have h0 : x = 0 := by simpa using h 0 (by simp)
    rw [orF, if_neg (by simpa using h0)]
    exact orF_none fun j hj => by simpa using h (j + 1) (by simpa using hj)
set_option maxRecDepth 100000 in
theorem or79 (v : Value) (l : List Int) (w : World) (hv : IntsAt w v l) : Calls Try.prog 79 #[v] w fun e w' => e = .returned (.int .i64 (orF l)) ∧ w = w' := by
  have HV := Lib.hid hv
  obtain ⟨a, cap, rfl, hle, hcm, -⟩ := hv
  unfold maxLen at hcm
  go_enter Try.func79, Try.ntmps79
  go_wp2
  go_loop [5, 8] (fun _ u8 => ∃ k : Nat, k ≤ l.length ∧ u8 = .int .i64 k ∧ (∀ j, j < k → l.getD j 0 = 0)) (fun _ u8 => (l.length - intOf u8).toNat)
  case atStart => exact ⟨0, by omega, rfl, fun j hj => absurd hj (Nat.not_lt_zero _)⟩
  case round =>
    obtain ⟨k, hk, rfl, hpre⟩ := hrel
    have HP := Lib.hid hpre
    clear hpre
    by_cases hkl : k < l.length
    · obtain ⟨b, off, rfl, hcell⟩ := HV.out.get (getD_some 0 hkl)
      by_cases hz : l.getD k 0 = 0
      · rw [hz] at hcell
        have HZ := Lib.hid hz
        clear hz
        go_wp2
        go_round
        case rel => exact ⟨k + 1, by omega, by go_num, fun j hj => by
          by_cases hjk : j < k
          · exact HP.out j hjk
          · obtain rfl : j = k := by omega
            exact HZ.out⟩
        case measure => simp [intOf]; omega
      · have HO := Lib.hid (orF_at hkl HP.out hz)
        generalize l.getD k 0 = x at hcell hz HO
        go_wp2
        go_ret
        exact ⟨by rw [HO.out]; rfl, rfl⟩
    · go_wp2
      go_ret
      exact ⟨by rw [orF_none fun j hj => HP.out j (by omega)]; rfl, rfl⟩
abbrev pC (p : Pass) : Array Value := #[.int .i64 p.sat, .int .i64 p.stn, .int .i64 p.sf, .int .i64 p.su, .int .i64 p.cf, .int .i64 p.cu]
theorem cmpP_or (a b : Pass) : cmpP a b = orF [sgnI a.cf b.cf, sgnI a.sat b.sat, sgnI a.stn b.stn, sgnI a.sf b.sf, sgnI a.cu b.cu] := by
  unfold cmpP orI
  simp only [orF]
  repeat' split
  all_goals first | rfl | omega
theorem ints_five {W : World} {B : Nat} {a b c d e : Int} (h : Blk W B #[.int .i64 a, .int .i64 b, .int .i64 c, .int .i64 d, .int .i64 e] 3) : IntsAt W (.slice (some ⟨B, 0, none⟩) 5 5) [a, b, c, d, e] := by
  refine ⟨_, 5, rfl, Nat.le_refl _, by unfold maxLen; decide, fun _ => ⟨B, 0, rfl, fun j z hj => ?_⟩⟩
  rw [Nat.zero_add, h.cell]
  match j, hj with
  | 0, hj => cases hj; rfl
  | 1, hj => cases hj; rfl
  | 2, hj => cases hj; rfl
  | 3, hj => cases hj; rfl
  | 4, hj => cases hj; rfl
set_option maxRecDepth 100000 in
set_option maxHeartbeats 1000000 in
theorem compare67 (a b : Pass) (w : World) : Calls Try.prog 67 #[.agg #[.int .i64 a.sat, .int .i64 a.stn, .int .i64 a.sf, .int .i64 a.su, .int .i64 a.cf, .int .i64 a.cu], .agg #[.int .i64 b.sat, .int .i64 b.stn, .int .i64 b.sf, .int .i64 b.su, .int .i64 b.cf, .int .i64 b.cu]] w fun e w' => e = .returned (.int .i64 (cmpP a b)) ∧ Below w.heap.size w w' := by
  obtain ⟨V, hV⟩ : ∃ V, V = (w.alloc (.cells #[.int .i64 a.sat, .int .i64 a.stn, .int .i64 a.sf, .int .i64 a.su, .int .i64 a.cf, .int .i64 a.cu] 30)).alloc (.cells #[.int .i64 b.sat, .int .i64 b.stn, .int .i64 b.sf, .int .i64 b.su, .int .i64 b.cf, .int .i64 b.cu] 30) := ⟨_, rfl⟩
  have hB0 : Below w.heap.size w V := by rw [hV]; exact ((Below.refl _ _).alloc (Nat.le_refl _) _).alloc (by simp) _
  have ka : Blk V w.heap.size (pC a) 30 := by rw [hV]; exact (Blk.new w _ _).alloc _
  have kb : Blk V (w.heap.size + 1) (pC b) 30 := by rw [hV]; exact Blk.newAt _ _ _ (by simp)
  have la := ka.lt
  have lb := kb.lt
  have HC := Lib.hid (fun W (hW : Below V.heap.size V W) => show W.cell? ⟨w.heap.size, 0, none⟩ = some (.int .i64 a.sat) ∧ W.cell? ⟨w.heap.size, 1, none⟩ = some (.int .i64 a.stn) ∧ W.cell? ⟨w.heap.size, 2, none⟩ = some (.int .i64 a.sf) ∧ W.cell? ⟨w.heap.size, 4, none⟩ = some (.int .i64 a.cf) ∧ W.cell? ⟨w.heap.size, 5, none⟩ = some (.int .i64 a.cu) ∧ W.cell? ⟨w.heap.size + 1, 0, none⟩ = some (.int .i64 b.sat) ∧ W.cell? ⟨w.heap.size + 1, 1, none⟩ = some (.int .i64 b.stn) ∧ W.cell? ⟨w.heap.size + 1, 2, none⟩ = some (.int .i64 b.sf) ∧ W.cell? ⟨w.heap.size + 1, 4, none⟩ = some (.int .i64 b.cf) ∧ W.cell? ⟨w.heap.size + 1, 5, none⟩ = some (.int .i64 b.cu) from
    ⟨(ka.below hW la).cell 0, (ka.below hW la).cell 1, (ka.below hW la).cell 2, (ka.below hW la).cell 4, (ka.below hW la).cell 5, (kb.below hW lb).cell 0, (kb.below hW lb).cell 1, (kb.below hW lb).cell 2, (kb.below hW lb).cell 4, (kb.below hW lb).cell 5⟩)
  rw [cmpP_or]
  have HO := Lib.hid (fun W B (h : Blk W B #[.int .i64 (sgnI a.cf b.cf), .int .i64 (sgnI a.sat b.sat), .int .i64 (sgnI a.stn b.stn), .int .i64 (sgnI a.sf b.sf), .int .i64 (sgnI a.cu b.cu)] 3) => or79 _ _ W (ints_five h))
  clear ka kb la lb
  generalize orF [sgnI a.cf b.cf, sgnI a.sat b.sat, sgnI a.stn b.stn, sgnI a.sf b.sf, sgnI a.cu b.cu] = r at HO ⊢
  go_enter Try.func67, Try.ntmps67
  go_upto_region 1 with (fail)
  rw [← hV]
  have HVV := Lib.hid hV
  clear hV
  refine wp_region_noPanic ?_
  refine wp_region_held_drew (S := (fun w' => Below V.heap.size V w' ∧ w'.cell? ⟨w.heap.size, 0, none⟩ = some (.int .i64 a.sat) ∧ w'.cell? ⟨w.heap.size, 1, none⟩ = some (.int .i64 a.stn) ∧ w'.cell? ⟨w.heap.size, 2, none⟩ = some (.int .i64 a.sf) ∧ w'.cell? ⟨w.heap.size, 4, none⟩ = some (.int .i64 a.cf) ∧ w'.cell? ⟨w.heap.size, 5, none⟩ = some (.int .i64 a.cu) ∧ w'.cell? ⟨w.heap.size + 1, 0, none⟩ = some (.int .i64 b.sat) ∧ w'.cell? ⟨w.heap.size + 1, 1, none⟩ = some (.int .i64 b.stn) ∧ w'.cell? ⟨w.heap.size + 1, 2, none⟩ = some (.int .i64 b.sf) ∧ w'.cell? ⟨w.heap.size + 1, 4, none⟩ = some (.int .i64 b.cf) ∧ w'.cell? ⟨w.heap.size + 1, 5, none⟩ = some (.int .i64 b.cu))) (by kernel_rfl) ⟨(Below.refl _ _).drew, HC.out _ (Below.refl _ _).drew⟩ (fun hHeld => ?_)
  refine wpAnyH_take (i := 0) (oi := { dst := some 5, op := Op.fieldAddr 30 (Operand.tmp 2) 3, type := 0, pos := "contact.go:119", after := #[], guard := none }) (v := ?_) rfl (by kernel_rfl) (by kernel_rfl) (by kernel_rfl) (fun _ _ _ h => h) (Or.inl ⟨by kernel_rfl, ?_⟩) (by assumption) ?_
  rotate_left
  · intro w hSw
    (try dsimp only at hSw)
    go_simp
    all_goals (with_reducible rfl)
  (try simp only [Act.put, List.setIfInBounds_toArray, List.set_cons_zero, List.set_cons_succ])
  refine wpAnyH_take (i := 1) (oi := { dst := some 6, op := Op.fieldAddr 25 (Operand.tmp 5) 0, type := 0, pos := "contact.go:119", after := #[{ on := 0, ground := Ground.data }], guard := none }) (v := ?_) rfl (by kernel_rfl) (by kernel_rfl) (by kernel_rfl) (fun _ _ _ h => h) (Or.inl ⟨by kernel_rfl, ?_⟩) (by assumption) ?_
  rotate_left
  · intro w hSw
    (try dsimp only at hSw)
    go_simp
    all_goals (with_reducible rfl)
  (try simp only [Act.put, List.setIfInBounds_toArray, List.set_cons_zero, List.set_cons_succ])
  refine wpAnyH_take (i := 2) (oi := { dst := some 7, op := Op.load 3 (Operand.tmp 6), type := 3, pos := "contact.go:119", after := #[{ on := 1, ground := Ground.data }], guard := none }) (v := ?_) rfl (by kernel_rfl) (by kernel_rfl) (by kernel_rfl) (fun _ _ _ h => h) (Or.inl ⟨by kernel_rfl, ?_⟩) (by assumption) ?_
  rotate_left
  · intro w hSw
    (try dsimp only at hSw)
    go_simp
    all_goals (with_reducible rfl)
  (try simp only [Act.put, List.setIfInBounds_toArray, List.set_cons_zero, List.set_cons_succ])
  refine wpAnyH_take (i := 3) (oi := { dst := some 8, op := Op.fieldAddr 30 (Operand.tmp 3) 3, type := 0, pos := "contact.go:119", after := #[], guard := none }) (v := ?_) rfl (by kernel_rfl) (by kernel_rfl) (by kernel_rfl) (fun _ _ _ h => h) (Or.inl ⟨by kernel_rfl, ?_⟩) (by assumption) ?_
  rotate_left
  · intro w hSw
    (try dsimp only at hSw)
    go_simp
    all_goals (with_reducible rfl)
  (try simp only [Act.put, List.setIfInBounds_toArray, List.set_cons_zero, List.set_cons_succ])
  refine wpAnyH_take (i := 4) (oi := { dst := some 9, op := Op.fieldAddr 25 (Operand.tmp 8) 0, type := 0, pos := "contact.go:119", after := #[{ on := 3, ground := Ground.data }], guard := none }) (v := ?_) rfl (by kernel_rfl) (by kernel_rfl) (by kernel_rfl) (fun _ _ _ h => h) (Or.inl ⟨by kernel_rfl, ?_⟩) (by assumption) ?_
  rotate_left
  · intro w hSw
    (try dsimp only at hSw)
    go_simp
    all_goals (with_reducible rfl)
  (try simp only [Act.put, List.setIfInBounds_toArray, List.set_cons_zero, List.set_cons_succ])
  refine wpAnyH_take (i := 5) (oi := { dst := some 10, op := Op.load 3 (Operand.tmp 9), type := 3, pos := "contact.go:119", after := #[{ on := 4, ground := Ground.data }], guard := none }) (v := ?_) rfl (by kernel_rfl) (by kernel_rfl) (by kernel_rfl) (fun _ _ _ h => h) (Or.inl ⟨by kernel_rfl, ?_⟩) (by assumption) ?_
  rotate_left
  · intro w hSw
    (try dsimp only at hSw)
    go_simp
    all_goals (with_reducible rfl)
  (try simp only [Act.put, List.setIfInBounds_toArray, List.set_cons_zero, List.set_cons_succ])
  refine wpAnyH_take (i := 7) (oi := { dst := some 12, op := Op.fieldAddr 30 (Operand.tmp 2) 0, type := 0, pos := "contact.go:119", after := #[], guard := none }) (v := ?_) rfl (by kernel_rfl) (by kernel_rfl) (by kernel_rfl) (fun _ _ _ h => h) (Or.inl ⟨by kernel_rfl, ?_⟩) (by assumption) ?_
  rotate_left
  · intro w hSw
    (try dsimp only at hSw)
    go_simp
    all_goals (with_reducible rfl)
  (try simp only [Act.put, List.setIfInBounds_toArray, List.set_cons_zero, List.set_cons_succ])
  refine wpAnyH_take (i := 8) (oi := { dst := some 13, op := Op.load 3 (Operand.tmp 12), type := 3, pos := "contact.go:119", after := #[{ on := 7, ground := Ground.data }], guard := none }) (v := ?_) rfl (by kernel_rfl) (by kernel_rfl) (by kernel_rfl) (fun _ _ _ h => h) (Or.inl ⟨by kernel_rfl, ?_⟩) (by assumption) ?_
  rotate_left
  · intro w hSw
    (try dsimp only at hSw)
    go_simp
    all_goals (with_reducible rfl)
  (try simp only [Act.put, List.setIfInBounds_toArray, List.set_cons_zero, List.set_cons_succ])
  refine wpAnyH_take (i := 9) (oi := { dst := some 14, op := Op.fieldAddr 30 (Operand.tmp 3) 0, type := 0, pos := "contact.go:119", after := #[], guard := none }) (v := ?_) rfl (by kernel_rfl) (by kernel_rfl) (by kernel_rfl) (fun _ _ _ h => h) (Or.inl ⟨by kernel_rfl, ?_⟩) (by assumption) ?_
  rotate_left
  · intro w hSw
    (try dsimp only at hSw)
    go_simp
    all_goals (with_reducible rfl)
  (try simp only [Act.put, List.setIfInBounds_toArray, List.set_cons_zero, List.set_cons_succ])
  refine wpAnyH_take (i := 10) (oi := { dst := some 15, op := Op.load 3 (Operand.tmp 14), type := 3, pos := "contact.go:119", after := #[{ on := 9, ground := Ground.data }], guard := none }) (v := ?_) rfl (by kernel_rfl) (by kernel_rfl) (by kernel_rfl) (fun _ _ _ h => h) (Or.inl ⟨by kernel_rfl, ?_⟩) (by assumption) ?_
  rotate_left
  · intro w hSw
    (try dsimp only at hSw)
    go_simp
    all_goals (with_reducible rfl)
  (try simp only [Act.put, List.setIfInBounds_toArray, List.set_cons_zero, List.set_cons_succ])
  refine wpAnyH_take (i := 12) (oi := { dst := some 17, op := Op.fieldAddr 30 (Operand.tmp 2) 1, type := 0, pos := "contact.go:119", after := #[], guard := none }) (v := ?_) rfl (by kernel_rfl) (by kernel_rfl) (by kernel_rfl) (fun _ _ _ h => h) (Or.inl ⟨by kernel_rfl, ?_⟩) (by assumption) ?_
  rotate_left
  · intro w hSw
    (try dsimp only at hSw)
    go_simp
    all_goals (with_reducible rfl)
  (try simp only [Act.put, List.setIfInBounds_toArray, List.set_cons_zero, List.set_cons_succ])
  refine wpAnyH_take (i := 13) (oi := { dst := some 18, op := Op.load 3 (Operand.tmp 17), type := 3, pos := "contact.go:119", after := #[{ on := 12, ground := Ground.data }], guard := none }) (v := ?_) rfl (by kernel_rfl) (by kernel_rfl) (by kernel_rfl) (fun _ _ _ h => h) (Or.inl ⟨by kernel_rfl, ?_⟩) (by assumption) ?_
  rotate_left
  · intro w hSw
    (try dsimp only at hSw)
    go_simp
    all_goals (with_reducible rfl)
  (try simp only [Act.put, List.setIfInBounds_toArray, List.set_cons_zero, List.set_cons_succ])
  refine wpAnyH_take (i := 14) (oi := { dst := some 19, op := Op.fieldAddr 30 (Operand.tmp 3) 1, type := 0, pos := "contact.go:119", after := #[], guard := none }) (v := ?_) rfl (by kernel_rfl) (by kernel_rfl) (by kernel_rfl) (fun _ _ _ h => h) (Or.inl ⟨by kernel_rfl, ?_⟩) (by assumption) ?_
  rotate_left
  · intro w hSw
    (try dsimp only at hSw)
    go_simp
    all_goals (with_reducible rfl)
  (try simp only [Act.put, List.setIfInBounds_toArray, List.set_cons_zero, List.set_cons_succ])
  refine wpAnyH_take (i := 15) (oi := { dst := some 20, op := Op.load 3 (Operand.tmp 19), type := 3, pos := "contact.go:119", after := #[{ on := 14, ground := Ground.data }], guard := none }) (v := ?_) rfl (by kernel_rfl) (by kernel_rfl) (by kernel_rfl) (fun _ _ _ h => h) (Or.inl ⟨by kernel_rfl, ?_⟩) (by assumption) ?_
  rotate_left
  · intro w hSw
    (try dsimp only at hSw)
    go_simp
    all_goals (with_reducible rfl)
  (try simp only [Act.put, List.setIfInBounds_toArray, List.set_cons_zero, List.set_cons_succ])
  refine wpAnyH_take (i := 17) (oi := { dst := some 22, op := Op.fieldAddr 30 (Operand.tmp 2) 2, type := 0, pos := "contact.go:119", after := #[], guard := none }) (v := ?_) rfl (by kernel_rfl) (by kernel_rfl) (by kernel_rfl) (fun _ _ _ h => h) (Or.inl ⟨by kernel_rfl, ?_⟩) (by assumption) ?_
  rotate_left
  · intro w hSw
    (try dsimp only at hSw)
    go_simp
    all_goals (with_reducible rfl)
  (try simp only [Act.put, List.setIfInBounds_toArray, List.set_cons_zero, List.set_cons_succ])
  refine wpAnyH_take (i := 18) (oi := { dst := some 23, op := Op.fieldAddr 25 (Operand.tmp 22) 0, type := 0, pos := "contact.go:119", after := #[{ on := 17, ground := Ground.data }], guard := none }) (v := ?_) rfl (by kernel_rfl) (by kernel_rfl) (by kernel_rfl) (fun _ _ _ h => h) (Or.inl ⟨by kernel_rfl, ?_⟩) (by assumption) ?_
  rotate_left
  · intro w hSw
    (try dsimp only at hSw)
    go_simp
    all_goals (with_reducible rfl)
  (try simp only [Act.put, List.setIfInBounds_toArray, List.set_cons_zero, List.set_cons_succ])
  refine wpAnyH_take (i := 19) (oi := { dst := some 24, op := Op.load 3 (Operand.tmp 23), type := 3, pos := "contact.go:119", after := #[{ on := 18, ground := Ground.data }], guard := none }) (v := ?_) rfl (by kernel_rfl) (by kernel_rfl) (by kernel_rfl) (fun _ _ _ h => h) (Or.inl ⟨by kernel_rfl, ?_⟩) (by assumption) ?_
  rotate_left
  · intro w hSw
    (try dsimp only at hSw)
    go_simp
    all_goals (with_reducible rfl)
  (try simp only [Act.put, List.setIfInBounds_toArray, List.set_cons_zero, List.set_cons_succ])
  refine wpAnyH_take (i := 20) (oi := { dst := some 25, op := Op.fieldAddr 30 (Operand.tmp 3) 2, type := 0, pos := "contact.go:119", after := #[], guard := none }) (v := ?_) rfl (by kernel_rfl) (by kernel_rfl) (by kernel_rfl) (fun _ _ _ h => h) (Or.inl ⟨by kernel_rfl, ?_⟩) (by assumption) ?_
  rotate_left
  · intro w hSw
    (try dsimp only at hSw)
    go_simp
    all_goals (with_reducible rfl)
  (try simp only [Act.put, List.setIfInBounds_toArray, List.set_cons_zero, List.set_cons_succ])
  refine wpAnyH_take (i := 21) (oi := { dst := some 26, op := Op.fieldAddr 25 (Operand.tmp 25) 0, type := 0, pos := "contact.go:119", after := #[{ on := 20, ground := Ground.data }], guard := none }) (v := ?_) rfl (by kernel_rfl) (by kernel_rfl) (by kernel_rfl) (fun _ _ _ h => h) (Or.inl ⟨by kernel_rfl, ?_⟩) (by assumption) ?_
  rotate_left
  · intro w hSw
    (try dsimp only at hSw)
    go_simp
    all_goals (with_reducible rfl)
  (try simp only [Act.put, List.setIfInBounds_toArray, List.set_cons_zero, List.set_cons_succ])
  refine wpAnyH_take (i := 22) (oi := { dst := some 27, op := Op.load 3 (Operand.tmp 26), type := 3, pos := "contact.go:119", after := #[{ on := 21, ground := Ground.data }], guard := none }) (v := ?_) rfl (by kernel_rfl) (by kernel_rfl) (by kernel_rfl) (fun _ _ _ h => h) (Or.inl ⟨by kernel_rfl, ?_⟩) (by assumption) ?_
  rotate_left
  · intro w hSw
    (try dsimp only at hSw)
    go_simp
    all_goals (with_reducible rfl)
  (try simp only [Act.put, List.setIfInBounds_toArray, List.set_cons_zero, List.set_cons_succ])
  refine wpAnyH_take (i := 24) (oi := { dst := some 29, op := Op.fieldAddr 30 (Operand.tmp 2) 3, type := 0, pos := "contact.go:119", after := #[], guard := none }) (v := ?_) rfl (by kernel_rfl) (by kernel_rfl) (by kernel_rfl) (fun _ _ _ h => h) (Or.inl ⟨by kernel_rfl, ?_⟩) (by assumption) ?_
  rotate_left
  · intro w hSw
    (try dsimp only at hSw)
    go_simp
    all_goals (with_reducible rfl)
  (try simp only [Act.put, List.setIfInBounds_toArray, List.set_cons_zero, List.set_cons_succ])
  refine wpAnyH_take (i := 25) (oi := { dst := some 30, op := Op.fieldAddr 25 (Operand.tmp 29) 1, type := 0, pos := "contact.go:119", after := #[{ on := 24, ground := Ground.data }], guard := none }) (v := ?_) rfl (by kernel_rfl) (by kernel_rfl) (by kernel_rfl) (fun _ _ _ h => h) (Or.inl ⟨by kernel_rfl, ?_⟩) (by assumption) ?_
  rotate_left
  · intro w hSw
    (try dsimp only at hSw)
    go_simp
    all_goals (with_reducible rfl)
  (try simp only [Act.put, List.setIfInBounds_toArray, List.set_cons_zero, List.set_cons_succ])
  refine wpAnyH_take (i := 26) (oi := { dst := some 31, op := Op.load 3 (Operand.tmp 30), type := 3, pos := "contact.go:119", after := #[{ on := 25, ground := Ground.data }], guard := none }) (v := ?_) rfl (by kernel_rfl) (by kernel_rfl) (by kernel_rfl) (fun _ _ _ h => h) (Or.inl ⟨by kernel_rfl, ?_⟩) (by assumption) ?_
  rotate_left
  · intro w hSw
    (try dsimp only at hSw)
    go_simp
    all_goals (with_reducible rfl)
  (try simp only [Act.put, List.setIfInBounds_toArray, List.set_cons_zero, List.set_cons_succ])
  refine wpAnyH_take (i := 27) (oi := { dst := some 32, op := Op.fieldAddr 30 (Operand.tmp 3) 3, type := 0, pos := "contact.go:119", after := #[], guard := none }) (v := ?_) rfl (by kernel_rfl) (by kernel_rfl) (by kernel_rfl) (fun _ _ _ h => h) (Or.inl ⟨by kernel_rfl, ?_⟩) (by assumption) ?_
  rotate_left
  · intro w hSw
    (try dsimp only at hSw)
    go_simp
    all_goals (with_reducible rfl)
  (try simp only [Act.put, List.setIfInBounds_toArray, List.set_cons_zero, List.set_cons_succ])
  refine wpAnyH_take (i := 28) (oi := { dst := some 33, op := Op.fieldAddr 25 (Operand.tmp 32) 1, type := 0, pos := "contact.go:119", after := #[{ on := 27, ground := Ground.data }], guard := none }) (v := ?_) rfl (by kernel_rfl) (by kernel_rfl) (by kernel_rfl) (fun _ _ _ h => h) (Or.inl ⟨by kernel_rfl, ?_⟩) (by assumption) ?_
  rotate_left
  · intro w hSw
    (try dsimp only at hSw)
    go_simp
    all_goals (with_reducible rfl)
  (try simp only [Act.put, List.setIfInBounds_toArray, List.set_cons_zero, List.set_cons_succ])
  refine wpAnyH_take (i := 29) (oi := { dst := some 34, op := Op.load 3 (Operand.tmp 33), type := 3, pos := "contact.go:119", after := #[{ on := 28, ground := Ground.data }], guard := none }) (v := ?_) rfl (by kernel_rfl) (by kernel_rfl) (by kernel_rfl) (fun _ _ _ h => h) (Or.inl ⟨by kernel_rfl, ?_⟩) (by assumption) ?_
  rotate_left
  · intro w hSw
    (try dsimp only at hSw)
    go_simp
    all_goals (with_reducible rfl)
  (try simp only [Act.put, List.setIfInBounds_toArray, List.set_cons_zero, List.set_cons_succ])
  refine wpAnyH_one1 (i := 6) (o := { dst := some 11, op := Op.call { callee := Callee.value (Operand.func 80), args := #[Operand.tmp 7, Operand.tmp 10], argTypes := #[3, 3] }, type := 3, pos := "contact.go:119", after := #[{ on := 2, ground := Ground.data }, { on := 5, ground := Ground.data }], guard := none }) (by kernel_rfl) rfl (fun K hK => ?_)
  go_simp
  go_at_call 80
  refine (cmp80 _ _ _).mono ?_
  rintro e wq ⟨rfl, rfl⟩
  refine hK.out _ _ ?_ (fun hHeld2 => ?_)
  · first | exact hHeld | exact ⟨hHeld.1.alloc hHeld.1.size _, HC.out _ (hHeld.1.alloc hHeld.1.size _)⟩
  clear hHeld
  have hHeld := hHeld2
  clear hHeld2
  clear hK K
  (try simp only [Act.put, List.setIfInBounds_toArray, List.set_cons_zero, List.set_cons_succ])
  refine wpAnyH_one1 (i := 11) (o := { dst := some 16, op := Op.call { callee := Callee.value (Operand.func 80), args := #[Operand.tmp 13, Operand.tmp 15], argTypes := #[3, 3] }, type := 3, pos := "contact.go:119", after := #[{ on := 8, ground := Ground.data }, { on := 10, ground := Ground.data }, { on := 6, ground := Ground.chain }], guard := none }) (by kernel_rfl) rfl (fun K hK => ?_)
  go_simp
  go_at_call 80
  refine (cmp80 _ _ _).mono ?_
  rintro e wq ⟨rfl, rfl⟩
  refine hK.out _ _ ?_ (fun hHeld2 => ?_)
  · first | exact hHeld | exact ⟨hHeld.1.alloc hHeld.1.size _, HC.out _ (hHeld.1.alloc hHeld.1.size _)⟩
  clear hHeld
  have hHeld := hHeld2
  clear hHeld2
  clear hK K
  (try simp only [Act.put, List.setIfInBounds_toArray, List.set_cons_zero, List.set_cons_succ])
  refine wpAnyH_one1 (i := 16) (o := { dst := some 21, op := Op.call { callee := Callee.value (Operand.func 80), args := #[Operand.tmp 18, Operand.tmp 20], argTypes := #[3, 3] }, type := 3, pos := "contact.go:119", after := #[{ on := 13, ground := Ground.data }, { on := 15, ground := Ground.data }, { on := 11, ground := Ground.chain }], guard := none }) (by kernel_rfl) rfl (fun K hK => ?_)
  go_simp
  go_at_call 80
  refine (cmp80 _ _ _).mono ?_
  rintro e wq ⟨rfl, rfl⟩
  refine hK.out _ _ ?_ (fun hHeld2 => ?_)
  · first | exact hHeld | exact ⟨hHeld.1.alloc hHeld.1.size _, HC.out _ (hHeld.1.alloc hHeld.1.size _)⟩
  clear hHeld
  have hHeld := hHeld2
  clear hHeld2
  clear hK K
  (try simp only [Act.put, List.setIfInBounds_toArray, List.set_cons_zero, List.set_cons_succ])
  refine wpAnyH_one1 (i := 23) (o := { dst := some 28, op := Op.call { callee := Callee.value (Operand.func 80), args := #[Operand.tmp 24, Operand.tmp 27], argTypes := #[3, 3] }, type := 3, pos := "contact.go:119", after := #[{ on := 19, ground := Ground.data }, { on := 22, ground := Ground.data }, { on := 16, ground := Ground.chain }], guard := none }) (by kernel_rfl) rfl (fun K hK => ?_)
  go_simp
  go_at_call 80
  refine (cmp80 _ _ _).mono ?_
  rintro e wq ⟨rfl, rfl⟩
  refine hK.out _ _ ?_ (fun hHeld2 => ?_)
  · first | exact hHeld | exact ⟨hHeld.1.alloc hHeld.1.size _, HC.out _ (hHeld.1.alloc hHeld.1.size _)⟩
  clear hHeld
  have hHeld := hHeld2
  clear hHeld2
  clear hK K
  (try simp only [Act.put, List.setIfInBounds_toArray, List.set_cons_zero, List.set_cons_succ])
  refine wpAnyH_one1 (i := 30) (o := { dst := some 35, op := Op.call { callee := Callee.value (Operand.func 80), args := #[Operand.tmp 31, Operand.tmp 34], argTypes := #[3, 3] }, type := 3, pos := "contact.go:119", after := #[{ on := 26, ground := Ground.data }, { on := 29, ground := Ground.data }, { on := 23, ground := Ground.chain }], guard := none }) (by kernel_rfl) rfl (fun K hK => ?_)
  go_simp
  go_at_call 80
  refine (cmp80 _ _ _).mono ?_
  rintro e wq ⟨rfl, rfl⟩
  refine hK.out _ _ ?_ (fun hHeld2 => ?_)
  · first | exact hHeld | exact ⟨hHeld.1.alloc hHeld.1.size _, HC.out _ (hHeld.1.alloc hHeld.1.size _)⟩
  clear hHeld
  have hHeld := hHeld2
  clear hHeld2
  clear hK K
  (try simp only [Act.put, List.setIfInBounds_toArray, List.set_cons_zero, List.set_cons_succ])
  refine wpAnyH_one1 (i := 31) (o := { dst := some 36, op := Op.buildSlice 23 5 #[(0, Operand.tmp 11), (1, Operand.tmp 16), (2, Operand.tmp 21), (3, Operand.tmp 28), (4, Operand.tmp 35)], type := 23, pos := "contact.go:119", after := #[{ on := 6, ground := Ground.data }, { on := 11, ground := Ground.data }, { on := 16, ground := Ground.data }, { on := 23, ground := Ground.data }, { on := 30, ground := Ground.data }], guard := none }) (by kernel_rfl) rfl (fun K hK => ?_)
  go_simp
  refine hK.out _ _ ?_ (fun hHeld2 => ?_)
  · first | exact hHeld | exact ⟨hHeld.1.alloc hHeld.1.size _, HC.out _ (hHeld.1.alloc hHeld.1.size _)⟩
  clear hHeld
  have hHeld := hHeld2
  clear hHeld2
  clear hK K
  (try simp only [Act.put, List.setIfInBounds_toArray, List.set_cons_zero, List.set_cons_succ])
  refine wpAnyH_one1 (i := 32) (o := { dst := some 37, op := Op.call { callee := Callee.value (Operand.func 79), args := #[Operand.tmp 36], argTypes := #[23] }, type := 3, pos := "contact.go:119", after := #[{ on := 31, ground := Ground.data }, { on := 30, ground := Ground.chain }], guard := none }) (by kernel_rfl) rfl (fun K hK => ?_)
  go_simp
  go_at_call 79
  refine (HO.out _ V.heap.size (Blk.newAt V.drew _ _ rfl)).mono ?_
  rintro e wq ⟨rfl, rfl⟩
  refine hK.out _ _ ?_ (fun hHeld2 => ?_)
  · first | exact hHeld | exact ⟨hHeld.1.alloc hHeld.1.size _, HC.out _ (hHeld.1.alloc hHeld.1.size _)⟩
  clear hHeld
  have hHeld := hHeld2
  clear hHeld2
  clear hK K
  (try simp only [Act.put, List.setIfInBounds_toArray, List.set_cons_zero, List.set_cons_succ])
  refine wpAnyH_take (i := 33) (oi := { dst := some 4, op := Op.assign (Operand.tmp 37), type := 3, pos := "contact.go:119", after := #[{ on := 32, ground := Ground.data }, { on := 32, ground := Ground.chain }, { on := 0, ground := Ground.phase }, { on := 1, ground := Ground.phase }, { on := 2, ground := Ground.phase }, { on := 3, ground := Ground.phase }, { on := 4, ground := Ground.phase }, { on := 5, ground := Ground.phase }, { on := 6, ground := Ground.phase }, { on := 7, ground := Ground.phase }, { on := 8, ground := Ground.phase }, { on := 9, ground := Ground.phase }, { on := 10, ground := Ground.phase }, { on := 11, ground := Ground.phase }, { on := 12, ground := Ground.phase }, { on := 13, ground := Ground.phase }, { on := 14, ground := Ground.phase }, { on := 15, ground := Ground.phase }, { on := 16, ground := Ground.phase }, { on := 17, ground := Ground.phase }, { on := 18, ground := Ground.phase }, { on := 19, ground := Ground.phase }, { on := 20, ground := Ground.phase }, { on := 21, ground := Ground.phase }, { on := 22, ground := Ground.phase }, { on := 23, ground := Ground.phase }, { on := 24, ground := Ground.phase }, { on := 25, ground := Ground.phase }, { on := 26, ground := Ground.phase }, { on := 27, ground := Ground.phase }, { on := 28, ground := Ground.phase }, { on := 29, ground := Ground.phase }, { on := 30, ground := Ground.phase }, { on := 31, ground := Ground.phase }, { on := 32, ground := Ground.phase }], guard := none }) (v := ?_) rfl (by kernel_rfl) (by kernel_rfl) (by kernel_rfl) (fun _ _ _ h => h) (Or.inl ⟨by kernel_rfl, ?_⟩) (by assumption) ?_
  rotate_left
  · intro w hSw
    (try dsimp only at hSw)
    go_simp
    all_goals (with_reducible rfl)
  (try simp only [Act.put, List.setIfInBounds_toArray, List.set_cons_zero, List.set_cons_succ])
  refine wpAnyH_done (by kernel_rfl) ?_ _
  refine NoPanic.normal ?_
  have hX := hHeld.1
  clear hHeld
  go_wp2
  go_ret
  exact ⟨rfl, hB0.trans (hX.mono hB0.size)⟩
end Go.Proofs.Ytmajkagmcdlncaa

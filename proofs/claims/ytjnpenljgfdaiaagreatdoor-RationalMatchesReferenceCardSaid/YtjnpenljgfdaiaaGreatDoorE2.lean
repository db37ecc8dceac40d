/- package nadirref03: an integer that a string determines. -/
import Derived.BigQuiet
import Derived.Test.YtjnpenljgfdaiaaGreatDoorE1
namespace Go.Proofs.YtjnpenljgfdaiaaGreatDoor
open Go.RowKit Go.Shelf Lib

section
variable {P : Program} {ops : Array Oper} {Q : Exit → Act → World → Prop} {md : Region.Mode} {S : World → Prop}
/-- One operation alone may come up, S owed behind it. -/
theorem wpAnyH_one1 {i : Nat} {o : Oper} {m : Nat} {up : Array Bool} {a : Act} {w : World} (hr : Region.ready md ops up = [i]) (ho : ops[i]? = some o)
    (h : ∀ K' : Act → World → Prop, Shut (∀ a w, S w → (S w → wpAnyH P md ops Q S m (up.setIfInBounds i true) a w) → K' a w) → if Region.wanted o (yielded ops a.tmps) = true then Oper.wp P o a w K' Q else K' (a.put o.dst undef) w) : wpAnyH P md ops Q S (m + 1) up a w := by
  refine wpAnyH_all hr (by simp) fun j hj => ?_
  obtain rfl : j = i := by simpa using hj
  exact wpOp_step ho (fun K' hK => h K' (fun a w hS hW => hK a w ⟨hS, hW hS⟩))
end
set_option maxRecDepth 100000 in
theorem text10_zero (v : Value) (w : World) (h1 : DigAt w v 0) :
    Calls Tryz.prog 82 #[.bool false, v] w fun e w' => e = .returned (.tuple #[.string (N3.S 0), .bool true]) ∧ w = w' := by
  obtain ⟨a, cp, rfl, g1, g2⟩ := (show IntsAt w v _ from h1).len
  have hl : (castL (D10.toG 0)).length = 0 := by rw [D10.toG_zero]; rfl
  rw [hl]
  have hS : N3.S 0 = ⟨#[48]⟩ := by unfold N3.S; rw [N3.itoa_zero]
  rw [hS]
  clear h1
  go_enter Tryz.func82, Tryz.ntmps82
  go_wp2
  go_ret2
  exact ⟨rfl, rfl⟩
def madeL (s : ByteArray) (m : Nat) : List Nat := (s.data.toList.take m).map fun c => c.toNat % 10
def madeB (s : ByteArray) : Bool := decide (0 < s.size) && decide (128 ≤ (s.data.toList.getD 0 0).toNat)
def madeV (s : ByteArray) (m : Nat) : Int := N3.sgn (madeB s) (D10.val (madeL s m))
theorem madeL_ok (s : ByteArray) (m : Nat) : D10.OKl (madeL s m) := by
  intro x hx
  unfold madeL at hx
  obtain ⟨c, -, rfl⟩ := List.mem_map.1 hx
  omega
theorem madeL_len (s : ByteArray) (m : Nat) : (madeL s m).length = min m s.size := by
  unfold madeL; rw [List.length_map, List.length_take, Lib.size_eq]
theorem madeV_lt (s : ByteArray) (m : Nat) : (madeV s m).natAbs < 10 ^ m := by
  unfold madeV
  rw [N3.sgn_abs]
  refine Nat.lt_of_lt_of_le (D10.val_lt (madeL_ok s m)) (Nat.pow_le_pow_right (by decide) ?_)
  rw [madeL_len]; omega
theorem made_lim (s : ByteArray) {m : Nat} (hm : m ≤ 200) : (madeV s m).natAbs < N3.lim := N3.lim_of (madeV_lt s m) hm
theorem madeL_succ {s : ByteArray} {k : Nat} (h : k < s.size) : madeL s (k + 1) = madeL s k ++ [s[k].toNat % 10] := by
  have hl : k < s.data.toList.length := by rw [← Lib.size_eq]; exact h
  unfold madeL
  rw [List.take_succ_eq_append_getElem hl, List.map_append]
  rfl
theorem madeB_at {s : ByteArray} (h : 0 < s.size) : madeB s = decide (128 ≤ s[0].toNat) := by
  have hl : 0 < s.data.toList.length := by rw [← Lib.size_eq]; exact h
  have e : s[0] = s.data.toList[0] := rfl
  unfold madeB
  rw [e, decide_eq_true h, Bool.true_and, List.getD_eq_getElem?_getD, List.getElem?_eq_getElem hl, Option.getD_some]
theorem madeL_min (s : ByteArray) (m : Nat) : madeL s (min m s.size) = madeL s m := by
  unfold madeL
  rw [Lib.size_eq, List.take_eq_take_min (i := m)]
theorem keep_S0 {W V V' : World} (h : Below W.heap.size W V ∧ W.heap.size ≤ V.heap.size) (hB : Below V.heap.size V V') : Below W.heap.size W V' ∧ W.heap.size ≤ V'.heap.size :=
  ⟨h.1.trans (hB.mono h.1.size), Nat.le_trans h.2 hB.size⟩
set_option maxRecDepth 100000 in
set_option maxHeartbeats 2000000 in
theorem made_some (s : ByteArray) (m : Nat) (w : World) (hm : m ≤ 200) (hs : s.size ≤ 9223372036854775807) (hs0' : 0 < s.size) :
    Calls Tryz.prog 33 #[.string s, .int .i64 m] w fun e w' => e = .returned (.string (N3.S (madeV s m))) ∧ Below w.heap.size w w' := by
  go_enter Tryz.func33, Tryz.ntmps33
  go_wp2_with fail
  go_loopw [5, 6] (fun u5 u6 wr => ∃ k : Nat, k ≤ min m s.size ∧ u6 = .int .i64 k ∧ wr.ownsRow w.heap.size 3 1 u5 k ((castL (madeL s k)).map (Value.int .i64)) ∧ Below w.heap.size w wr) (fun _ u6 _ => ((min m s.size : Nat) - Go.RowKit.intOf u6).toNat)
  case atStart => exact ⟨0, Nat.zero_le _, rfl, ⟨rfl, .inl ⟨rfl, rfl⟩⟩, Below.refl _ _⟩
  case round =>
    obtain ⟨k, hk, rfl, hown, hB⟩ := hrel
    rename World => wr
    obtain ⟨ra, rc, rfl, hr1, hr2⟩ := owned_len hown
    unfold maxLen at hr2
    by_cases hkl : k < min m s.size
    · have hks : k < s.size := by omega
      have hkm : (k : Int) < (m : Int) := by omega
      have hki : (0 : Int) ≤ (k : Int) ∧ (k : Int) < (s.size : Int) := by omega
      have hsu := Lib.hid (madeL_succ hks)
      have hbk := hB.size
      have hw1 : IntKind.i64.wrap ((k : Int) + 1) = ((k + 1 : Nat) : Int) := by rw [IntKind.wrap_i64]; omega
      have hsc : s[k].toNat < 256 := s[k].toNat_lt
      have hr : Int.tmod (s[k].toNat : Int) 10 = ((s[k].toNat % 10 : Nat) : Int) := by rw [Int.tmod_eq_emod_of_nonneg (by omega)]; omega
      go_wp2_with (at_builtin; refine wpList_push E72 rfl _ _ rfl w.heap.size hown rfl rfl rfl (by unfold maxLen; omega) (by omega) (by omega) ?_; intro v' w3 ho3 hg3 hB3)
      go_roundw
      case rel =>
        refine ⟨k + 1, by omega, rfl, ?_, hB.trans hB3⟩
        rw [hsu.out]
        have e : (castL (madeL s k ++ [s[k].toNat % 10])).map (Value.int .i64) = (castL (madeL s k)).map (Value.int .i64) ++ [.int .i64 ((s[k].toNat % 10 : Nat) : Int)] := by unfold castL; rw [List.map_append, List.map_append]; rfl
        rw [e]
        exact ho3
      case measure => simp [Go.RowKit.intOf]; omega
    · obtain rfl : k = min m s.size := by omega
      rw [madeL_min] at hown
      have hlen := madeL_len s m
      have hvi : IntsAt wr (.slice ra (min m s.size) rc) (castL (madeL s m)) := by
        have h9 := owned_slice (f := Value.int .i64) (l := castL (madeL s m)) (B := w.heap.size) (e := 3) (w := wr) (v := .slice ra (min m s.size) rc) (by rw [castL_len, hlen]; exact hown)
        exact h9
      have HT := Lib.hid (fun V (hV : Below wr.heap.size wr V) => trim10_any _ (madeL s m) V (SliceOf.below hvi hV) (madeL_ok s m))
      have hvl : (D10.toG (D10.val (madeL s m))).length ≤ 100000 := by
        have h8 := D10.toG_len_le (D10.val_lt (madeL_ok s m))
        rw [hlen] at h8
        omega
      have HX := Lib.hid (fun V v (hv : DigAt V v (D10.val (madeL s m))) => text10_any (madeB s) v (D10.val (madeL s m)) V hv hvl)
      have HV := Lib.hid (show N3.S (madeV s m) = N3.S (N3.sgn (madeB s) (D10.val (madeL s m))) from rfl)
      clear hown hvi hlen hvl
      have hnl : ¬ ((min m s.size : Nat) : Int) < (s.size : Int) ∨ (((min m s.size : Nat) : Int) < (s.size : Int) ∧ ¬ ((min m s.size : Nat) : Int) < (m : Int)) := by omega
      by_cases hs0 : 0 < s.size
      · have hb : madeB s = decide ((128 : Int) ≤ (s[0].toNat : Int)) := by rw [madeB_at hs0, decide_eq_decide]; omega
        rw [hb] at HX HV
        clear hb
        rcases hnl with hnl | ⟨hnl, hnl2⟩
        · skip
          go_wp2_with fail
          go_region_held3 (fun w' => Below wr.heap.size wr w' ∧ wr.heap.size ≤ w'.heap.size)
            (first | exact ⟨(Below.refl _ _).drew, Nat.le_refl _⟩ | exact keep_S0 (by assumption) (by assumption) | go_keep)
            (first
              | (go_at_call 83; (with_reducible refine (HT.out _ ((‹Below wr.heap.size wr _ ∧ _›).1)).mono ?_); rintro e w4 ⟨v4, rfl, hn4, rfl⟩)
              | (go_at_call 82; (with_reducible refine (HX.out _ _ (by assumption)).mono ?_); rintro e w5 ⟨rfl, hB5⟩))
          all_goals (
            go_wp2_with fail
            go_ret
            exact ⟨by rw [HV.out]; rfl, hB.trans (((‹Below wr.heap.size wr _ ∧ _›).1).mono hB.size)⟩)
        · skip
          go_wp2_with fail
          go_region_held3 (fun w' => Below wr.heap.size wr w' ∧ wr.heap.size ≤ w'.heap.size)
            (first | exact ⟨(Below.refl _ _).drew, Nat.le_refl _⟩ | exact keep_S0 (by assumption) (by assumption) | go_keep)
            (first
              | (go_at_call 83; (with_reducible refine (HT.out _ ((‹Below wr.heap.size wr _ ∧ _›).1)).mono ?_); rintro e w4 ⟨v4, rfl, hn4, rfl⟩)
              | (go_at_call 82; (with_reducible refine (HX.out _ _ (by assumption)).mono ?_); rintro e w5 ⟨rfl, hB5⟩))
          all_goals (
            go_wp2_with fail
            go_ret
            exact ⟨by rw [HV.out]; rfl, hB.trans (((‹Below wr.heap.size wr _ ∧ _›).1).mono hB.size)⟩)
      · exact absurd hs0' hs0
set_option maxRecDepth 100000 in
set_option maxHeartbeats 2000000 in
theorem made_empty (m : Nat) (w : World) :
    Calls Tryz.prog 33 #[.string ⟨#[]⟩, .int .i64 m] w fun e w' => e = .returned (.string (N3.S 0)) ∧ Below w.heap.size w w' := by
  have hd0 : ∀ V : World, DigAt V (.slice none 0 0) 0 := fun V => ⟨none, 0, by rw [D10.toG_zero]; rfl, by rw [D10.toG_zero]; exact Nat.le_refl _, by unfold maxLen; omega, fun h => by rw [D10.toG_zero] at h; exact absurd h (by decide)⟩
  have HT := Lib.hid (fun V : World => by
    have q := trim10_any (.slice none 0 0) [] V (by have := hd0 V; unfold DigAt at this; rw [D10.toG_zero] at this; exact this) (fun x hx => by cases hx)
    exact q)
  have HX := Lib.hid (fun (V : World) v (hv : DigAt V v 0) => text10_zero v V hv)
  clear hd0
  go_enter Tryz.func33, Tryz.ntmps33
  go_wp2_with fail
  go_loopw [5, 6] (fun u5 u6 wr => u5 = .slice none 0 0 ∧ u6 = .int .i64 0 ∧ w = wr) (fun _ _ _ => 0)
  case atStart => exact ⟨rfl, rfl, rfl⟩
  case round =>
    obtain ⟨rfl, rfl, rfl⟩ := hrel
    go_wp2_with fail
    refine wp_region_noPanic ?_
    refine wp_region_held_drew (S := (fun w' => Below w.heap.size w w' ∧ w.heap.size ≤ w'.heap.size)) (by kernel_rfl) ⟨(Below.refl _ _).drew, Nat.le_refl _⟩ (fun hHeld => ?_)
    refine wpAnyH_take (i := 0) (oi := { dst := some 29, op := Op.move (Operand.tmp 0), type := 9, pos := "ref.go:311", after := #[], guard := none }) (v := ?_) rfl (by kernel_rfl) (by kernel_rfl) (by kernel_rfl) (fun _ _ _ h => h) (Or.inl ⟨by kernel_rfl, ?_⟩) (by assumption) ?_
    rotate_left
    · intro w hSw
      (try dsimp only at hSw)
      go_simp
      all_goals (with_reducible rfl)
    (try simp only [Act.put, List.setIfInBounds_toArray, List.set_cons_zero, List.set_cons_succ])
    refine wpAnyH_take (i := 1) (oi := { dst := some 30, op := Op.call { callee := Callee.builtin Builtin.len, args := #[Operand.tmp 29], argTypes := #[9] }, type := 3, pos := "ref.go:311", after := #[{ on := 0, ground := Ground.data }], guard := none }) (v := ?_) rfl (by kernel_rfl) (by kernel_rfl) (by kernel_rfl) (fun _ _ _ h => h) (Or.inl ⟨by kernel_rfl, ?_⟩) (by assumption) ?_
    rotate_left
    · intro w hSw
      (try dsimp only at hSw)
      go_simp
      all_goals (with_reducible rfl)
    (try simp only [Act.put, List.setIfInBounds_toArray, List.set_cons_zero, List.set_cons_succ])
    refine wpAnyH_take (i := 2) (oi := { dst := some 31, op := Op.binOp BinOp.gtr 3 (Operand.tmp 30) (Operand.const (Value.int IntKind.i64 0)) 3, type := 4, pos := "ref.go:311", after := #[{ on := 1, ground := Ground.data }], guard := none }) (v := ?_) rfl (by kernel_rfl) (by kernel_rfl) (by kernel_rfl) (fun _ _ _ h => h) (Or.inl ⟨by kernel_rfl, ?_⟩) (by assumption) ?_
    rotate_left
    · intro w hSw
      (try dsimp only at hSw)
      go_simp
      all_goals (with_reducible rfl)
    (try simp only [Act.put, List.setIfInBounds_toArray, List.set_cons_zero, List.set_cons_succ])
    refine wpAnyH_take (i := 3) (oi := { dst := some 32, op := Op.move (Operand.tmp 31), type := 4, pos := "ref.go:311", after := #[{ on := 2, ground := Ground.data }], guard := none }) (v := ?_) rfl (by kernel_rfl) (by kernel_rfl) (by kernel_rfl) (fun _ _ _ h => h) (Or.inl ⟨by kernel_rfl, ?_⟩) (by assumption) ?_
    rotate_left
    · intro w hSw
      (try dsimp only at hSw)
      go_simp
      all_goals (with_reducible rfl)
    (try simp only [Act.put, List.setIfInBounds_toArray, List.set_cons_zero, List.set_cons_succ])
    refine wpAnyH_take (i := 4) (oi := { dst := some 33, op := Op.move (Operand.tmp 0), type := 9, pos := "ref.go:311", after := #[{ on := 3, ground := Ground.guard }], guard := some (3, true) }) (v := undef) rfl (by kernel_rfl) (by kernel_rfl) (by kernel_rfl) (fun _ _ _ h => h) (Or.inr ⟨by kernel_rfl, rfl⟩) (by assumption) ?_
    (try simp only [Act.put, List.setIfInBounds_toArray, List.set_cons_zero, List.set_cons_succ])
    refine wpAnyH_take (i := 5) (oi := { dst := some 34, op := Op.index 9 (Operand.tmp 33) (Operand.const (Value.int IntKind.i64 0)), type := 5, pos := "ref.go:311", after := #[{ on := 4, ground := Ground.data }, { on := 3, ground := Ground.guard }], guard := some (3, true) }) (v := undef) rfl (by kernel_rfl) (by kernel_rfl) (by kernel_rfl) (fun _ _ _ h => h) (Or.inr ⟨by kernel_rfl, rfl⟩) (by assumption) ?_
    (try simp only [Act.put, List.setIfInBounds_toArray, List.set_cons_zero, List.set_cons_succ])
    refine wpAnyH_take (i := 6) (oi := { dst := some 35, op := Op.binOp BinOp.geq 5 (Operand.tmp 34) (Operand.const (Value.int IntKind.u8 128)) 5, type := 4, pos := "ref.go:311", after := #[{ on := 5, ground := Ground.data }, { on := 3, ground := Ground.guard }], guard := some (3, true) }) (v := undef) rfl (by kernel_rfl) (by kernel_rfl) (by kernel_rfl) (fun _ _ _ h => h) (Or.inr ⟨by kernel_rfl, rfl⟩) (by assumption) ?_
    (try simp only [Act.put, List.setIfInBounds_toArray, List.set_cons_zero, List.set_cons_succ])
    refine wpAnyH_take (i := 7) (oi := { dst := some 36, op := Op.pick (Operand.tmp 32) (Operand.tmp 35) (Operand.const (Value.bool false)), type := 4, pos := "ref.go:311", after := #[{ on := 3, ground := Ground.data }, { on := 6, ground := Ground.data }], guard := none }) (v := ?_) rfl (by kernel_rfl) (by kernel_rfl) (by kernel_rfl) (fun _ _ _ h => h) (Or.inl ⟨by kernel_rfl, ?_⟩) (by assumption) ?_
    rotate_left
    · intro w hSw
      (try dsimp only at hSw)
      go_simp
      all_goals (with_reducible rfl)
    (try simp only [Act.put, List.setIfInBounds_toArray, List.set_cons_zero, List.set_cons_succ])
    refine wpAnyH_take (i := 8) (oi := { dst := some 37, op := Op.move (Operand.tmp 5), type := 72, pos := "ref.go:311", after := #[], guard := none }) (v := ?_) rfl (by kernel_rfl) (by kernel_rfl) (by kernel_rfl) (fun _ _ _ h => h) (Or.inl ⟨by kernel_rfl, ?_⟩) (by assumption) ?_
    rotate_left
    · intro w hSw
      (try dsimp only at hSw)
      go_simp
      all_goals (with_reducible rfl)
    (try simp only [Act.put, List.setIfInBounds_toArray, List.set_cons_zero, List.set_cons_succ])
    refine wpAnyH_one1 (i := 9) (o := { dst := some 38, op := Op.call { callee := Callee.value (Operand.func 83), args := #[Operand.tmp 37], argTypes := #[72] }, type := 72, pos := "ref.go:311", after := #[{ on := 8, ground := Ground.data }, { on := 3, ground := Ground.chain }], guard := none }) (by kernel_rfl) rfl (fun K hK => ?_)
    go_simp
    go_at_call 83
    refine (HT.out _).mono ?_
    rintro e w4 ⟨v4, rfl, hn4, rfl⟩
    refine hK.out _ _ ?_ (fun hHeld2 => ?_)
    · exact hHeld
    clear hHeld
    have hHeld := hHeld2
    clear hHeld2
    clear hK K
    (try simp only [Act.put, List.setIfInBounds_toArray, List.set_cons_zero, List.set_cons_succ])
    refine wpAnyH_one1 (i := 10) (o := { dst := some 39, op := Op.call { callee := Callee.value (Operand.func 82), args := #[Operand.tmp 36, Operand.tmp 38], argTypes := #[4, 72] }, type := 85, pos := "ref.go:311", after := #[{ on := 7, ground := Ground.data }, { on := 9, ground := Ground.data }, { on := 9, ground := Ground.chain }], guard := none }) (by kernel_rfl) rfl (fun K hK => ?_)
    go_simp
    go_at_call 82
    refine (HX.out _ _ hn4).mono ?_
    rintro e w5 ⟨rfl, rfl⟩
    refine hK.out _ _ ?_ (fun hHeld2 => ?_)
    · exact hHeld
    clear hHeld
    have hHeld := hHeld2
    clear hHeld2
    clear hK K
    (try simp only [Act.put, List.setIfInBounds_toArray, List.set_cons_zero, List.set_cons_succ])
    refine wpAnyH_take (i := 11) (oi := { dst := some 28, op := Op.move (Operand.tmp 39), type := 85, pos := "ref.go:311", after := #[{ on := 10, ground := Ground.data }], guard := none }) (v := ?_) rfl (by kernel_rfl) (by kernel_rfl) (by kernel_rfl) (fun _ _ _ h => h) (Or.inl ⟨by kernel_rfl, ?_⟩) (by assumption) ?_
    rotate_left
    · intro w hSw
      (try dsimp only at hSw)
      go_simp
      all_goals (with_reducible rfl)
    (try simp only [Act.put, List.setIfInBounds_toArray, List.set_cons_zero, List.set_cons_succ])
    refine wpAnyH_take (i := 12) (oi := { dst := some 40, op := Op.extract (Operand.tmp 28) 0, type := 9, pos := "ref.go:311", after := #[{ on := 11, ground := Ground.data }], guard := none }) (v := ?_) rfl (by kernel_rfl) (by kernel_rfl) (by kernel_rfl) (fun _ _ _ h => h) (Or.inl ⟨by kernel_rfl, ?_⟩) (by assumption) ?_
    rotate_left
    · intro w hSw
      (try dsimp only at hSw)
      go_simp
      all_goals (with_reducible rfl)
    (try simp only [Act.put, List.setIfInBounds_toArray, List.set_cons_zero, List.set_cons_succ])
    refine wpAnyH_take (i := 13) (oi := { dst := some 41, op := Op.extract (Operand.tmp 28) 1, type := 4, pos := "ref.go:311", after := #[{ on := 11, ground := Ground.data }, { on := 14, ground := Ground.gcOnly Departure.lateStores }], guard := none }) (v := ?_) rfl (by kernel_rfl) (by kernel_rfl) (by kernel_rfl) (fun _ _ _ h => h) (Or.inl ⟨by kernel_rfl, ?_⟩) (by assumption) ?_
    rotate_left
    · intro w hSw
      (try dsimp only at hSw)
      go_simp
      all_goals (with_reducible rfl)
    (try simp only [Act.put, List.setIfInBounds_toArray, List.set_cons_zero, List.set_cons_succ])
    refine wpAnyH_take (i := 14) (oi := { dst := some 7, op := Op.assign (Operand.tmp 40), type := 9, pos := "ref.go:311", after := #[{ on := 12, ground := Ground.data }, { on := 10, ground := Ground.chain }, { on := 0, ground := Ground.phase }, { on := 1, ground := Ground.phase }, { on := 2, ground := Ground.phase }, { on := 3, ground := Ground.phase }, { on := 4, ground := Ground.phase }, { on := 5, ground := Ground.phase }, { on := 6, ground := Ground.phase }, { on := 7, ground := Ground.phase }, { on := 8, ground := Ground.phase }, { on := 9, ground := Ground.phase }, { on := 10, ground := Ground.phase }, { on := 11, ground := Ground.phase }, { on := 12, ground := Ground.phase }, { on := 13, ground := Ground.textOnly Departure.lateStores }], guard := none }) (v := ?_) rfl (by kernel_rfl) (by kernel_rfl) (by kernel_rfl) (fun _ _ _ h => h) (Or.inl ⟨by kernel_rfl, ?_⟩) (by assumption) ?_
    rotate_left
    · intro w hSw
      (try dsimp only at hSw)
      go_simp
      all_goals (with_reducible rfl)
    (try simp only [Act.put, List.setIfInBounds_toArray, List.set_cons_zero, List.set_cons_succ])
    refine wpAnyH_take (i := 15) (oi := { dst := some 8, op := Op.assign (Operand.tmp 41), type := 4, pos := "ref.go:311", after := #[{ on := 13, ground := Ground.data }, { on := 14, ground := Ground.chain }, { on := 0, ground := Ground.phase }, { on := 1, ground := Ground.phase }, { on := 2, ground := Ground.phase }, { on := 3, ground := Ground.phase }, { on := 4, ground := Ground.phase }, { on := 5, ground := Ground.phase }, { on := 6, ground := Ground.phase }, { on := 7, ground := Ground.phase }, { on := 8, ground := Ground.phase }, { on := 9, ground := Ground.phase }, { on := 10, ground := Ground.phase }, { on := 11, ground := Ground.phase }, { on := 12, ground := Ground.phase }, { on := 13, ground := Ground.phase }, { on := 14, ground := Ground.phase }], guard := none }) (v := ?_) rfl (by kernel_rfl) (by kernel_rfl) (by kernel_rfl) (fun _ _ _ h => h) (Or.inl ⟨by kernel_rfl, ?_⟩) (by assumption) ?_
    rotate_left
    · intro w hSw
      (try dsimp only at hSw)
      go_simp
      all_goals (with_reducible rfl)
    (try simp only [Act.put, List.setIfInBounds_toArray, List.set_cons_zero, List.set_cons_succ])
    refine wpAnyH_done (by kernel_rfl) ?_ _
    refine NoPanic.normal ?_
    go_wp2_with fail
    go_ret
    exact ⟨rfl, hHeld.1⟩
theorem made_any (s : ByteArray) (m : Nat) (w : World) (hm : m ≤ 200) (hs : s.size ≤ 9223372036854775807) :
    Calls Tryz.prog 33 #[.string s, .int .i64 m] w fun e w' => e = .returned (.string (N3.S (madeV s m))) ∧ Below w.heap.size w w' := by
  by_cases h0 : 0 < s.size
  · exact made_some s m w hm hs h0
  · have e : s = ⟨#[]⟩ := bytes_ext (by
      have : s.data.toList.length = 0 := by rw [← Lib.size_eq]; omega
      exact List.eq_nil_of_length_eq_zero this)
    have hv : madeV s m = 0 := by
      have h1 : madeL s m = [] := List.eq_nil_of_length_eq_zero (by rw [madeL_len]; omega)
      unfold madeV; rw [h1]
      cases madeB s <;> rfl
    rw [hv, e]
    exact made_empty m w
end Go.Proofs.YtjnpenljgfdaiaaGreatDoor

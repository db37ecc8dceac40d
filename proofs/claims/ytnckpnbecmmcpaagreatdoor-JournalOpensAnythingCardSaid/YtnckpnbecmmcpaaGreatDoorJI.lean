/- package nadirlaw34: pick, size, few, same, content. -/
import Derived.Test.YtnckpnbecmmcpaaGreatDoorJH
namespace Go.Proofs.YtnckpnbecmmcpaaGreatDoor
open Go.RowKit
def pickI (c n : Int) : Int := (if c < 0 then -(c + 1) else c) % n
theorem pickI_bd (c : Int) {n : Int} (hn : 0 < n) : 0 ≤ pickI c n ∧ pickI c n < n := ⟨Int.emod_nonneg _ (by omega), Int.emod_lt_of_pos _ hn⟩
set_option maxRecDepth 100000 in
theorem pick_any (c n : Int) (w : World) (hc : InR c) (hn : 0 < n) (hn2 : n ≤ 9223372036854775807) : Calls Tryz.prog 14 #[.int .i64 c, .int .i64 n] w fun e w' => e = .returned (.int .i64 (pickI c n)) ∧ w = w' := by
  have hp := pickI_bd c hn
  obtain ⟨hc1, hc2⟩ := hc
  have hn0 : ¬ n = 0 := by omega
  by_cases h : c < 0
  · have hw1 : IntKind.i64.wrap (c + 1) = c + 1 := wrapS _ (by omega) (by omega)
    have hw2 : IntKind.i64.wrap (-(c + 1)) = -(c + 1) := wrapS _ (by omega) (by omega)
    have e : pickI c n = -(Int.tmod (c + 1) n) := by unfold pickI; rw [if_pos h, ← Int.neg_tmod]; exact (Int.tmod_eq_emod_of_nonneg (by omega)).symm
    rw [e] at hp
    have hw3 : IntKind.i64.wrap (-(Int.tmod (c + 1) n)) = -(Int.tmod (c + 1) n) := wrapS _ (by omega) (by omega)
    rw [e]
    clear hp e
    go_enter Tryz.func14, Tryz.ntmps14
    go_wp2
    go_ret
    exact ⟨rfl, rfl⟩
  · have e : pickI c n = c % n := by unfold pickI; rw [if_neg h]
    rw [e] at hp
    have hw3 : IntKind.i64.wrap (c % n) = c % n := wrapS _ (by omega) (by omega)
    rw [e]
    clear hp e
    go_enter Tryz.func14, Tryz.ntmps14
    go_wp2
    go_ret
    exact ⟨rfl, rfl⟩
/-- The size of a disk. -/
def sizeN (c : Int) : Nat := (1 + pickI c 1500).toNat
theorem sizeN_bd (c : Int) : 1 ≤ sizeN c ∧ sizeN c ≤ 1500 := by have := pickI_bd c (n := 1500) (by decide); unfold sizeN; omega
set_option maxRecDepth 100000 in
theorem size15 (c : Int) (w : World) (hc : InR c) : Calls Tryz.prog 15 #[.int .i64 c] w fun e w' => e = .returned (.int .i64 (sizeN c : Int)) ∧ w = w' := by
  have hp := pick_any c 1500 w hc (by decide) (by decide)
  have hb := pickI_bd c (n := 1500) (by decide)
  have HS := Lib.hid (show (sizeN c : Int) = 1 + pickI c 1500 by unfold sizeN; omega)
  have hw : IntKind.i64.wrap (1 + pickI c 1500) = 1 + pickI c 1500 := wrapS _ (by omega) (by omega)
  rw [HS.out]
  generalize pickI c 1500 = p at hp hw hb
  go_enter Tryz.func15, Tryz.ntmps15
  go_wp2_with (go_at_call 14; refine hp.mono ?_; rintro e w9 ⟨rfl, rfl⟩)
  go_ret
  exact ⟨rfl, rfl⟩
/-- At most six strings, cut to 100 bytes. -/
def fewL (l : List ByteArray) : List ByteArray := (l.take 6).map fun t => t.extract 0 (min t.size 100)
theorem fewL_len (l : List ByteArray) : (fewL l).length ≤ 6 := by unfold fewL; rw [List.length_map, List.length_take]; omega
theorem fewL_size (l : List ByteArray) : ∀ t ∈ fewL l, t.size ≤ 100 := by
  intro t ht
  unfold fewL at ht
  rw [List.mem_map] at ht
  obtain ⟨s, -, rfl⟩ := ht
  rw [ByteArray.size_extract]; omega
def fewK (l : List ByteArray) (k : Nat) : List ByteArray := (l.take k).map fun t => t.extract 0 (min t.size 100)
theorem fewK_succ {l : List ByteArray} {k : Nat} (h : k < l.length) : fewK l (k + 1) = fewK l k ++ [(l[k]).extract 0 (min (l[k]).size 100)] := by
  unfold fewK; rw [List.take_succ_eq_append_getElem h, List.map_append]; rfl
theorem fewK_len {l : List ByteArray} {k : Nat} (h : k ≤ l.length) : (fewK l k).length = k := by unfold fewK; rw [List.length_map, List.length_take]; omega
attribute [local irreducible] wpStill
set_option maxRecDepth 100000 in
set_option maxHeartbeats 4000000 in
theorem few11 (v : Value) (l : List ByteArray) (w : World) (hv : StrsAt w v l) (hsz : ∀ t ∈ l, t.size ≤ 9223372036854775807) : Calls Tryz.prog 11 #[v] w fun e w' => ∃ v', e = .returned v' ∧ w'.ownsRow w.heap.size 9 1 v' (fewL l).length ((fewL l).map Value.string) ∧ Below w.heap.size w w' := by
  obtain ⟨a, cap, rfl, hle, hcm⟩ := strs_len hv
  have HV := Lib.hid hv
  unfold maxLen at hcm
  have HF := Lib.hid (show fewK l (min l.length 6) = fewL l by
    unfold fewK fewL
    by_cases h : l.length ≤ 6
    · rw [Nat.min_eq_left h, List.take_length, List.take_of_length_le h]
    · rw [Nat.min_eq_right (by omega)])
  have HSZ := Lib.hid hsz
  clear hv hsz
  go_enter Tryz.func11, Tryz.ntmps11
  go_wp2
  go_loopw [3, 4] (fun u3 u4 wr => ∃ i : Nat, i ≤ min l.length 6 ∧ u4 = .int .i64 (i : Int) ∧ wr.ownsRow w.heap.size 9 1 u3 i ((fewK l i).map Value.string) ∧ Below w.heap.size w wr) (fun _ u4 _ => (6 - intOf u4).toNat)
  case atStart => exact ⟨0, by omega, rfl, World.ownsRow_nil _ _ _ _, Below.refl _ _⟩
  case round =>
    obtain ⟨i, hi, rfl, ho, hB⟩ := hrel
    by_cases hlt : i < l.length ∧ i < 6
    · obtain ⟨hlt, h6⟩ := hlt
      have d1 : decide ((i : Int) < (l.length : Int)) = true := decide_eq_true (by omega)
      have d1b : decide (i < l.length) = true := decide_eq_true hlt
      have d2 : decide ((i : Int) < 6) = true := decide_eq_true (by omega)
      have ii : (0 : Int) ≤ (i : Int) ∧ (i : Int) < (l.length : Int) := by omega
      obtain ⟨b, o, rfl, hc⟩ := strs_get HV.out hlt
      have HT := Lib.hid (fewK_succ hlt)
      have hts := HSZ.out _ (List.getElem_mem hlt)
      generalize l[i] = t at hc HT hts
      have hbw : b < w.heap.size := World.block_lt_of_cell? _ _ hc
      have cr : wr.drew.cell? ⟨b, o + i, none⟩ = some (.string t) := (hB.cell (p := ⟨b, o + i, none⟩) hbw).trans hc
      have HC := Lib.hid (fun V (hV : Below wr.heap.size wr V) => (hV.cell (p := ⟨b, o + i, none⟩) (Nat.lt_of_lt_of_le hbw hB.size)).trans ((hB.cell (p := ⟨b, o + i, none⟩) hbw).trans hc))
      have HCw := Lib.hid (fun V (hV : Below w.heap.size w V) => (hV.cell (p := ⟨b, o + i, none⟩) hbw).trans hc)
      have HO2 := Lib.hid (World.ownsRow.drew ho)
      obtain ⟨m, hm⟩ : ∃ m, min t.size 100 = m := ⟨_, rfl⟩
      rw [hm] at HT
      have mn1 : (if (100 : Int) < (t.size : Int) then (100 : Int) else (t.size : Int)) = (m : Int) := by split <;> omega
      have mn2 : min (t.size : Int) 100 = (m : Int) := by omega
      have hmt : m ≤ t.size := by omega
      have m0 : (0 : Int) ≤ (m : Int) ∧ (m : Int) ≤ (t.size : Int) := by omega
      clear hc ho hm
      go_upto_region 5 with (fail)
      refine wp_region_noPanic ?_
      refine wp_region_held_drew (S := (fun w' => w'.cell? ⟨b, o + i, none⟩ = some (.string t))) (by kernel_rfl) cr (fun hHeld => ?_)
      refine wpAnyH_take (i := 0) (oi := { dst := some 15, op := Op.move (Operand.tmp 3), type := 22, pos := "law.go:42", after := #[], guard := none }) (v := ?_) rfl (by kernel_rfl) (by kernel_rfl) (by kernel_rfl) (fun _ _ _ h => h) (Or.inl ⟨by kernel_rfl, ?_⟩) (by assumption) ?_
      rotate_left
      · intro w hSw
        (try dsimp only at hSw)
        go_simp
        all_goals (with_reducible rfl)
      (try simp only [Act.put, List.setIfInBounds_toArray, List.set_cons_zero, List.set_cons_succ])
      refine wpAnyH_take (i := 1) (oi := { dst := some 16, op := Op.move (Operand.tmp 0), type := 22, pos := "law.go:42", after := #[], guard := none }) (v := ?_) rfl (by kernel_rfl) (by kernel_rfl) (by kernel_rfl) (fun _ _ _ h => h) (Or.inl ⟨by kernel_rfl, ?_⟩) (by assumption) ?_
      rotate_left
      · intro w hSw
        (try dsimp only at hSw)
        go_simp
        all_goals (with_reducible rfl)
      (try simp only [Act.put, List.setIfInBounds_toArray, List.set_cons_zero, List.set_cons_succ])
      refine wpAnyH_take (i := 2) (oi := { dst := some 17, op := Op.move (Operand.tmp 4), type := 3, pos := "law.go:42", after := #[], guard := none }) (v := ?_) rfl (by kernel_rfl) (by kernel_rfl) (by kernel_rfl) (fun _ _ _ h => h) (Or.inl ⟨by kernel_rfl, ?_⟩) (by assumption) ?_
      rotate_left
      · intro w hSw
        (try dsimp only at hSw)
        go_simp
        all_goals (with_reducible rfl)
      (try simp only [Act.put, List.setIfInBounds_toArray, List.set_cons_zero, List.set_cons_succ])
      refine wpAnyH_take (i := 3) (oi := { dst := some 18, op := Op.indexAddr 22 (Operand.tmp 16) (Operand.tmp 17), type := 0, pos := "law.go:42", after := #[{ on := 1, ground := Ground.data }, { on := 2, ground := Ground.data }], guard := none }) (v := ?_) rfl (by kernel_rfl) (by kernel_rfl) (by kernel_rfl) (fun _ _ _ h => h) (Or.inl ⟨by kernel_rfl, ?_⟩) (by assumption) ?_
      rotate_left
      · intro w hSw
        (try dsimp only at hSw)
        go_simp
        all_goals (with_reducible rfl)
      (try simp only [Act.put, List.setIfInBounds_toArray, List.set_cons_zero, List.set_cons_succ])
      refine wpAnyH_take (i := 4) (oi := { dst := some 19, op := Op.load 9 (Operand.tmp 18), type := 9, pos := "law.go:42", after := #[{ on := 3, ground := Ground.data }], guard := none }) (v := ?_) rfl (by kernel_rfl) (by kernel_rfl) (by kernel_rfl) (fun _ _ _ h => h) (Or.inl ⟨by kernel_rfl, ?_⟩) (by assumption) ?_
      rotate_left
      · intro w hSw
        (try dsimp only at hSw)
        go_simp
        all_goals (with_reducible rfl)
      (try simp only [Act.put, List.setIfInBounds_toArray, List.set_cons_zero, List.set_cons_succ])
      refine wpAnyH_take (i := 5) (oi := { dst := some 20, op := Op.move (Operand.tmp 0), type := 22, pos := "law.go:42", after := #[], guard := none }) (v := ?_) rfl (by kernel_rfl) (by kernel_rfl) (by kernel_rfl) (fun _ _ _ h => h) (Or.inl ⟨by kernel_rfl, ?_⟩) (by assumption) ?_
      rotate_left
      · intro w hSw
        (try dsimp only at hSw)
        go_simp
        all_goals (with_reducible rfl)
      (try simp only [Act.put, List.setIfInBounds_toArray, List.set_cons_zero, List.set_cons_succ])
      refine wpAnyH_take (i := 6) (oi := { dst := some 21, op := Op.move (Operand.tmp 4), type := 3, pos := "law.go:42", after := #[], guard := none }) (v := ?_) rfl (by kernel_rfl) (by kernel_rfl) (by kernel_rfl) (fun _ _ _ h => h) (Or.inl ⟨by kernel_rfl, ?_⟩) (by assumption) ?_
      rotate_left
      · intro w hSw
        (try dsimp only at hSw)
        go_simp
        all_goals (with_reducible rfl)
      (try simp only [Act.put, List.setIfInBounds_toArray, List.set_cons_zero, List.set_cons_succ])
      refine wpAnyH_take (i := 7) (oi := { dst := some 22, op := Op.indexAddr 22 (Operand.tmp 20) (Operand.tmp 21), type := 0, pos := "law.go:42", after := #[{ on := 5, ground := Ground.data }, { on := 6, ground := Ground.data }], guard := none }) (v := ?_) rfl (by kernel_rfl) (by kernel_rfl) (by kernel_rfl) (fun _ _ _ h => h) (Or.inl ⟨by kernel_rfl, ?_⟩) (by assumption) ?_
      rotate_left
      · intro w hSw
        (try dsimp only at hSw)
        go_simp
        all_goals (with_reducible rfl)
      (try simp only [Act.put, List.setIfInBounds_toArray, List.set_cons_zero, List.set_cons_succ])
      refine wpAnyH_take (i := 8) (oi := { dst := some 23, op := Op.load 9 (Operand.tmp 22), type := 9, pos := "law.go:42", after := #[{ on := 7, ground := Ground.data }], guard := none }) (v := ?_) rfl (by kernel_rfl) (by kernel_rfl) (by kernel_rfl) (fun _ _ _ h => h) (Or.inl ⟨by kernel_rfl, ?_⟩) (by assumption) ?_
      rotate_left
      · intro w hSw
        (try dsimp only at hSw)
        go_simp
        all_goals (with_reducible rfl)
      (try simp only [Act.put, List.setIfInBounds_toArray, List.set_cons_zero, List.set_cons_succ])
      refine wpAnyH_take (i := 9) (oi := { dst := some 24, op := Op.call { callee := Callee.builtin Builtin.len, args := #[Operand.tmp 23], argTypes := #[9] }, type := 3, pos := "law.go:42", after := #[{ on := 8, ground := Ground.data }], guard := none }) (v := ?_) rfl (by kernel_rfl) (by kernel_rfl) (by kernel_rfl) (fun _ _ _ h => h) (Or.inl ⟨by kernel_rfl, ?_⟩) (by assumption) ?_
      rotate_left
      · intro w hSw
        (try dsimp only at hSw)
        go_simp
        all_goals (with_reducible rfl)
      (try simp only [Act.put, List.setIfInBounds_toArray, List.set_cons_zero, List.set_cons_succ])
      refine wpAnyH_take (i := 10) (oi := { dst := some 25, op := Op.call { callee := Callee.builtin Builtin.min, args := #[Operand.tmp 24, Operand.const (Value.int IntKind.i64 100)], argTypes := #[3, 3] }, type := 3, pos := "law.go:42", after := #[{ on := 9, ground := Ground.data }], guard := none }) (v := ?_) rfl (by kernel_rfl) (by kernel_rfl) (by kernel_rfl) (fun _ _ _ h => h) (Or.inl ⟨by kernel_rfl, ?_⟩) (by assumption) ?_
      rotate_left
      · intro w hSw
        (try dsimp only at hSw)
        go_simp
        all_goals (with_reducible rfl)
      (try simp only [Act.put, List.setIfInBounds_toArray, List.set_cons_zero, List.set_cons_succ])
      refine wpAnyH_take (i := 11) (oi := { dst := some 26, op := Op.slice 9 (Operand.tmp 19) none (some (Operand.tmp 25)) none, type := 9, pos := "law.go:42", after := #[{ on := 4, ground := Ground.data }, { on := 10, ground := Ground.data }], guard := none }) (v := ?_) rfl (by kernel_rfl) (by kernel_rfl) (by kernel_rfl) (fun _ _ _ h => h) (Or.inl ⟨by kernel_rfl, ?_⟩) (by assumption) ?_
      rotate_left
      · intro w hSw
        (try dsimp only at hSw)
        go_simp
        all_goals (with_reducible rfl)
      (try simp only [Act.put, List.setIfInBounds_toArray, List.set_cons_zero, List.set_cons_succ])
      refine wpAnyH_one1 (i := 12) (o := { dst := some 27, op := Op.buildSlice 22 1 #[(0, Operand.tmp 26)], type := 22, pos := "law.go:42", after := #[{ on := 11, ground := Ground.data }], guard := none }) (by kernel_rfl) rfl (fun K hK => ?_)
      go_simp
      refine hK.out _ _ ?_ (fun hHeld2 => ?_)
      · exact HC.out _ ((Below.refl wr.heap.size wr).drew.alloc (Nat.le_refl _) _)
      clear hHeld
      have hHeld := hHeld2
      clear hHeld2
      clear hK K
      (try simp only [Act.put, List.setIfInBounds_toArray, List.set_cons_zero, List.set_cons_succ])
      refine wpAnyH_one1 (i := 13) (o := { dst := some 28, op := Op.call { callee := Callee.builtin Builtin.append, args := #[Operand.tmp 15, Operand.tmp 27], argTypes := #[22, 22] }, type := 22, pos := "law.go:42", after := #[{ on := 0, ground := Ground.data }, { on := 12, ground := Ground.data }], guard := none }) (by kernel_rfl) rfl (fun K hK => ?_)
      refine step_pushL E22 rfl (.tmp 15) (.tmp 27) rfl w.heap.size HO2.out rfl rfl rfl (by intro u hu; simp at hu; rw [hu]; rfl) (by unfold maxLen; omega) (by omega) (Nat.le_trans hB.size (by simp)) (fun v' wq n1 n2 => ?_)
      refine hK.out _ _ ?_ (fun hHeld2 => ?_)
      · exact HCw.out _ (hB.drew.trans n2)
      clear hHeld
      have hHeld := hHeld2
      clear hHeld2
      clear hK K
      (try simp only [Act.put, List.setIfInBounds_toArray, List.set_cons_zero, List.set_cons_succ])
      refine wpAnyH_take (i := 14) (oi := { dst := some 3, op := Op.assign (Operand.tmp 28), type := 22, pos := "law.go:42", after := #[{ on := 13, ground := Ground.data }, { on := 13, ground := Ground.chain }, { on := 0, ground := Ground.phase }, { on := 1, ground := Ground.phase }, { on := 2, ground := Ground.phase }, { on := 3, ground := Ground.phase }, { on := 4, ground := Ground.phase }, { on := 5, ground := Ground.phase }, { on := 6, ground := Ground.phase }, { on := 7, ground := Ground.phase }, { on := 8, ground := Ground.phase }, { on := 9, ground := Ground.phase }, { on := 10, ground := Ground.phase }, { on := 11, ground := Ground.phase }, { on := 12, ground := Ground.phase }, { on := 13, ground := Ground.phase }], guard := none }) (v := ?_) rfl (by kernel_rfl) (by kernel_rfl) (by kernel_rfl) (fun _ _ _ h => h) (Or.inl ⟨by kernel_rfl, ?_⟩) (by assumption) ?_
      rotate_left
      · intro w hSw
        (try dsimp only at hSw)
        go_simp
        all_goals (with_reducible rfl)
      (try simp only [Act.put, List.setIfInBounds_toArray, List.set_cons_zero, List.set_cons_succ])
      refine wpAnyH_done (by kernel_rfl) ?_ _
      refine NoPanic.normal ?_
      clear hHeld
      have n4 := hB.drew.trans n2
      have HN := Lib.hid (show wq.ownsRow w.heap.size 9 1 v' (i + 1) ((fewK l (i + 1)).map Value.string) from by rw [HT.out, List.map_append]; exact n1)
      have HB := Lib.hid n4
      clear n1 n2 n4 HO2 HC HCw cr mn1 mn2 HT
      go_wp2
      go_roundw
      case rel => exact ⟨i + 1, by omega, by go_num, HN.out, HB.out⟩
      case measure => simp [intOf]; omega
    · have he : i = min l.length 6 := by omega
      have hfin : wr.ownsRow w.heap.size 9 1 u3 (fewL l).length ((fewL l).map Value.string) := by
        have hl := fewK_len (l := l) (k := i) (by omega)
        rw [← HF.out, ← he, hl]; exact ho
      have HX := Lib.hid (And.intro hfin hB)
      obtain ⟨va, vc, rfl, -⟩ := owned_len ho
      by_cases hl : i < l.length
      · have d1 : decide ((i : Int) < (l.length : Int)) = true := decide_eq_true (by omega)
        have d1b : decide (i < l.length) = true := decide_eq_true hl
        have d2 : decide ((i : Int) < 6) = false := decide_eq_false (by omega)
        clear ho hB he hfin hlt
        go_wp2
        go_ret
        exact ⟨_, rfl, HX.out.1, HX.out.2⟩
      · have d1 : decide ((i : Int) < (l.length : Int)) = false := decide_eq_false (by omega)
        have d1b : decide (i < l.length) = false := decide_eq_false hl
        clear ho hB he hfin hlt
        go_wp2
        go_ret
        exact ⟨_, rfl, HX.out.1, HX.out.2⟩
def sameB (a b : List ByteArray) : Bool := decide (a = b)
set_option maxRecDepth 100000 in
set_option maxHeartbeats 4000000 in
theorem same18 (va vb : Value) (a b : List ByteArray) (w : World) (ha : StrsAt w va a) (hb : StrsAt w vb b) : Calls Tryz.prog 18 #[va, vb] w fun e w' => e = .returned (.bool (sameB a b)) ∧ Below w.heap.size w w' := by
  obtain ⟨pa, ca, rfl, hla, hma⟩ := strs_len ha
  obtain ⟨pb, cb, rfl, hlb, hmb⟩ := strs_len hb
  have HA := Lib.hid ha
  have HB := Lib.hid hb
  unfold maxLen at hma hmb
  clear ha hb
  by_cases hl : a.length = b.length
  · have q0 : ((a.length : Int) == (b.length : Int)) = true := beq_iff_eq.2 (by omega)
    have q0n : ((a.length : Int) != (b.length : Int)) = false := by rw [bne, q0]; rfl
    have HL := Lib.hid hl
    clear hl
    go_enter Tryz.func18, Tryz.ntmps18
    go_wp2
    go_loopw [5] (fun u5 wr => ∃ i : Nat, i ≤ a.length ∧ u5 = .int .i64 (i : Int) ∧ a.take i = b.take i ∧ Below w.heap.size w wr) (fun u5 _ => (a.length - intOf u5).toNat)
    case atStart => exact ⟨0, by omega, rfl, rfl, Below.refl _ _⟩
    case round =>
      obtain ⟨i, hi, rfl, ht, hB⟩ := hrel
      by_cases hlt : i < a.length
      · have hltb : i < b.length := by rw [← HL.out]; exact hlt
        have d1 : decide ((i : Int) < (a.length : Int)) = true := decide_eq_true (by omega)
        have d1b : decide (i < a.length) = true := decide_eq_true hlt
        have ii : (0 : Int) ≤ (i : Int) ∧ (i : Int) < (a.length : Int) := by omega
        have ib : (0 : Int) ≤ (i : Int) ∧ (i : Int) < (b.length : Int) := by omega
        obtain ⟨b1, o1, rfl, h1⟩ := strs_get HA.out hlt
        obtain ⟨b2, o2, rfl, h2⟩ := strs_get HB.out hltb
        have hta : a.take (i + 1) = a.take i ++ [a[i]] := List.take_succ_eq_append_getElem hlt
        have htb : b.take (i + 1) = b.take i ++ [b[i]] := List.take_succ_eq_append_getElem hltb
        have hne : a[i] ≠ b[i] → a ≠ b := fun h e => h (by subst e; rfl)
        have c1 : wr.drew.cell? ⟨b1, o1 + i, none⟩ = some (.string a[i]) := (hB.cell (p := ⟨b1, o1 + i, none⟩) (World.block_lt_of_cell? _ _ h1)).trans h1
        have c2 : wr.drew.cell? ⟨b2, o2 + i, none⟩ = some (.string b[i]) := (hB.cell (p := ⟨b2, o2 + i, none⟩) (World.block_lt_of_cell? _ _ h2)).trans h2
        have HX := Lib.hid (And.intro hta (And.intro htb (And.intro hne (And.intro ht hB))))
        clear h1 h2 hta htb hne ht
        generalize a[i] = x at c1 HX
        generalize b[i] = y at c2 HX
        by_cases hxy : x = y
        · have z1 : (x.toList == y.toList) = true := beq_iff_eq.2 (by rw [hxy])
          have HXY := Lib.hid hxy
          clear hxy
          go_upto_region 6 with (fail)
          refine wp_region_noPanic ?_
          refine wp_region_held_drew (S := (fun w' => w'.cell? ⟨b1, o1 + i, none⟩ = some (.string x) ∧ w'.cell? ⟨b2, o2 + i, none⟩ = some (.string y))) (by kernel_rfl) ⟨c1, c2⟩ (fun hHeld => ?_)
          refine wpAnyH_take (i := 0) (oi := { dst := some 17, op := Op.move (Operand.tmp 0), type := 22, pos := "law.go:31", after := #[], guard := none }) (v := ?_) rfl (by kernel_rfl) (by kernel_rfl) (by kernel_rfl) (fun _ _ _ h => h) (Or.inl ⟨by kernel_rfl, ?_⟩) (by assumption) ?_
          rotate_left
          · intro w hSw
            (try dsimp only at hSw)
            go_simp
            all_goals (with_reducible rfl)
          (try simp only [Act.put, List.setIfInBounds_toArray, List.set_cons_zero, List.set_cons_succ])
          refine wpAnyH_take (i := 1) (oi := { dst := some 18, op := Op.move (Operand.tmp 5), type := 3, pos := "law.go:31", after := #[], guard := none }) (v := ?_) rfl (by kernel_rfl) (by kernel_rfl) (by kernel_rfl) (fun _ _ _ h => h) (Or.inl ⟨by kernel_rfl, ?_⟩) (by assumption) ?_
          rotate_left
          · intro w hSw
            (try dsimp only at hSw)
            go_simp
            all_goals (with_reducible rfl)
          (try simp only [Act.put, List.setIfInBounds_toArray, List.set_cons_zero, List.set_cons_succ])
          refine wpAnyH_take (i := 2) (oi := { dst := some 19, op := Op.indexAddr 22 (Operand.tmp 17) (Operand.tmp 18), type := 0, pos := "law.go:31", after := #[{ on := 0, ground := Ground.data }, { on := 1, ground := Ground.data }], guard := none }) (v := ?_) rfl (by kernel_rfl) (by kernel_rfl) (by kernel_rfl) (fun _ _ _ h => h) (Or.inl ⟨by kernel_rfl, ?_⟩) (by assumption) ?_
          rotate_left
          · intro w hSw
            (try dsimp only at hSw)
            go_simp
            all_goals (with_reducible rfl)
          (try simp only [Act.put, List.setIfInBounds_toArray, List.set_cons_zero, List.set_cons_succ])
          refine wpAnyH_take (i := 3) (oi := { dst := some 20, op := Op.load 9 (Operand.tmp 19), type := 9, pos := "law.go:31", after := #[{ on := 2, ground := Ground.data }], guard := none }) (v := ?_) rfl (by kernel_rfl) (by kernel_rfl) (by kernel_rfl) (fun _ _ _ h => h) (Or.inl ⟨by kernel_rfl, ?_⟩) (by assumption) ?_
          rotate_left
          · intro w hSw
            (try dsimp only at hSw)
            go_simp
            all_goals (with_reducible rfl)
          (try simp only [Act.put, List.setIfInBounds_toArray, List.set_cons_zero, List.set_cons_succ])
          refine wpAnyH_take (i := 4) (oi := { dst := some 21, op := Op.move (Operand.tmp 1), type := 22, pos := "law.go:31", after := #[], guard := none }) (v := ?_) rfl (by kernel_rfl) (by kernel_rfl) (by kernel_rfl) (fun _ _ _ h => h) (Or.inl ⟨by kernel_rfl, ?_⟩) (by assumption) ?_
          rotate_left
          · intro w hSw
            (try dsimp only at hSw)
            go_simp
            all_goals (with_reducible rfl)
          (try simp only [Act.put, List.setIfInBounds_toArray, List.set_cons_zero, List.set_cons_succ])
          refine wpAnyH_take (i := 5) (oi := { dst := some 22, op := Op.move (Operand.tmp 5), type := 3, pos := "law.go:31", after := #[], guard := none }) (v := ?_) rfl (by kernel_rfl) (by kernel_rfl) (by kernel_rfl) (fun _ _ _ h => h) (Or.inl ⟨by kernel_rfl, ?_⟩) (by assumption) ?_
          rotate_left
          · intro w hSw
            (try dsimp only at hSw)
            go_simp
            all_goals (with_reducible rfl)
          (try simp only [Act.put, List.setIfInBounds_toArray, List.set_cons_zero, List.set_cons_succ])
          refine wpAnyH_take (i := 6) (oi := { dst := some 23, op := Op.indexAddr 22 (Operand.tmp 21) (Operand.tmp 22), type := 0, pos := "law.go:31", after := #[{ on := 4, ground := Ground.data }, { on := 5, ground := Ground.data }], guard := none }) (v := ?_) rfl (by kernel_rfl) (by kernel_rfl) (by kernel_rfl) (fun _ _ _ h => h) (Or.inl ⟨by kernel_rfl, ?_⟩) (by assumption) ?_
          rotate_left
          · intro w hSw
            (try dsimp only at hSw)
            go_simp
            all_goals (with_reducible rfl)
          (try simp only [Act.put, List.setIfInBounds_toArray, List.set_cons_zero, List.set_cons_succ])
          refine wpAnyH_take (i := 7) (oi := { dst := some 24, op := Op.load 9 (Operand.tmp 23), type := 9, pos := "law.go:31", after := #[{ on := 6, ground := Ground.data }], guard := none }) (v := ?_) rfl (by kernel_rfl) (by kernel_rfl) (by kernel_rfl) (fun _ _ _ h => h) (Or.inl ⟨by kernel_rfl, ?_⟩) (by assumption) ?_
          rotate_left
          · intro w hSw
            (try dsimp only at hSw)
            go_simp
            all_goals (with_reducible rfl)
          (try simp only [Act.put, List.setIfInBounds_toArray, List.set_cons_zero, List.set_cons_succ])
          refine wpAnyH_take (i := 8) (oi := { dst := some 25, op := Op.binOp BinOp.neq 9 (Operand.tmp 20) (Operand.tmp 24) 9, type := 4, pos := "law.go:31", after := #[{ on := 3, ground := Ground.data }, { on := 7, ground := Ground.data }], guard := none }) (v := ?_) rfl (by kernel_rfl) (by kernel_rfl) (by kernel_rfl) (fun _ _ _ h => h) (Or.inl ⟨by kernel_rfl, ?_⟩) (by assumption) ?_
          rotate_left
          · intro w hSw
            (try dsimp only at hSw)
            go_simp
            all_goals (with_reducible rfl)
          (try simp only [Act.put, List.setIfInBounds_toArray, List.set_cons_zero, List.set_cons_succ])
          refine wpAnyH_done (by kernel_rfl) ?_ _
          refine NoPanic.normal ?_
          clear hHeld
          go_wp2
          go_roundw
          case rel => exact ⟨i + 1, by omega, by go_num, by rw [HX.out.1, HX.out.2.1, HX.out.2.2.2.1, HXY.out], HX.out.2.2.2.2.drew⟩
          case measure => simp [intOf]; omega
        · have z1 : (x.toList == y.toList) = false := beq_eq_false_iff_ne.2 (fun h => hxy (W01.str_toList h))
          have hfin : sameB a b = false := decide_eq_false (HX.out.2.2.1 hxy)
          have HF := Lib.hid hfin
          clear hxy hfin
          go_upto_region 6 with (fail)
          refine wp_region_noPanic ?_
          refine wp_region_held_drew (S := (fun w' => w'.cell? ⟨b1, o1 + i, none⟩ = some (.string x) ∧ w'.cell? ⟨b2, o2 + i, none⟩ = some (.string y))) (by kernel_rfl) ⟨c1, c2⟩ (fun hHeld => ?_)
          refine wpAnyH_take (i := 0) (oi := { dst := some 17, op := Op.move (Operand.tmp 0), type := 22, pos := "law.go:31", after := #[], guard := none }) (v := ?_) rfl (by kernel_rfl) (by kernel_rfl) (by kernel_rfl) (fun _ _ _ h => h) (Or.inl ⟨by kernel_rfl, ?_⟩) (by assumption) ?_
          rotate_left
          · intro w hSw
            (try dsimp only at hSw)
            go_simp
            all_goals (with_reducible rfl)
          (try simp only [Act.put, List.setIfInBounds_toArray, List.set_cons_zero, List.set_cons_succ])
          refine wpAnyH_take (i := 1) (oi := { dst := some 18, op := Op.move (Operand.tmp 5), type := 3, pos := "law.go:31", after := #[], guard := none }) (v := ?_) rfl (by kernel_rfl) (by kernel_rfl) (by kernel_rfl) (fun _ _ _ h => h) (Or.inl ⟨by kernel_rfl, ?_⟩) (by assumption) ?_
          rotate_left
          · intro w hSw
            (try dsimp only at hSw)
            go_simp
            all_goals (with_reducible rfl)
          (try simp only [Act.put, List.setIfInBounds_toArray, List.set_cons_zero, List.set_cons_succ])
          refine wpAnyH_take (i := 2) (oi := { dst := some 19, op := Op.indexAddr 22 (Operand.tmp 17) (Operand.tmp 18), type := 0, pos := "law.go:31", after := #[{ on := 0, ground := Ground.data }, { on := 1, ground := Ground.data }], guard := none }) (v := ?_) rfl (by kernel_rfl) (by kernel_rfl) (by kernel_rfl) (fun _ _ _ h => h) (Or.inl ⟨by kernel_rfl, ?_⟩) (by assumption) ?_
          rotate_left
          · intro w hSw
            (try dsimp only at hSw)
            go_simp
            all_goals (with_reducible rfl)
          (try simp only [Act.put, List.setIfInBounds_toArray, List.set_cons_zero, List.set_cons_succ])
          refine wpAnyH_take (i := 3) (oi := { dst := some 20, op := Op.load 9 (Operand.tmp 19), type := 9, pos := "law.go:31", after := #[{ on := 2, ground := Ground.data }], guard := none }) (v := ?_) rfl (by kernel_rfl) (by kernel_rfl) (by kernel_rfl) (fun _ _ _ h => h) (Or.inl ⟨by kernel_rfl, ?_⟩) (by assumption) ?_
          rotate_left
          · intro w hSw
            (try dsimp only at hSw)
            go_simp
            all_goals (with_reducible rfl)
          (try simp only [Act.put, List.setIfInBounds_toArray, List.set_cons_zero, List.set_cons_succ])
          refine wpAnyH_take (i := 4) (oi := { dst := some 21, op := Op.move (Operand.tmp 1), type := 22, pos := "law.go:31", after := #[], guard := none }) (v := ?_) rfl (by kernel_rfl) (by kernel_rfl) (by kernel_rfl) (fun _ _ _ h => h) (Or.inl ⟨by kernel_rfl, ?_⟩) (by assumption) ?_
          rotate_left
          · intro w hSw
            (try dsimp only at hSw)
            go_simp
            all_goals (with_reducible rfl)
          (try simp only [Act.put, List.setIfInBounds_toArray, List.set_cons_zero, List.set_cons_succ])
          refine wpAnyH_take (i := 5) (oi := { dst := some 22, op := Op.move (Operand.tmp 5), type := 3, pos := "law.go:31", after := #[], guard := none }) (v := ?_) rfl (by kernel_rfl) (by kernel_rfl) (by kernel_rfl) (fun _ _ _ h => h) (Or.inl ⟨by kernel_rfl, ?_⟩) (by assumption) ?_
          rotate_left
          · intro w hSw
            (try dsimp only at hSw)
            go_simp
            all_goals (with_reducible rfl)
          (try simp only [Act.put, List.setIfInBounds_toArray, List.set_cons_zero, List.set_cons_succ])
          refine wpAnyH_take (i := 6) (oi := { dst := some 23, op := Op.indexAddr 22 (Operand.tmp 21) (Operand.tmp 22), type := 0, pos := "law.go:31", after := #[{ on := 4, ground := Ground.data }, { on := 5, ground := Ground.data }], guard := none }) (v := ?_) rfl (by kernel_rfl) (by kernel_rfl) (by kernel_rfl) (fun _ _ _ h => h) (Or.inl ⟨by kernel_rfl, ?_⟩) (by assumption) ?_
          rotate_left
          · intro w hSw
            (try dsimp only at hSw)
            go_simp
            all_goals (with_reducible rfl)
          (try simp only [Act.put, List.setIfInBounds_toArray, List.set_cons_zero, List.set_cons_succ])
          refine wpAnyH_take (i := 7) (oi := { dst := some 24, op := Op.load 9 (Operand.tmp 23), type := 9, pos := "law.go:31", after := #[{ on := 6, ground := Ground.data }], guard := none }) (v := ?_) rfl (by kernel_rfl) (by kernel_rfl) (by kernel_rfl) (fun _ _ _ h => h) (Or.inl ⟨by kernel_rfl, ?_⟩) (by assumption) ?_
          rotate_left
          · intro w hSw
            (try dsimp only at hSw)
            go_simp
            all_goals (with_reducible rfl)
          (try simp only [Act.put, List.setIfInBounds_toArray, List.set_cons_zero, List.set_cons_succ])
          refine wpAnyH_take (i := 8) (oi := { dst := some 25, op := Op.binOp BinOp.neq 9 (Operand.tmp 20) (Operand.tmp 24) 9, type := 4, pos := "law.go:31", after := #[{ on := 3, ground := Ground.data }, { on := 7, ground := Ground.data }], guard := none }) (v := ?_) rfl (by kernel_rfl) (by kernel_rfl) (by kernel_rfl) (fun _ _ _ h => h) (Or.inl ⟨by kernel_rfl, ?_⟩) (by assumption) ?_
          rotate_left
          · intro w hSw
            (try dsimp only at hSw)
            go_simp
            all_goals (with_reducible rfl)
          (try simp only [Act.put, List.setIfInBounds_toArray, List.set_cons_zero, List.set_cons_succ])
          refine wpAnyH_done (by kernel_rfl) ?_ _
          refine NoPanic.normal ?_
          clear hHeld
          go_wp2
          go_ret
          exact ⟨by rw [HF.out]; rfl, HX.out.2.2.2.2.drew⟩
      · have he : i = a.length := by omega
        have d1 : decide ((i : Int) < (a.length : Int)) = false := decide_eq_false (by omega)
        have d1b : decide (i < a.length) = false := decide_eq_false hlt
        have hfin : sameB a b = true := decide_eq_true (by
          rw [he] at ht
          rw [List.take_length, HL.out, List.take_length] at ht
          exact ht)
        have HF := Lib.hid hfin
        clear hfin he ht
        go_wp2
        go_ret
        exact ⟨by rw [HF.out]; rfl, hB⟩
  · have q0 : ((a.length : Int) == (b.length : Int)) = false := beq_eq_false_iff_ne.2 (by omega)
    have q0n : ((a.length : Int) != (b.length : Int)) = true := by rw [bne, q0]; rfl
    have hfin : sameB a b = false := decide_eq_false (fun e => hl (by rw [e]))
    have HF := Lib.hid hfin
    clear hfin hl
    go_enter Tryz.func18, Tryz.ntmps18
    go_wp2
    go_ret
    exact ⟨by rw [HF.out]; rfl, Below.refl _ _⟩
set_option maxRecDepth 100000 in
theorem content22 {W : World} {B n : Nat} {D : DiskD} {F : Nat → Prop} (h : OwnF W B n D F) : Calls Tryz.prog 22 #[.pointer (some ⟨B, 0, none⟩)] W fun e w' => e = .returned (.string (readS D 0 n)) ∧ W = w' := by
  have hsize := size_f h
  have hread := read_f h 0 (n : Int)
  clear h
  go_enter Tryz.func22, Tryz.ntmps22
  go_wp2_with (first
    | (go_at_call 51; refine hsize.mono ?_; rintro e w9 ⟨rfl, rfl⟩)
    | (go_at_call 52; refine hread.mono ?_; rintro e w9 ⟨rfl, rfl⟩))
  go_ret
  exact ⟨rfl, rfl⟩
end Go.Proofs.YtnckpnbecmmcpaaGreatDoor

/- package journal: Records, Room; slices.ContainsFunc, slices.Clone on strings. -/
import Derived.Test.YtnckpnbecmmcpaaGreatDoorJF
namespace Go.Proofs.YtnckpnbecmmcpaaGreatDoor
open Go.RowKit
/-- The function value f answers q at the strings of l, wherever the heap has grown. -/
def AnsS (w : World) (f : Value) (l : List ByteArray) (q : ByteArray → Bool) : Prop :=
  ∃ (k : Nat) (caps : Array Value), f = .func (.func k) #[] caps ∧ (∀ args w, (callFunc k args).run Tryz.prog w = .ok (.enter k args) w) ∧
    ∀ (j : Nat) (x : ByteArray), l[j]? = some x → ∀ W, Below w.heap.size w W → Calls Tryz.prog k (#[.string x] ++ caps) W fun e w' => e = .returned (.bool (q x)) ∧ Below W.heap.size W w'
def idxS {α : Type} (q : α → Bool) (l : List α) : Int := match l.findIdx? q with | some i => (i : Int) | none => -1
theorem idxS_hit {α : Type} {q : α → Bool} {l : List α} {k : Nat} {x : α} (hk : l[k]? = some x) (hq : q x = true) (hb : ∀ (j : Nat) (y : α), j < k → l[j]? = some y → q y = false) : idxS q l = k := by
  unfold idxS
  have hlt : k < l.length := by
    refine Classical.byContradiction fun hc => ?_
    rw [List.getElem?_eq_none (by omega)] at hk; cases hk
  have : l.findIdx? q = some k := by
    rw [List.findIdx?_eq_some_iff_getElem]
    refine ⟨hlt, ?_, fun j hj => ?_⟩
    · rw [List.getElem?_eq_getElem hlt] at hk; cases hk; exact hq
    · have := hb j l[j] hj (List.getElem?_eq_getElem (by omega))
      rw [this]; decide
  rw [this]
theorem idxS_none {α : Type} {q : α → Bool} {l : List α} (hb : ∀ (j : Nat) (y : α), l[j]? = some y → q y = false) : idxS q l = -1 := by
  unfold idxS
  have : l.findIdx? q = none := by
    rw [List.findIdx?_eq_none_iff]
    intro x hx
    obtain ⟨j, hj, rfl⟩ := List.getElem_of_mem hx
    exact hb j _ (List.getElem?_eq_getElem hj)
  rw [this]
theorem idxS_any {α : Type} (q : α → Bool) (l : List α) : decide (0 ≤ idxS q l) = l.any q := by
  unfold idxS
  cases h : l.findIdx? q with
  | none =>
    have := List.findIdx?_eq_none_iff.1 h
    simp
    exact this
  | some i =>
    obtain ⟨hlt, hq, -⟩ := List.findIdx?_eq_some_iff_getElem.1 h
    simp
    exact ⟨_, List.getElem_mem hlt, hq⟩
theorem idxS_bd {α : Type} (q : α → Bool) (l : List α) : -1 ≤ idxS q l ∧ idxS q l < l.length ∨ l = [] ∧ idxS q l = -1 := by
  unfold idxS
  cases h : l.findIdx? q with
  | none => cases l with
    | nil => right; exact ⟨rfl, rfl⟩
    | cons x l => left; simp; omega
  | some i =>
    obtain ⟨hlt, -⟩ := List.findIdx?_eq_some_iff_getElem.1 h
    left; simp; omega

set_option maxRecDepth 100000 in
theorem indexS (v f : Value) (l : List ByteArray) (q : ByteArray → Bool) (w : World) (hv : StrsAt w v l) (hf : AnsS w f l q) :
    Calls Tryz.prog 68 #[v, f] w fun e w' => e = .returned (.int .i64 (idxS q l)) ∧ Below w.heap.size w w' := by
  have HV := Lib.hid hv
  obtain ⟨a, cap, rfl, hle, hcm, -⟩ := hv
  obtain ⟨kf, caps, rfl, hent, hans⟩ := hf
  have HA := Lib.hid hans
  clear hans
  unfold maxLen at hcm
  go_enter Tryz.func68, Tryz.ntmps68
  go_wp2
  go_loopw [5, 8] (fun _ u8 wr => ∃ k : Nat, k ≤ l.length ∧ u8 = .int .i64 k ∧ (∀ (j : Nat) (y : ByteArray), j < k → l[j]? = some y → q y = false) ∧ Below w.heap.size w wr) (fun _ u8 _ => (l.length - intOf u8).toNat)
  case atStart => exact ⟨0, by omega, rfl, fun j y hj => absurd hj (Nat.not_lt_zero _), Below.refl _ _⟩
  case round =>
    obtain ⟨k, hk, rfl, hpre, hBr⟩ := hrel
    have HP := Lib.hid hpre
    clear hpre
    by_cases hkl : k < l.length
    · have hsome := Lib.hid (getD_some ⟨#[]⟩ hkl)
      obtain ⟨b, off, rfl, hcell⟩ := HV.out.get hsome.out
      have hcell' := (hBr.cell (p := ⟨b, off + k, none⟩) (World.block_lt_of_cell? _ _ hcell)).trans hcell
      clear hcell
      have hc := Lib.hid (HA.out k _ hsome.out wr hBr)
      generalize l.getD k ⟨#[]⟩ = x at hcell' hsome hc
      go_wp2_with fail
      refine hc.out.mono ?_
      cases hq : q x with
      | true =>
        rintro e w2 ⟨rfl, hB2⟩
        go_wp2
        go_ret
        exact ⟨by rw [idxS_hit hsome.out hq HP.out]; rfl, hBr.trans (hB2.mono hBr.size)⟩
      | false =>
        have HQ := Lib.hid hq
        clear hq
        rintro e w2 ⟨rfl, hB2⟩
        go_wp2
        go_roundw
        case rel => exact ⟨k + 1, by omega, by go_num, fun j y hj hy => by
          by_cases hjk : j < k
          · exact HP.out j y hjk hy
          · obtain rfl : j = k := by omega
            rw [hsome.out] at hy; cases hy; exact HQ.out, hBr.trans (hB2.mono hBr.size)⟩
        case measure => simp [intOf]; omega
    · go_wp2
      go_ret
      exact ⟨by rw [idxS_none fun j y hj => HP.out j y (by
        refine Classical.byContradiction fun hc => ?_
        rw [List.getElem?_eq_none (by omega)] at hj; cases hj) hj]; rfl, hBr⟩
set_option maxRecDepth 100000 in
theorem containsS (v f : Value) (l : List ByteArray) (q : ByteArray → Bool) (w : World) (hv : StrsAt w v l) (hf : AnsS w f l q) :
    Calls Tryz.prog 35 #[v, f] w fun e w' => e = .returned (.bool (l.any q)) ∧ Below w.heap.size w w' := by
  rw [← idxS_any q l]
  have hb := idxS_bd q l
  have hx := indexS v f l q w hv hf
  generalize idxS q l = i at hb hx
  go_enter Tryz.func35, Tryz.ntmps35
  go_wp2_with fail
  refine hx.mono ?_
  rintro e w' ⟨rfl, hB⟩
  go_wp2
  go_ret
  exact ⟨rfl, hB⟩


def longP (t : ByteArray) : Bool := decide (65536 < t.size)
theorem long34 (t : ByteArray) (w : World) : Calls Tryz.prog 34 #[.string t] w fun e w' => e = .returned (.bool (longP t)) ∧ Below w.heap.size w w' := by
  have HL := Lib.hid (show longP t = decide (65536 < t.size) from rfl)
  have hd : decide ((65536 : Int) < (t.size : Int)) = decide (65536 < t.size) := by
    by_cases h : 65536 < t.size
    · rw [decide_eq_true h, decide_eq_true (by omega)]
    · rw [decide_eq_false h, decide_eq_false (by omega)]
  rw [HL.out]
  have HD := Lib.hid hd
  clear hd
  go_enter Tryz.func34, Tryz.ntmps34
  go_wp2
  go_ret
  exact ⟨by rw [← HD.out]; rfl, Below.refl _ _⟩
theorem long_ans (w : World) (l : List ByteArray) : AnsS w (.func (.func 34) #[] #[]) l longP :=
  ⟨34, #[], rfl, enters_of Tryz.func34 (by kernel_rfl) rfl, fun _ x _ W _ => long34 x W⟩
theorem longB_any (l : List ByteArray) : longB l = l.any longP := rfl
theorem clone36 (v : Value) (l : List ByteArray) (w : World) (hv : StrsAt w v l) (hl : l.length ≤ 1000000) :
    Calls Tryz.prog 36 #[v] w fun e w' => ∃ v', e = .returned v' ∧ w'.ownsRow w.heap.size 9 1 v' l.length (l.map Value.string) ∧ Below w.heap.size w w' := by
  obtain ⟨a, c, rfl, h1, h2, h3⟩ := hv
  cases l with
  | nil =>
    cases a with
    | none =>
      refine (Tryz.slices_Clone_string_nil 0 c w).mono ?_
      rintro e w' ⟨rfl, rfl⟩
      exact ⟨_, rfl, World.ownsRow_nil _ _ _ _, Below.refl _ _⟩
    | some ad =>
      refine (Tryz.slices_Clone_string_zero ad c w).mono ?_
      rintro e w' ⟨v', rfl, ho, -, hb⟩
      exact ⟨v', rfl, ho, hb⟩
  | cons x l =>
    obtain ⟨b, o, rfl, h4⟩ := h3 (by simp)
    refine (Tryz.slices_Clone_string b o (x :: l).length c (x :: l) w (Nat.le_refl _) (by omega) (fun j hj => h4 j _ (getD_some _ hj))).mono ?_
    rintro e w' ⟨v', rfl, ho, -, hb⟩
    rw [List.take_length] at ho
    exact ⟨v', rfl, ho, hb⟩
theorem JouAt.strs {W : World} {base Jb B : Nat} {J : JouD} (h : JouAt W base Jb B J) : ∃ vr, Blk W Jb #[vr, .string (headS J.L), .int .i64 (tapeN J.L : Int), .pointer (some ⟨B, 0, none⟩), .bool J.broken] 74 ∧ StrsAt W vr J.L := by
  obtain ⟨vr, h1, h2⟩ := h.ex
  exact ⟨vr, h1, strs_own h2⟩
set_option maxRecDepth 100000 in
theorem records19 {W : World} {base Jb B : Nat} {J : JouD} (h : JouAt W base Jb B J) (hl : J.L.length ≤ 1000000) : Calls Tryz.prog 19 #[.pointer (some ⟨Jb, 0, none⟩)] W fun e w' => ∃ v, e = .returned v ∧ w'.ownsRow W.heap.size 9 1 v J.L.length (J.L.map Value.string) ∧ Below W.heap.size W w' := by
  obtain ⟨vr, hb, hs⟩ := h.strs
  have hc := clone36 vr J.L W hs hl
  have c0 := hb.cell 0
  simp only [List.getElem?_toArray, List.getElem?_cons_zero] at c0
  obtain ⟨a, c, rfl, -⟩ := strs_len hs
  clear hb hs h
  go_enter Tryz.func19, Tryz.ntmps19
  go_wp2_with (go_at_call 36; refine hc.mono ?_; rintro e w9 ⟨v', rfl, h1, h2⟩)
  go_ret
  exact ⟨_, rfl, h1, h2⟩
set_option maxRecDepth 100000 in
theorem records_nil (W : World) : Calls Tryz.prog 19 #[.pointer none] W fun e w' => e = .returned (.slice none 0 0) ∧ W = w' := by
  go_enter Tryz.func19, Tryz.ntmps19
  go_wp2
  go_ret
  exact ⟨rfl, rfl⟩
set_option maxRecDepth 100000 in
theorem room_nil (W : World) : Calls Tryz.prog 20 #[.pointer none] W fun e w' => e = .returned (.int .i64 0) ∧ W = w' := by
  go_enter Tryz.func20, Tryz.ntmps20
  go_wp2
  go_ret
  exact ⟨rfl, rfl⟩
set_option maxRecDepth 100000 in
set_option maxHeartbeats 4000000 in
theorem room20 {W : World} {base Jb B n : Nat} {J : JouD} {D : DiskD} {F : Nat → Prop} (h : JouAt W base Jb B J) (ho : OwnF W B n D F) (hn : tapeN J.L ≤ 1000000000) : Calls Tryz.prog 20 #[.pointer (some ⟨Jb, 0, none⟩)] W fun e w' => e = .returned (.int .i64 ((n : Int) - (tapeN J.L : Int))) ∧ Below W.heap.size W w' := by
  obtain ⟨vr, hb, -⟩ := h.ex
  have HSZ := Lib.hid (size_f (W := W.drew) (ho.below (Below.refl _ _).drew))
  have hmost := ho.inv.most
  have c2 : W.drew.cell? ⟨Jb, 2, none⟩ = some (.int .i64 (tapeN J.L : Int)) := hb.cell 2
  have c3 : W.drew.cell? ⟨Jb, 3, none⟩ = some (.pointer (some ⟨B, 0, none⟩)) := hb.cell 3
  have ws : IntKind.i64.wrap ((n : Int) - (tapeN J.L : Int)) = (n : Int) - (tapeN J.L : Int) := by rw [wrapS _ (by omega) (by omega)]
  clear h ho hb
  go_enter Tryz.func20, Tryz.ntmps20
  go_upto_region 3 with (fail)
  refine wp_region_noPanic ?_
  refine wp_region_held_drew (S := (fun w' => w'.cell? ⟨Jb, 2, none⟩ = some (.int .i64 (tapeN J.L : Int)) ∧ w'.cell? ⟨Jb, 3, none⟩ = some (.pointer (some ⟨B, 0, none⟩)))) (by kernel_rfl) ⟨c2, c3⟩ (fun hHeld => ?_)
  refine wpAnyH_take (i := 0) (oi := { dst := some 5, op := Op.move (Operand.tmp 0), type := 28, pos := "journal.go:155", after := #[], guard := none }) (v := ?_) rfl (by kernel_rfl) (by kernel_rfl) (by kernel_rfl) (fun _ _ _ h => h) (Or.inl ⟨by kernel_rfl, ?_⟩) (by assumption) ?_
  rotate_left
  · intro w hSw
    (try dsimp only at hSw)
    go_simp
    all_goals (with_reducible rfl)
  (try simp only [Act.put, List.setIfInBounds_toArray, List.set_cons_zero, List.set_cons_succ])
  refine wpAnyH_take (i := 1) (oi := { dst := some 6, op := Op.nilCheck (Operand.tmp 5), type := 0, pos := "journal.go:155", after := #[{ on := 0, ground := Ground.data }], guard := none }) (v := ?_) rfl (by kernel_rfl) (by kernel_rfl) (by kernel_rfl) (fun _ _ _ h => h) (Or.inl ⟨by kernel_rfl, ?_⟩) (by assumption) ?_
  rotate_left
  · intro w hSw
    (try dsimp only at hSw)
    go_simp
    all_goals (with_reducible rfl)
  (try simp only [Act.put, List.setIfInBounds_toArray, List.set_cons_zero, List.set_cons_succ])
  refine wpAnyH_take (i := 2) (oi := { dst := some 7, op := Op.fieldAddr 74 (Operand.tmp 6) 1, type := 0, pos := "journal.go:155", after := #[{ on := 1, ground := Ground.data }], guard := none }) (v := ?_) rfl (by kernel_rfl) (by kernel_rfl) (by kernel_rfl) (fun _ _ _ h => h) (Or.inl ⟨by kernel_rfl, ?_⟩) (by assumption) ?_
  rotate_left
  · intro w hSw
    (try dsimp only at hSw)
    go_simp
    all_goals (with_reducible rfl)
  (try simp only [Act.put, List.setIfInBounds_toArray, List.set_cons_zero, List.set_cons_succ])
  refine wpAnyH_take (i := 3) (oi := { dst := some 8, op := Op.load 27 (Operand.tmp 7), type := 27, pos := "journal.go:155", after := #[{ on := 2, ground := Ground.data }], guard := none }) (v := ?_) rfl (by kernel_rfl) (by kernel_rfl) (by kernel_rfl) (fun _ _ _ h => h) (Or.inl ⟨by kernel_rfl, ?_⟩) (by assumption) ?_
  rotate_left
  · intro w hSw
    (try dsimp only at hSw)
    go_simp
    all_goals (with_reducible rfl)
  (try simp only [Act.put, List.setIfInBounds_toArray, List.set_cons_zero, List.set_cons_succ])
  refine wpAnyH_take (i := 5) (oi := { dst := some 10, op := Op.move (Operand.tmp 0), type := 28, pos := "journal.go:155", after := #[], guard := none }) (v := ?_) rfl (by kernel_rfl) (by kernel_rfl) (by kernel_rfl) (fun _ _ _ h => h) (Or.inl ⟨by kernel_rfl, ?_⟩) (by assumption) ?_
  rotate_left
  · intro w hSw
    (try dsimp only at hSw)
    go_simp
    all_goals (with_reducible rfl)
  (try simp only [Act.put, List.setIfInBounds_toArray, List.set_cons_zero, List.set_cons_succ])
  refine wpAnyH_take (i := 6) (oi := { dst := some 11, op := Op.nilCheck (Operand.tmp 10), type := 0, pos := "journal.go:155", after := #[{ on := 5, ground := Ground.data }], guard := none }) (v := ?_) rfl (by kernel_rfl) (by kernel_rfl) (by kernel_rfl) (fun _ _ _ h => h) (Or.inl ⟨by kernel_rfl, ?_⟩) (by assumption) ?_
  rotate_left
  · intro w hSw
    (try dsimp only at hSw)
    go_simp
    all_goals (with_reducible rfl)
  (try simp only [Act.put, List.setIfInBounds_toArray, List.set_cons_zero, List.set_cons_succ])
  refine wpAnyH_take (i := 7) (oi := { dst := some 12, op := Op.fieldAddr 74 (Operand.tmp 11) 0, type := 0, pos := "journal.go:155", after := #[{ on := 6, ground := Ground.data }], guard := none }) (v := ?_) rfl (by kernel_rfl) (by kernel_rfl) (by kernel_rfl) (fun _ _ _ h => h) (Or.inl ⟨by kernel_rfl, ?_⟩) (by assumption) ?_
  rotate_left
  · intro w hSw
    (try dsimp only at hSw)
    go_simp
    all_goals (with_reducible rfl)
  (try simp only [Act.put, List.setIfInBounds_toArray, List.set_cons_zero, List.set_cons_succ])
  refine wpAnyH_take (i := 8) (oi := { dst := some 13, op := Op.fieldAddr 72 (Operand.tmp 12) 2, type := 0, pos := "journal.go:155", after := #[{ on := 7, ground := Ground.data }], guard := none }) (v := ?_) rfl (by kernel_rfl) (by kernel_rfl) (by kernel_rfl) (fun _ _ _ h => h) (Or.inl ⟨by kernel_rfl, ?_⟩) (by assumption) ?_
  rotate_left
  · intro w hSw
    (try dsimp only at hSw)
    go_simp
    all_goals (with_reducible rfl)
  (try simp only [Act.put, List.setIfInBounds_toArray, List.set_cons_zero, List.set_cons_succ])
  refine wpAnyH_take (i := 9) (oi := { dst := some 14, op := Op.load 3 (Operand.tmp 13), type := 3, pos := "journal.go:155", after := #[{ on := 8, ground := Ground.data }], guard := none }) (v := ?_) rfl (by kernel_rfl) (by kernel_rfl) (by kernel_rfl) (fun _ _ _ h => h) (Or.inl ⟨by kernel_rfl, ?_⟩) (by assumption) ?_
  rotate_left
  · intro w hSw
    (try dsimp only at hSw)
    go_simp
    all_goals (with_reducible rfl)
  (try simp only [Act.put, List.setIfInBounds_toArray, List.set_cons_zero, List.set_cons_succ])
  refine wpAnyH_one1 (i := 4) (o := { dst := some 9, op := Op.call { callee := Callee.value (Operand.func 51), args := #[Operand.tmp 8], argTypes := #[27] }, type := 3, pos := "journal.go:155", after := #[{ on := 3, ground := Ground.data }], guard := none }) (by kernel_rfl) rfl (fun K hK => ?_)
  go_simp
  go_at_call 51
  refine HSZ.out.mono ?_
  rintro e w9 ⟨rfl, hw9⟩
  rw [← hw9]
  refine hK.out _ _ ?_ (fun hHeld2 => ?_)
  · exact ⟨c2, c3⟩
  clear hHeld
  have hHeld := hHeld2
  clear hHeld2
  clear hK K
  (try simp only [Act.put, List.setIfInBounds_toArray, List.set_cons_zero, List.set_cons_succ])
  refine wpAnyH_take (i := 10) (oi := { dst := some 15, op := Op.binOp BinOp.sub 3 (Operand.tmp 9) (Operand.tmp 14) 3, type := 3, pos := "journal.go:155", after := #[{ on := 4, ground := Ground.data }, { on := 9, ground := Ground.data }], guard := none }) (v := ?_) rfl (by kernel_rfl) (by kernel_rfl) (by kernel_rfl) (fun _ _ _ h => h) (Or.inl ⟨by kernel_rfl, ?_⟩) (by assumption) ?_
  rotate_left
  · intro w hSw
    (try dsimp only at hSw)
    go_simp
    all_goals (with_reducible rfl)
  (try simp only [Act.put, List.setIfInBounds_toArray, List.set_cons_zero, List.set_cons_succ])
  refine wpAnyH_take (i := 11) (oi := { dst := some 2, op := Op.assign (Operand.tmp 15), type := 3, pos := "journal.go:155", after := #[{ on := 10, ground := Ground.data }, { on := 4, ground := Ground.chain }, { on := 0, ground := Ground.phase }, { on := 1, ground := Ground.phase }, { on := 2, ground := Ground.phase }, { on := 3, ground := Ground.phase }, { on := 4, ground := Ground.phase }, { on := 5, ground := Ground.phase }, { on := 6, ground := Ground.phase }, { on := 7, ground := Ground.phase }, { on := 8, ground := Ground.phase }, { on := 9, ground := Ground.phase }, { on := 10, ground := Ground.phase }], guard := none }) (v := ?_) rfl (by kernel_rfl) (by kernel_rfl) (by kernel_rfl) (fun _ _ _ h => h) (Or.inl ⟨by kernel_rfl, ?_⟩) (by assumption) ?_
  rotate_left
  · intro w hSw
    (try dsimp only at hSw)
    go_simp
    all_goals (with_reducible rfl)
  (try simp only [Act.put, List.setIfInBounds_toArray, List.set_cons_zero, List.set_cons_succ])
  refine wpAnyH_done (by kernel_rfl) ?_ _
  refine NoPanic.normal ?_
  clear hHeld
  go_wp2
  go_ret
  exact ⟨rfl, (Below.refl _ _).drew⟩
end Go.Proofs.YtnckpnbecmmcpaaGreatDoor

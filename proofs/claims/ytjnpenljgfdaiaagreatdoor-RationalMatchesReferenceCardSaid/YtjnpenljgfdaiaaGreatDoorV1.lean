/- package integer: sums of numbers with a sign. -/
import Derived.Test.YtjnpenljgfdaiaaGreatDoorS4
namespace Go.Proofs.YtjnpenljgfdaiaaGreatDoor
open Go.RowKit Go.Shelf Lib

/-- A block of cells of any type, as a whole. -/
def BlkT (W : World) (B : Nat) (cs : Array Value) (t : TypeId) : Prop := W.heap[B]? = some (.cells cs t (0, 0))
theorem BlkT.lt {W : World} {B : Nat} {cs : Array Value} {t : TypeId} (h : BlkT W B cs t) : B < W.heap.size := (Array.getElem?_eq_some_iff.1 h).1
theorem BlkT.cell {W : World} {B : Nat} {cs : Array Value} {t : TypeId} (h : BlkT W B cs t) (i : Nat) : W.cell? ⟨B, i, none⟩ = cs[i]? := by simp [World.cell?, show W.heap[B]? = _ from h]
theorem BlkT.frozen {W : World} {B : Nat} {cs : Array Value} {t : TypeId} (h : BlkT W B cs t) (i : Nat) : W.frozen? ⟨B, i, none⟩ = false := by simp [World.frozen?, show W.heap[B]? = _ from h]
theorem BlkT.below {W W' : World} {D B : Nat} {cs : Array Value} {t : TypeId} (h : BlkT W B cs t) (hb : Below D W W') (hD : B < D) : BlkT W' B cs t := (hb.block B hD).trans h
theorem BlkT.newAt (W : World) (cs : Array Value) (t : TypeId) {n : Nat} (h : n = W.heap.size) : BlkT (W.alloc (.cells cs t)) n cs t := by rw [h]; exact heap_alloc_new W _
theorem BlkT.alloc {W : World} {B : Nat} {cs : Array Value} {t : TypeId} (h : BlkT W B cs t) (o : Obj) : BlkT (W.alloc o) B cs t := (Below.heap_alloc W o B h.lt).trans h
theorem BlkT.set {W : World} {B : Nat} {cs : Array Value} {t : TypeId} (h : BlkT W B cs t) (i : Nat) (v : Value) : BlkT (W.setCell ⟨B, i, none⟩ v) B (cs.setIfInBounds i v) t := heap_setCell_same W B i cs t v h
theorem BlkT.other {W : World} {B : Nat} {cs : Array Value} {t : TypeId} (h : BlkT W B cs t) {a : Addr} (v : Value) (ha : B ≠ a.block) : BlkT (W.setCell a v) B cs t := (heap_setCell_other W a B v ha).trans h
/-- A number lives on under stores into a block that lay below it. -/
theorem IntsAt.setSlot {w : World} {v : Value} {l : List Int} (h : IntsAt w v l) {B i : Nat} {cs : Array Value} {t : TypeId} (hb : BlkT w B cs t) (ht : ∀ x, cs[i]? ≠ some (.int .i64 x)) (u : Value) : IntsAt (w.setCell ⟨B, i, none⟩ u) v l := by
  obtain ⟨a, cap, h1, h2, h3, h4⟩ := h
  refine ⟨a, cap, h1, h2, h3, fun hl => ?_⟩
  obtain ⟨b, off, rfl, h5⟩ := h4 hl
  refine ⟨b, off, rfl, fun j y hj => ?_⟩
  have hc := h5 j y hj
  rw [World.cell?_setCell_other _ _ _ _ (fun e => by rw [← e, hb.cell] at hc; exact ht _ hc)]
  exact hc
set_option maxRecDepth 100000 in
set_option maxHeartbeats 1000000 in
theorem splus_any (b1 b2 : Bool) (v1 v2 : Value) (n m : Nat) (w : World) (h1 : NumAt w v1 n) (h2 : NumAt w v2 m) (l1 : (N3.toG n).length ≤ 1000) (l2 : (N3.toG m).length ≤ 1000) :
    Calls Tryz.prog 85 #[.agg #[.bool b1, v1], .agg #[.bool b2, v2]] w fun e w' => ∃ b v k, e = .returned (.agg #[.bool b, v]) ∧ NumAt w' v k ∧ N3.sgn b k = N3.sgn b1 n + N3.sgn b2 m ∧ Below w.heap.size w w' := by
  obtain ⟨a, cp, rfl, g1, g2⟩ := (show IntsAt w v1 _ from h1).len
  obtain ⟨c, cq, rfl, k1, k2⟩ := (show IntsAt w v2 _ from h2).len
  rw [castL_len] at g1 k1
  rw [castL_len] at h1
  rw [castL_len] at h2
  rw [castL_len, castL_len]
  have HC := Lib.hid (fun V (hV : Below w.heap.size w V) => compare_any (.slice a (N3.toG n).length cp) (.slice c (N3.toG m).length cq) n m V (h1.below hV) (h2.below hV) (by omega))
  have HM := Lib.hid (fun (hle : m ≤ n) V (hV : Below w.heap.size w V) => minus_any (.slice a (N3.toG n).length cp) (.slice c (N3.toG m).length cq) n m V (h1.below hV) (h2.below hV) (by omega) hle)
  have HM2 := Lib.hid (fun (hle : n ≤ m) V (hV : Below w.heap.size w V) => minus_any (.slice c (N3.toG m).length cq) (.slice a (N3.toG n).length cp) m n V (h2.below hV) (h1.below hV) (by omega) hle)
  have HA := Lib.hid (fun V (hV : Below w.heap.size w V) => plus_any (.slice a (N3.toG n).length cp) (.slice c (N3.toG m).length cq) n m V (h1.below hV) (h2.below hV) (by omega) (by omega))
  obtain ⟨W0, hW0⟩ : ∃ W0, ((w.alloc (.cells #[.bool b1, .slice a (N3.toG n).length cp] 90)).alloc (.cells #[.bool b2, .slice c (N3.toG m).length cq] 90)).alloc (.cells #[.bool false, .slice none 0 0] 90) = W0 := ⟨_, rfl⟩
  have hB0 : Below w.heap.size w W0 := by rw [← hW0]; exact (((Below.refl _ _).alloc (Nat.le_refl _) _).alloc (by simp) _).alloc (by simp; omega) _
  have hb1 : BlkT W0 w.heap.size #[.bool b1, .slice a (N3.toG n).length cp] 90 := by rw [← hW0]; exact ((BlkT.newAt _ _ _ rfl).alloc _).alloc _
  have hb2 : BlkT W0 (w.heap.size + 1) #[.bool b2, .slice c (N3.toG m).length cq] 90 := by rw [← hW0]; exact (BlkT.newAt _ _ _ (by simp)).alloc _
  have hb3 : BlkT W0 (w.heap.size + 1 + 1) #[.bool false, .slice none 0 0] 90 := by rw [← hW0]; exact BlkT.newAt _ _ _ (by simp)
  have e1 := hb1.cell 0
  have e2 := hb1.cell 1
  have e3 := hb2.cell 0
  have e4 := hb2.cell 1
  simp at e1 e2 e3 e4
  have fin : ∀ (W4 : World) (b : Bool) (a4 : Option Addr) (k c4 : Nat), Below w.heap.size w W4 → BlkT W4 (w.heap.size + 1 + 1) #[.bool false, .slice none 0 0] 90 → NumAt W4 (.slice a4 (castL (N3.toG k)).length c4) k →
      BlkT ((W4.setCell ⟨w.heap.size + 1 + 1, 0, none⟩ (.bool b)).setCell ⟨w.heap.size + 1 + 1, 1, none⟩ (.slice a4 (castL (N3.toG k)).length c4)) (w.heap.size + 1 + 1) #[.bool b, .slice a4 (castL (N3.toG k)).length c4] 90 ∧
      NumAt ((W4.setCell ⟨w.heap.size + 1 + 1, 0, none⟩ (.bool b)).setCell ⟨w.heap.size + 1 + 1, 1, none⟩ (.slice a4 (castL (N3.toG k)).length c4)) (.slice a4 (castL (N3.toG k)).length c4) k ∧
      Below w.heap.size w ((W4.setCell ⟨w.heap.size + 1 + 1, 0, none⟩ (.bool b)).setCell ⟨w.heap.size + 1 + 1, 1, none⟩ (.slice a4 (castL (N3.toG k)).length c4)) := by
    intro W4 b a4 k c4 hB hq hn
    refine ⟨by simpa using (hq.set 0 (.bool b)).set 1 (.slice a4 (castL (N3.toG k)).length c4), IntsAt.setSlot (IntsAt.setSlot hn hq (i := 0) (by simp) _) (hq.set 0 (.bool b)) (i := 1) (by simp) _, (hB.setCell (by dsimp only; omega) _).setCell (by dsimp only; omega) _⟩
  by_cases hb : b1 = b2
  · subst hb
    have HS := Lib.hid (N3.sgn_add_same b1 n m)
    go_enter Tryz.func85, Tryz.ntmps85
    go_wp2_with fail
    refine wp_region_E (S := (fun w' => Below W0.heap.size W0 w' ∧ w'.cell? ⟨w.heap.size, 0, none⟩ = some (.bool b1) ∧ w'.cell? ⟨w.heap.size, 1, none⟩ = some (.slice a (N3.toG n).length cp) ∧ w'.cell? ⟨w.heap.size + 1, 1, none⟩ = some (.slice c (N3.toG m).length cq))) 8 (by kernel_rfl) ⟨(Below.refl _ _).drew, e1, e2, e4⟩ (fun hHeld => ?_)
    refine wpE_take (i := 0) (oi := { dst := some 11, op := Op.fieldAddr 90 (Operand.tmp 2) 0, type := 0, pos := "integer.go:174", after := #[], guard := none }) (v := ?_) rfl (by kernel_rfl) (by kernel_rfl) (by kernel_rfl) (by kernel_rfl) (fun _ _ _ h => h) (Or.inl ⟨by kernel_rfl, ?_⟩) (by assumption) ?_
    rotate_left
    · intro w hSw
      (try dsimp only at hSw)
      go_simp
      all_goals (with_reducible rfl)
    (try simp only [Act.put, List.setIfInBounds_toArray, List.set_cons_zero, List.set_cons_succ])
    refine wpE_take (i := 1) (oi := { dst := some 12, op := Op.load 4 (Operand.tmp 11), type := 4, pos := "integer.go:174", after := #[{ on := 0, ground := Ground.data }], guard := none }) (v := ?_) rfl (by kernel_rfl) (by kernel_rfl) (by kernel_rfl) (by kernel_rfl) (fun _ _ _ h => h) (Or.inl ⟨by kernel_rfl, ?_⟩) (by assumption) ?_
    rotate_left
    · intro w hSw
      (try dsimp only at hSw)
      go_simp
      all_goals (with_reducible rfl)
    (try simp only [Act.put, List.setIfInBounds_toArray, List.set_cons_zero, List.set_cons_succ])
    refine wpE_take (i := 2) (oi := { dst := some 13, op := Op.fieldAddr 90 (Operand.tmp 2) 1, type := 0, pos := "integer.go:174", after := #[], guard := none }) (v := ?_) rfl (by kernel_rfl) (by kernel_rfl) (by kernel_rfl) (by kernel_rfl) (fun _ _ _ h => h) (Or.inl ⟨by kernel_rfl, ?_⟩) (by assumption) ?_
    rotate_left
    · intro w hSw
      (try dsimp only at hSw)
      go_simp
      all_goals (with_reducible rfl)
    (try simp only [Act.put, List.setIfInBounds_toArray, List.set_cons_zero, List.set_cons_succ])
    refine wpE_take (i := 3) (oi := { dst := some 14, op := Op.load 88 (Operand.tmp 13), type := 88, pos := "integer.go:174", after := #[{ on := 2, ground := Ground.data }], guard := none }) (v := ?_) rfl (by kernel_rfl) (by kernel_rfl) (by kernel_rfl) (by kernel_rfl) (fun _ _ _ h => h) (Or.inl ⟨by kernel_rfl, ?_⟩) (by assumption) ?_
    rotate_left
    · intro w hSw
      (try dsimp only at hSw)
      go_simp
      all_goals (with_reducible rfl)
    (try simp only [Act.put, List.setIfInBounds_toArray, List.set_cons_zero, List.set_cons_succ])
    refine wpE_take (i := 4) (oi := { dst := some 15, op := Op.fieldAddr 90 (Operand.tmp 3) 1, type := 0, pos := "integer.go:174", after := #[], guard := none }) (v := ?_) rfl (by kernel_rfl) (by kernel_rfl) (by kernel_rfl) (by kernel_rfl) (fun _ _ _ h => h) (Or.inl ⟨by kernel_rfl, ?_⟩) (by assumption) ?_
    rotate_left
    · intro w hSw
      (try dsimp only at hSw)
      go_simp
      all_goals (with_reducible rfl)
    (try simp only [Act.put, List.setIfInBounds_toArray, List.set_cons_zero, List.set_cons_succ])
    refine wpE_take (i := 5) (oi := { dst := some 16, op := Op.load 88 (Operand.tmp 15), type := 88, pos := "integer.go:174", after := #[{ on := 4, ground := Ground.data }], guard := none }) (v := ?_) rfl (by kernel_rfl) (by kernel_rfl) (by kernel_rfl) (by kernel_rfl) (fun _ _ _ h => h) (Or.inl ⟨by kernel_rfl, ?_⟩) (by assumption) ?_
    rotate_left
    · intro w hSw
      (try dsimp only at hSw)
      go_simp
      all_goals (with_reducible rfl)
    (try simp only [Act.put, List.setIfInBounds_toArray, List.set_cons_zero, List.set_cons_succ])
    refine wpE_one (i := 6) (o := { dst := some 17, op := Op.call { callee := Callee.value (Operand.func 89), args := #[Operand.tmp 14, Operand.tmp 16], argTypes := #[88, 88] }, type := 88, pos := "integer.go:174", after := #[{ on := 3, ground := Ground.data }, { on := 5, ground := Ground.data }], guard := none }) (by kernel_rfl) rfl (fun K hK => ?_)
    go_simp
    go_at_call 89
    refine (HA.out _ (hB0.trans (hHeld.1.mono hB0.size))).mono ?_
    rintro e w4 ⟨v4, rfl, hn4, hBx⟩
    obtain ⟨a4, c4, rfl, q41, q42⟩ := (show IntsAt _ v4 _ from hn4).len
    refine hK.out _ _ (fun _ => ?_) (fun hHeld2 => ?_)
    · exact keep_S3 hHeld hBx
    clear hHeld
    have hHeld := hHeld2 (by decide)
    clear hHeld2
    clear hK K
    (try simp only [Act.put, List.setIfInBounds_toArray, List.set_cons_zero, List.set_cons_succ])
    refine wpE_take (i := 7) (oi := { dst := some 18, op := Op.build 90 #[(0, Operand.tmp 12), (1, Operand.tmp 17)], type := 90, pos := "integer.go:174", after := #[{ on := 1, ground := Ground.data }, { on := 6, ground := Ground.data }], guard := none }) (v := ?_) rfl (by kernel_rfl) (by kernel_rfl) (by kernel_rfl) (by kernel_rfl) (fun _ _ _ h => h) (Or.inl ⟨by kernel_rfl, ?_⟩) (by assumption) ?_
    rotate_left
    · intro w hSw
      (try dsimp only at hSw)
      go_simp
      all_goals (with_reducible rfl)
    (try simp only [Act.put, List.setIfInBounds_toArray, List.set_cons_zero, List.set_cons_succ])
    refine wpE_one (i := 8) (o := { dst := none, op := Op.store 90 (Operand.tmp 4) (Operand.tmp 18), type := 0, pos := "integer.go:174", after := #[{ on := 7, ground := Ground.data }, { on := 6, ground := Ground.chain }, { on := 0, ground := Ground.phase }, { on := 1, ground := Ground.phase }, { on := 2, ground := Ground.phase }, { on := 3, ground := Ground.phase }, { on := 4, ground := Ground.phase }, { on := 5, ground := Ground.phase }, { on := 6, ground := Ground.phase }, { on := 7, ground := Ground.phase }], guard := none }) (by kernel_rfl) rfl (fun K hK => ?_)
    have hq := hb3.below hHeld.1 (hb3.lt)
    have hcs0 := hq.cell 0
    have hcs1 := hq.cell 1
    have hfs0 := hq.frozen 0
    have hfs1 := hq.frozen 1
    simp at hcs0 hcs1
    have hHeldB := hHeld.1
    go_simp
    refine hK.out _ _ (fun h => absurd rfl h) (fun _ => ?_)
    clear hK K
    (try simp only [Act.put, List.setIfInBounds_toArray, List.set_cons_zero, List.set_cons_succ])
    refine wpE_done (by kernel_rfl) ?_ _
    refine NoPanic.normal ?_
    have HF := Lib.hid (fin _ b1 a4 (n + m) c4 (hB0.trans (hHeldB.mono hB0.size)) hq hn4)
    generalize hWF : World.setCell _ _ _ = WF at HF ⊢
    obtain ⟨f1, f2, f3⟩ := HF.out
    have r1 := f1.cell 0
    have r2 := f1.cell 1
    simp at r1 r2
    clear hWF
    go_wp2
    refine bodyPost_ret (v := .agg #[.bool b1, .slice a4 (castL (N3.toG (n + m))).length c4]) (by simp [results, Tryz.results85, go_sem, r1, r2]) rfl ?_
    exact ⟨_, _, _, rfl, f2, HS.out.symm, f3⟩
  · have hbq : (b1 == b2) = false := beq_eq_false_iff_ne.2 hb
    have hbq2 : (decide (b1 = b2)) = false := decide_eq_false hb
    have HB := Lib.hid hb
    have hsz0 := hB0.size
    rcases Nat.lt_or_ge n m with hle | hle
    · have hc : N3.cmpI (n : Int) (m : Int) = -1 := N3.cmpI_cast_lt hle
      have HCC := Lib.hid (fun V hV => by have := HC.out V hV; rw [hc] at this; exact this)
      have HS := Lib.hid (N3.sgn_add_lt hb hle)
      have HLE := Lib.hid hle
      clear hb hc hle
      go_enter Tryz.func85, Tryz.ntmps85
      go_wp2_with fail
      refine (HCC.out _ hB0).mono ?_
      rintro e W1 ⟨rfl, hB1⟩
      have u1 := hb1.below (hB1.mono (Nat.le_refl _)) (hb1.lt)
      have u2 := hb2.below (hB1.mono (Nat.le_refl _)) (hb2.lt)
      have u3 := hb3.below (hB1.mono (Nat.le_refl _)) (hb3.lt)
      have e1 := u1.cell 0
      have e2 := u1.cell 1
      have e3 := u2.cell 0
      have e4 := u2.cell 1
      simp at e1 e2 e3 e4
      have hBW := hB0.trans (hB1.mono hB0.size)
      go_wp2_with fail
      refine wp_region_E (S := (fun w' => Below W1.heap.size W1 w' ∧ w'.cell? ⟨w.heap.size + 1, 0, none⟩ = some (.bool b2) ∧ w'.cell? ⟨w.heap.size, 1, none⟩ = some (.slice a (N3.toG n).length cp) ∧ w'.cell? ⟨w.heap.size + 1, 1, none⟩ = some (.slice c (N3.toG m).length cq))) 8 (by kernel_rfl) ⟨(Below.refl _ _).drew, e3, e2, e4⟩ (fun hHeld => ?_)
      refine wpE_take (i := 0) (oi := { dst := some 34, op := Op.fieldAddr 90 (Operand.tmp 3) 0, type := 0, pos := "integer.go:178", after := #[], guard := none }) (v := ?_) rfl (by kernel_rfl) (by kernel_rfl) (by kernel_rfl) (by kernel_rfl) (fun _ _ _ h => h) (Or.inl ⟨by kernel_rfl, ?_⟩) (by assumption) ?_
      rotate_left
      · intro w hSw
        (try dsimp only at hSw)
        go_simp
        all_goals (with_reducible rfl)
      (try simp only [Act.put, List.setIfInBounds_toArray, List.set_cons_zero, List.set_cons_succ])
      refine wpE_take (i := 1) (oi := { dst := some 35, op := Op.load 4 (Operand.tmp 34), type := 4, pos := "integer.go:178", after := #[{ on := 0, ground := Ground.data }], guard := none }) (v := ?_) rfl (by kernel_rfl) (by kernel_rfl) (by kernel_rfl) (by kernel_rfl) (fun _ _ _ h => h) (Or.inl ⟨by kernel_rfl, ?_⟩) (by assumption) ?_
      rotate_left
      · intro w hSw
        (try dsimp only at hSw)
        go_simp
        all_goals (with_reducible rfl)
      (try simp only [Act.put, List.setIfInBounds_toArray, List.set_cons_zero, List.set_cons_succ])
      refine wpE_take (i := 2) (oi := { dst := some 36, op := Op.fieldAddr 90 (Operand.tmp 3) 1, type := 0, pos := "integer.go:178", after := #[], guard := none }) (v := ?_) rfl (by kernel_rfl) (by kernel_rfl) (by kernel_rfl) (by kernel_rfl) (fun _ _ _ h => h) (Or.inl ⟨by kernel_rfl, ?_⟩) (by assumption) ?_
      rotate_left
      · intro w hSw
        (try dsimp only at hSw)
        go_simp
        all_goals (with_reducible rfl)
      (try simp only [Act.put, List.setIfInBounds_toArray, List.set_cons_zero, List.set_cons_succ])
      refine wpE_take (i := 3) (oi := { dst := some 37, op := Op.load 88 (Operand.tmp 36), type := 88, pos := "integer.go:178", after := #[{ on := 2, ground := Ground.data }], guard := none }) (v := ?_) rfl (by kernel_rfl) (by kernel_rfl) (by kernel_rfl) (by kernel_rfl) (fun _ _ _ h => h) (Or.inl ⟨by kernel_rfl, ?_⟩) (by assumption) ?_
      rotate_left
      · intro w hSw
        (try dsimp only at hSw)
        go_simp
        all_goals (with_reducible rfl)
      (try simp only [Act.put, List.setIfInBounds_toArray, List.set_cons_zero, List.set_cons_succ])
      refine wpE_take (i := 4) (oi := { dst := some 38, op := Op.fieldAddr 90 (Operand.tmp 2) 1, type := 0, pos := "integer.go:178", after := #[], guard := none }) (v := ?_) rfl (by kernel_rfl) (by kernel_rfl) (by kernel_rfl) (by kernel_rfl) (fun _ _ _ h => h) (Or.inl ⟨by kernel_rfl, ?_⟩) (by assumption) ?_
      rotate_left
      · intro w hSw
        (try dsimp only at hSw)
        go_simp
        all_goals (with_reducible rfl)
      (try simp only [Act.put, List.setIfInBounds_toArray, List.set_cons_zero, List.set_cons_succ])
      refine wpE_take (i := 5) (oi := { dst := some 39, op := Op.load 88 (Operand.tmp 38), type := 88, pos := "integer.go:178", after := #[{ on := 4, ground := Ground.data }], guard := none }) (v := ?_) rfl (by kernel_rfl) (by kernel_rfl) (by kernel_rfl) (by kernel_rfl) (fun _ _ _ h => h) (Or.inl ⟨by kernel_rfl, ?_⟩) (by assumption) ?_
      rotate_left
      · intro w hSw
        (try dsimp only at hSw)
        go_simp
        all_goals (with_reducible rfl)
      (try simp only [Act.put, List.setIfInBounds_toArray, List.set_cons_zero, List.set_cons_succ])
      refine wpE_one (i := 6) (o := { dst := some 40, op := Op.call { callee := Callee.value (Operand.func 91), args := #[Operand.tmp 37, Operand.tmp 39], argTypes := #[88, 88] }, type := 88, pos := "integer.go:178", after := #[{ on := 3, ground := Ground.data }, { on := 5, ground := Ground.data }], guard := none }) (by kernel_rfl) rfl (fun K hK => ?_)
      go_simp
      go_at_call 91
      refine (HM2.out (Nat.le_of_lt HLE.out) _ (hBW.trans (hHeld.1.mono hBW.size))).mono ?_
      rintro e w4 ⟨v4, rfl, hn4, hBx⟩
      obtain ⟨a4, c4, rfl, q41, q42⟩ := (show IntsAt _ v4 _ from hn4).len
      refine hK.out _ _ (fun _ => ?_) (fun hHeld2 => ?_)
      · exact keep_S3 hHeld hBx
      clear hHeld
      have hHeld := hHeld2 (by decide)
      clear hHeld2
      clear hK K
      (try simp only [Act.put, List.setIfInBounds_toArray, List.set_cons_zero, List.set_cons_succ])
      refine wpE_take (i := 7) (oi := { dst := some 41, op := Op.build 90 #[(0, Operand.tmp 35), (1, Operand.tmp 40)], type := 90, pos := "integer.go:178", after := #[{ on := 1, ground := Ground.data }, { on := 6, ground := Ground.data }], guard := none }) (v := ?_) rfl (by kernel_rfl) (by kernel_rfl) (by kernel_rfl) (by kernel_rfl) (fun _ _ _ h => h) (Or.inl ⟨by kernel_rfl, ?_⟩) (by assumption) ?_
      rotate_left
      · intro w hSw
        (try dsimp only at hSw)
        go_simp
        all_goals (with_reducible rfl)
      (try simp only [Act.put, List.setIfInBounds_toArray, List.set_cons_zero, List.set_cons_succ])
      refine wpE_one (i := 8) (o := { dst := none, op := Op.store 90 (Operand.tmp 4) (Operand.tmp 41), type := 0, pos := "integer.go:178", after := #[{ on := 7, ground := Ground.data }, { on := 6, ground := Ground.chain }, { on := 0, ground := Ground.phase }, { on := 1, ground := Ground.phase }, { on := 2, ground := Ground.phase }, { on := 3, ground := Ground.phase }, { on := 4, ground := Ground.phase }, { on := 5, ground := Ground.phase }, { on := 6, ground := Ground.phase }, { on := 7, ground := Ground.phase }], guard := none }) (by kernel_rfl) rfl (fun K hK => ?_)
      have hq := u3.below hHeld.1 (u3.lt)
      have hcs0 := hq.cell 0
      have hcs1 := hq.cell 1
      have hfs0 := hq.frozen 0
      have hfs1 := hq.frozen 1
      simp at hcs0 hcs1
      have hHeldB := hHeld.1
      go_simp
      refine hK.out _ _ (fun h => absurd rfl h) (fun _ => ?_)
      clear hK K
      (try simp only [Act.put, List.setIfInBounds_toArray, List.set_cons_zero, List.set_cons_succ])
      refine wpE_done (by kernel_rfl) ?_ _
      refine NoPanic.normal ?_
      have HF := Lib.hid (fin _ b2 a4 (m - n) c4 (hBW.trans (hHeldB.mono hBW.size)) hq hn4)
      generalize hWF : World.setCell _ _ _ = WF at HF ⊢
      obtain ⟨f1, f2, f3⟩ := HF.out
      have r1 := f1.cell 0
      have r2 := f1.cell 1
      simp at r1 r2
      clear hWF
      go_wp2
      refine bodyPost_ret (v := .agg #[.bool b2, .slice a4 (castL (N3.toG (m - n))).length c4]) (by simp [results, Tryz.results85, go_sem, r1, r2]) rfl ?_
      exact ⟨_, _, _, rfl, f2, HS.out.symm, f3⟩
    · have hc : 0 ≤ N3.cmpI (n : Int) (m : Int) := by unfold N3.cmpI; rw [if_neg (by omega)]; split <;> omega
      have hc2 : ¬ N3.cmpI (n : Int) (m : Int) < 0 := by omega
      have hc3 : decide (0 ≤ N3.cmpI (n : Int) (m : Int)) = true := decide_eq_true hc
      have HS := Lib.hid (N3.sgn_add_ge hb hle)
      have HLE := Lib.hid hle
      clear hb hle
      generalize N3.cmpI (n : Int) (m : Int) = cc at HC hc hc2 hc3
      go_enter Tryz.func85, Tryz.ntmps85
      go_wp2_with fail
      refine (HC.out _ hB0).mono ?_
      rintro e W1 ⟨rfl, hB1⟩
      have u1 := hb1.below (hB1.mono (Nat.le_refl _)) (hb1.lt)
      have u2 := hb2.below (hB1.mono (Nat.le_refl _)) (hb2.lt)
      have u3 := hb3.below (hB1.mono (Nat.le_refl _)) (hb3.lt)
      have e1 := u1.cell 0
      have e2 := u1.cell 1
      have e3 := u2.cell 0
      have e4 := u2.cell 1
      simp at e1 e2 e3 e4
      have hBW := hB0.trans (hB1.mono hB0.size)
      go_wp2_with fail
      refine wp_region_E (S := (fun w' => Below W1.heap.size W1 w' ∧ w'.cell? ⟨w.heap.size, 0, none⟩ = some (.bool b1) ∧ w'.cell? ⟨w.heap.size, 1, none⟩ = some (.slice a (N3.toG n).length cp) ∧ w'.cell? ⟨w.heap.size + 1, 1, none⟩ = some (.slice c (N3.toG m).length cq))) 8 (by kernel_rfl) ⟨(Below.refl _ _).drew, e1, e2, e4⟩ (fun hHeld => ?_)
      refine wpE_take (i := 0) (oi := { dst := some 26, op := Op.fieldAddr 90 (Operand.tmp 2) 0, type := 0, pos := "integer.go:176", after := #[], guard := none }) (v := ?_) rfl (by kernel_rfl) (by kernel_rfl) (by kernel_rfl) (by kernel_rfl) (fun _ _ _ h => h) (Or.inl ⟨by kernel_rfl, ?_⟩) (by assumption) ?_
      rotate_left
      · intro w hSw
        (try dsimp only at hSw)
        go_simp
        all_goals (with_reducible rfl)
      (try simp only [Act.put, List.setIfInBounds_toArray, List.set_cons_zero, List.set_cons_succ])
      refine wpE_take (i := 1) (oi := { dst := some 27, op := Op.load 4 (Operand.tmp 26), type := 4, pos := "integer.go:176", after := #[{ on := 0, ground := Ground.data }], guard := none }) (v := ?_) rfl (by kernel_rfl) (by kernel_rfl) (by kernel_rfl) (by kernel_rfl) (fun _ _ _ h => h) (Or.inl ⟨by kernel_rfl, ?_⟩) (by assumption) ?_
      rotate_left
      · intro w hSw
        (try dsimp only at hSw)
        go_simp
        all_goals (with_reducible rfl)
      (try simp only [Act.put, List.setIfInBounds_toArray, List.set_cons_zero, List.set_cons_succ])
      refine wpE_take (i := 2) (oi := { dst := some 28, op := Op.fieldAddr 90 (Operand.tmp 2) 1, type := 0, pos := "integer.go:176", after := #[], guard := none }) (v := ?_) rfl (by kernel_rfl) (by kernel_rfl) (by kernel_rfl) (by kernel_rfl) (fun _ _ _ h => h) (Or.inl ⟨by kernel_rfl, ?_⟩) (by assumption) ?_
      rotate_left
      · intro w hSw
        (try dsimp only at hSw)
        go_simp
        all_goals (with_reducible rfl)
      (try simp only [Act.put, List.setIfInBounds_toArray, List.set_cons_zero, List.set_cons_succ])
      refine wpE_take (i := 3) (oi := { dst := some 29, op := Op.load 88 (Operand.tmp 28), type := 88, pos := "integer.go:176", after := #[{ on := 2, ground := Ground.data }], guard := none }) (v := ?_) rfl (by kernel_rfl) (by kernel_rfl) (by kernel_rfl) (by kernel_rfl) (fun _ _ _ h => h) (Or.inl ⟨by kernel_rfl, ?_⟩) (by assumption) ?_
      rotate_left
      · intro w hSw
        (try dsimp only at hSw)
        go_simp
        all_goals (with_reducible rfl)
      (try simp only [Act.put, List.setIfInBounds_toArray, List.set_cons_zero, List.set_cons_succ])
      refine wpE_take (i := 4) (oi := { dst := some 30, op := Op.fieldAddr 90 (Operand.tmp 3) 1, type := 0, pos := "integer.go:176", after := #[], guard := none }) (v := ?_) rfl (by kernel_rfl) (by kernel_rfl) (by kernel_rfl) (by kernel_rfl) (fun _ _ _ h => h) (Or.inl ⟨by kernel_rfl, ?_⟩) (by assumption) ?_
      rotate_left
      · intro w hSw
        (try dsimp only at hSw)
        go_simp
        all_goals (with_reducible rfl)
      (try simp only [Act.put, List.setIfInBounds_toArray, List.set_cons_zero, List.set_cons_succ])
      refine wpE_take (i := 5) (oi := { dst := some 31, op := Op.load 88 (Operand.tmp 30), type := 88, pos := "integer.go:176", after := #[{ on := 4, ground := Ground.data }], guard := none }) (v := ?_) rfl (by kernel_rfl) (by kernel_rfl) (by kernel_rfl) (by kernel_rfl) (fun _ _ _ h => h) (Or.inl ⟨by kernel_rfl, ?_⟩) (by assumption) ?_
      rotate_left
      · intro w hSw
        (try dsimp only at hSw)
        go_simp
        all_goals (with_reducible rfl)
      (try simp only [Act.put, List.setIfInBounds_toArray, List.set_cons_zero, List.set_cons_succ])
      refine wpE_one (i := 6) (o := { dst := some 32, op := Op.call { callee := Callee.value (Operand.func 91), args := #[Operand.tmp 29, Operand.tmp 31], argTypes := #[88, 88] }, type := 88, pos := "integer.go:176", after := #[{ on := 3, ground := Ground.data }, { on := 5, ground := Ground.data }], guard := none }) (by kernel_rfl) rfl (fun K hK => ?_)
      go_simp
      go_at_call 91
      refine (HM.out HLE.out _ (hBW.trans (hHeld.1.mono hBW.size))).mono ?_
      rintro e w4 ⟨v4, rfl, hn4, hBx⟩
      obtain ⟨a4, c4, rfl, q41, q42⟩ := (show IntsAt _ v4 _ from hn4).len
      refine hK.out _ _ (fun _ => ?_) (fun hHeld2 => ?_)
      · exact keep_S3 hHeld hBx
      clear hHeld
      have hHeld := hHeld2 (by decide)
      clear hHeld2
      clear hK K
      (try simp only [Act.put, List.setIfInBounds_toArray, List.set_cons_zero, List.set_cons_succ])
      refine wpE_take (i := 7) (oi := { dst := some 33, op := Op.build 90 #[(0, Operand.tmp 27), (1, Operand.tmp 32)], type := 90, pos := "integer.go:176", after := #[{ on := 1, ground := Ground.data }, { on := 6, ground := Ground.data }], guard := none }) (v := ?_) rfl (by kernel_rfl) (by kernel_rfl) (by kernel_rfl) (by kernel_rfl) (fun _ _ _ h => h) (Or.inl ⟨by kernel_rfl, ?_⟩) (by assumption) ?_
      rotate_left
      · intro w hSw
        (try dsimp only at hSw)
        go_simp
        all_goals (with_reducible rfl)
      (try simp only [Act.put, List.setIfInBounds_toArray, List.set_cons_zero, List.set_cons_succ])
      refine wpE_one (i := 8) (o := { dst := none, op := Op.store 90 (Operand.tmp 4) (Operand.tmp 33), type := 0, pos := "integer.go:176", after := #[{ on := 7, ground := Ground.data }, { on := 6, ground := Ground.chain }, { on := 0, ground := Ground.phase }, { on := 1, ground := Ground.phase }, { on := 2, ground := Ground.phase }, { on := 3, ground := Ground.phase }, { on := 4, ground := Ground.phase }, { on := 5, ground := Ground.phase }, { on := 6, ground := Ground.phase }, { on := 7, ground := Ground.phase }], guard := none }) (by kernel_rfl) rfl (fun K hK => ?_)
      have hq := u3.below hHeld.1 (u3.lt)
      have hcs0 := hq.cell 0
      have hcs1 := hq.cell 1
      have hfs0 := hq.frozen 0
      have hfs1 := hq.frozen 1
      simp at hcs0 hcs1
      have hHeldB := hHeld.1
      go_simp
      refine hK.out _ _ (fun h => absurd rfl h) (fun _ => ?_)
      clear hK K
      (try simp only [Act.put, List.setIfInBounds_toArray, List.set_cons_zero, List.set_cons_succ])
      refine wpE_done (by kernel_rfl) ?_ _
      refine NoPanic.normal ?_
      have HF := Lib.hid (fin _ b1 a4 (n - m) c4 (hBW.trans (hHeldB.mono hBW.size)) hq hn4)
      generalize hWF : World.setCell _ _ _ = WF at HF ⊢
      obtain ⟨f1, f2, f3⟩ := HF.out
      have r1 := f1.cell 0
      have r2 := f1.cell 1
      simp at r1 r2
      clear hWF
      go_wp2
      refine bodyPost_ret (v := .agg #[.bool b1, .slice a4 (castL (N3.toG (n - m))).length c4]) (by simp [results, Tryz.results85, go_sem, r1, r2]) rfl ?_
      exact ⟨_, _, _, rfl, f2, HS.out.symm, f3⟩
end Go.Proofs.YtjnpenljgfdaiaaGreatDoor

/- nadirlaw18: pass, slot, example. -/
import Derived.Test.YtmajkagmcdlncaaE7
namespace Go.Proofs.Ytmajkagmcdlncaa
open Go.RowKit Go.Shelf
open L18 (Pass Slot noPass noSlot)

def exPass (f : Int) : Pass := ⟨0, 0, f, f + 10, f, f + 10⟩
def exSlot (p f : Int) : Slot := ⟨p, f, f + 2⟩
def exL : List Pass := [exPass 10, exPass 100, exPass 1500]
def exO : List Slot := [exSlot 0 10, exSlot 0 14, exSlot 1 100, exSlot 2 1500]
set_option maxRecDepth 100000 in
set_option maxHeartbeats 2000000 in
theorem slot37 (p f : Int) (w : World) (hf : 0 ≤ f ∧ f ≤ 100000) : Calls Try.prog 37 #[.int .i64 p, .int .i64 f] w fun e w' => e = .returned (slotVal (exSlot p f)) ∧ Below w.heap.size w w' := by
  have e1 : IntKind.i64.wrap (f + 2) = f + 2 := wrapS _ (by omega) (by omega)
  go_enter Try.func37, Try.ntmps37
  go_wp2
  refine bodyPost_ret (v := slotVal (exSlot p f)) (by simp [results, Try.results37, go_sem, slotVal, exSlot]) rfl ⟨rfl, ?_⟩
  exact (Below.refl _ _).alloc (Nat.le_refl _) _
set_option maxRecDepth 100000 in
set_option maxHeartbeats 2000000 in
theorem pass60 (f : Int) (w : World) (hf : 0 ≤ f ∧ f ≤ 100000) : Calls Try.prog 60 #[.int .i64 f] w fun e w' => e = .returned (passVal (exPass f)) ∧ Below w.heap.size w w' := by
  have e1 : IntKind.i64.wrap (f + 10) = f + 10 := wrapS _ (by omega) (by omega)
  go_enter Try.func60, Try.ntmps60
  go_wp2
  refine bodyPost_ret (v := passVal (exPass f)) (by simp [results, Try.results60, go_sem, passVal, exPass]) rfl ⟨rfl, ?_⟩
  exact ((Below.refl _ _).alloc (Nat.le_refl _) _).alloc (by simp) _
abbrev exPC : Array Value := #[.int .i64 0, .int .i64 0, .int .i64 10, .int .i64 20, .int .i64 10, .int .i64 20, .int .i64 0, .int .i64 0, .int .i64 100, .int .i64 110, .int .i64 100, .int .i64 110, .int .i64 0, .int .i64 0, .int .i64 1500, .int .i64 1510, .int .i64 1500, .int .i64 1510]
abbrev exSC : Array Value := #[.int .i64 0, .int .i64 10, .int .i64 12, .int .i64 0, .int .i64 14, .int .i64 16, .int .i64 1, .int .i64 100, .int .i64 102, .int .i64 2, .int .i64 1500, .int .i64 1502]
theorem ex_passes {W : World} {B : Nat} (h : Blk W B exPC 30) : PassesAt W (.slice (some ⟨B, 0, none⟩) 3 3) exL :=
  ⟨_, 3, rfl, by decide, by decide, fun _ => ⟨B, 0, rfl, fun j y hj => ⟨passCs y, rfl, fun i c hc => by
    match j, i with
    | 0, i => cases hj; (match i with | 0 | 1 | 2 | 3 | 4 | 5 => cases hc; exact h.cell _ | i + 6 => simp [passCs] at hc)
    | 1, i => cases hj; (match i with | 0 | 1 | 2 | 3 | 4 | 5 => cases hc; exact h.cell _ | i + 6 => simp [passCs] at hc)
    | 2, i => cases hj; (match i with | 0 | 1 | 2 | 3 | 4 | 5 => cases hc; exact h.cell _ | i + 6 => simp [passCs] at hc)
    | j + 3, i => simp [exL] at hj, rfl⟩⟩⟩
theorem ex_slots {W : World} {B : Nat} (h : Blk W B exSC 63) : SlotsAt W (.slice (some ⟨B, 0, none⟩) 4 4) exO :=
  ⟨_, 4, rfl, by decide, by decide, fun _ => ⟨B, 0, rfl, fun j y hj => ⟨slotCs y, rfl, fun i c hc => by
    match j, i with
    | 0, i => cases hj; (match i with | 0 | 1 | 2 => cases hc; exact h.cell _ | i + 3 => simp [slotCs] at hc)
    | 1, i => cases hj; (match i with | 0 | 1 | 2 => cases hc; exact h.cell _ | i + 3 => simp [slotCs] at hc)
    | 2, i => cases hj; (match i with | 0 | 1 | 2 => cases hc; exact h.cell _ | i + 3 => simp [slotCs] at hc)
    | 3, i => cases hj; (match i with | 0 | 1 | 2 => cases hc; exact h.cell _ | i + 3 => simp [slotCs] at hc)
    | j + 4, i => simp [exO] at hj, rfl⟩⟩⟩
theorem fill9 {X : World} {B : Nat} {v : Value} (h : Blk X B #[.int .i64 0, .int .i64 0, .int .i64 0, .int .i64 0, .int .i64 0, .int .i64 0, .int .i64 0, .int .i64 0, v] 28) (u0 u1 u2 u3 u4 u5 u6 u7 u8 : Value) :
    Blk (((((((((X.setCell ⟨B, 0, none⟩ u0).setCell ⟨B, 1, none⟩ u1).setCell ⟨B, 2, none⟩ u2).setCell ⟨B, 3, none⟩ u3).setCell ⟨B, 4, none⟩ u4).setCell ⟨B, 5, none⟩ u5).setCell ⟨B, 6, none⟩ u6).setCell ⟨B, 7, none⟩ u7).setCell ⟨B, 8, none⟩ u8) B #[u0, u1, u2, u3, u4, u5, u6, u7, u8] 28 ∧ (∀ D, D ≤ B → Below D X (((((((((X.setCell ⟨B, 0, none⟩ u0).setCell ⟨B, 1, none⟩ u1).setCell ⟨B, 2, none⟩ u2).setCell ⟨B, 3, none⟩ u3).setCell ⟨B, 4, none⟩ u4).setCell ⟨B, 5, none⟩ u5).setCell ⟨B, 6, none⟩ u6).setCell ⟨B, 7, none⟩ u7).setCell ⟨B, 8, none⟩ u8)) ∧ (∀ b cs t, b ≠ B → Blk X b cs t → Blk (((((((((X.setCell ⟨B, 0, none⟩ u0).setCell ⟨B, 1, none⟩ u1).setCell ⟨B, 2, none⟩ u2).setCell ⟨B, 3, none⟩ u3).setCell ⟨B, 4, none⟩ u4).setCell ⟨B, 5, none⟩ u5).setCell ⟨B, 6, none⟩ u6).setCell ⟨B, 7, none⟩ u7).setCell ⟨B, 8, none⟩ u8) b cs t) := by
  refine ⟨?_, ?_, ?_⟩
  · have := ((((((((h.set 0 u0).set 1 u1).set 2 u2).set 3 u3).set 4 u4).set 5 u5).set 6 u6).set 7 u7).set 8 u8
    simpa using this
  · intro D hD
    exact (((((((((Below.refl _ _).setCell hD _).setCell hD _).setCell hD _).setCell hD _).setCell hD _).setCell hD _).setCell hD _).setCell hD _).setCell hD _
  · intro b cs t hb hk
    exact ((((((((hk.other _ hb).other _ hb).other _ hb).other _ hb).other _ hb).other _ hb).other _ hb).other _ hb).other _ hb
set_option maxRecDepth 100000 in
set_option maxHeartbeats 2000000 in
theorem example36 (w : World) : Calls Try.prog 36 #[] w fun e w' => (∃ v1 v2, e = .returned (.tuple #[v1, v2]) ∧ PassesAt w' v1 exL ∧ OptV w' v2 ⟨⟨0, 0, 0, 0, 0, 0, 0, 0⟩, exO⟩) ∧ Below w.heap.size w w' := by
  go_enter Try.func36, Try.ntmps36
  go_upto_region 1 with (fail)
  obtain ⟨V, hV⟩ : ∃ V, V = w.alloc (.cells oZ 28) := ⟨_, rfl⟩
  have hB0 : Below w.heap.size w V := by rw [hV]; exact (Below.refl _ _).alloc (Nat.le_refl _) _
  have kV : Blk V w.heap.size oZ 28 := by rw [hV]; exact Blk.new _ _ _
  rw [← hV]
  clear hV
  go_wp2_with fail
  refine (pass60 10 _ (by omega)).mono ?_
  rintro e w1 ⟨rfl, b1⟩
  have k1 := kV.below b1 kV.lt
  have b1 := hB0.trans (b1.mono hB0.size)
  clear kV hB0
  go_wp2_with fail
  refine (pass60 100 _ (by omega)).mono ?_
  rintro e w2 ⟨rfl, b2⟩
  have k2 := k1.below b2 k1.lt
  have b2 := b1.trans (b2.mono b1.size)
  clear k1 b1
  go_wp2_with fail
  refine (pass60 1500 _ (by omega)).mono ?_
  rintro e w3 ⟨rfl, b3⟩
  have k3 := k2.below b3 k2.lt
  have b3 := b2.trans (b3.mono b2.size)
  clear k2 b2
  unfold passVal
  dsimp only [exPass]
  obtain ⟨W3, hW3⟩ : ∃ W3, W3 = w3.alloc (.cells #[.int .i64 0, .int .i64 0, .int .i64 10, .int .i64 20, .int .i64 10, .int .i64 20, .int .i64 0, .int .i64 0, .int .i64 100, .int .i64 110, .int .i64 100, .int .i64 110, .int .i64 0, .int .i64 0, .int .i64 1500, .int .i64 1510, .int .i64 1500, .int .i64 1510] 30) := ⟨_, rfl⟩
  have kP3 : Blk W3 w3.heap.size #[.int .i64 0, .int .i64 0, .int .i64 10, .int .i64 20, .int .i64 10, .int .i64 20, .int .i64 0, .int .i64 0, .int .i64 100, .int .i64 110, .int .i64 100, .int .i64 110, .int .i64 0, .int .i64 0, .int .i64 1500, .int .i64 1510, .int .i64 1500, .int .i64 1510] 30 := by rw [hW3]; exact Blk.new _ _ _
  have lP : w3.heap.size ≠ w.heap.size := by have := k3.lt; omega
  have bW : Below w.heap.size w W3 := by rw [hW3]; exact b3.alloc b3.size _
  have k3 : Blk W3 w.heap.size oZ 28 := by rw [hW3]; exact k3.alloc _
  go_wp2_with fail
  rw [← hW3]
  clear hW3 b3
  refine (slot37 0 10 _ (by omega)).mono ?_
  rintro e w4 ⟨rfl, b4⟩
  have kP4 := kP3.below b4 kP3.lt
  have k4 := k3.below b4 k3.lt
  have b4 := bW.trans (b4.mono bW.size)
  clear k3 bW kP3
  go_wp2_with fail
  refine (slot37 0 14 _ (by omega)).mono ?_
  rintro e w5 ⟨rfl, b5⟩
  have kP5 := kP4.below b5 kP4.lt
  have k5 := k4.below b5 k4.lt
  have b5 := b4.trans (b5.mono b4.size)
  clear k4 b4 kP4
  go_wp2_with fail
  refine (slot37 1 100 _ (by omega)).mono ?_
  rintro e w6 ⟨rfl, b6⟩
  have kP6 := kP5.below b6 kP5.lt
  have k6 := k5.below b6 k5.lt
  have b6 := b5.trans (b6.mono b5.size)
  clear k5 b5 kP5
  go_wp2_with fail
  refine (slot37 2 1500 _ (by omega)).mono ?_
  rintro e w7 ⟨rfl, b7⟩
  have kP7 := kP6.below b7 kP6.lt
  have k7 := k6.below b7 k6.lt
  have b7 := b6.trans (b7.mono b6.size)
  clear k6 b6 kP6
  unfold slotVal
  dsimp only [exSlot]
  have z0 := fun o => (k7.alloc o).cell 0
  have z1 := fun o => (k7.alloc o).cell 1
  have z2 := fun o => (k7.alloc o).cell 2
  have z3 := fun o => (k7.alloc o).cell 3
  have z4 := fun o => (k7.alloc o).cell 4
  have z5 := fun o => (k7.alloc o).cell 5
  have z6 := fun o => (k7.alloc o).cell 6
  have z7 := fun o => (k7.alloc o).cell 7
  have z8 := fun o => (k7.alloc o).cell 8
  have fr := fun o => (k7.alloc o).frozen
  simp at z0 z1 z2 z3 z4 z5 z6 z7 z8
  have KP := Lib.hid kP7
  have K7 := Lib.hid k7
  clear k7 kP7
  go_wp2
  have kA := K7.out.alloc (.cells exSC 63)
  obtain ⟨q1, q2, q3⟩ := fill9 kA (.int .i64 0) (.int .i64 0) (.int .i64 0) (.int .i64 0) (.int .i64 0) (.int .i64 0) (.int .i64 0) (.int .i64 0) (.slice (some ⟨w7.heap.size, 0, none⟩) 4 4)
  have qP := q3 _ _ _ lP (KP.out.alloc _)
  have qS := q3 _ _ _ (by have := K7.out.lt; omega) (Blk.new w7 exSC 63)
  have qB := b7.trans (((Below.refl _ _).alloc b7.size _).trans (q2 _ (Nat.le_refl _)))
  have c0 := q1.cell 0
  have c1 := q1.cell 1
  have c2 := q1.cell 2
  have c3 := q1.cell 3
  have c4 := q1.cell 4
  have c5 := q1.cell 5
  have c6 := q1.cell 6
  have c7 := q1.cell 7
  have c8 := q1.cell 8
  simp only [List.getElem?_toArray, List.getElem?_cons_zero, List.getElem?_cons_succ] at c0 c1 c2 c3 c4 c5 c6 c7 c8
  clear kA q1 q2 q3 z0 z1 z2 z3 z4 z5 z6 z7 z8 fr
  revert qP qS qB c0 c1 c2 c3 c4 c5 c6 c7 c8
  generalize (World.setCell _ ⟨w.heap.size, 8, none⟩ _) = Y
  intro qP qS qB c0 c1 c2 c3 c4 c5 c6 c7 c8
  exact bodyPost_ret (v := .tuple #[.slice (some ⟨w3.heap.size, 0, none⟩) 3 3, .agg #[.int .i64 0, .int .i64 0, .int .i64 0, .int .i64 0, .int .i64 0, .int .i64 0, .int .i64 0, .int .i64 0, .slice (some ⟨w7.heap.size, 0, none⟩) 4 4]]) (by simp [results, Try.results36, go_sem, c0, c1, c2, c3, c4, c5, c6, c7, c8]) rfl ⟨⟨_, _, rfl, ex_passes qP, _, rfl, ex_slots qS⟩, qB⟩
end Go.Proofs.Ytmajkagmcdlncaa

/- A disk and the reference's disk, and what lies beside them: blocks of other types. -/
import Derived.Test.YtnckpnbecmmcpaaGreatDoorMR
import Derived.Test.YtnckpnbecmmcpaaGreatDoorRP
namespace Go.Proofs.YtnckpnbecmmcpaaGreatDoor
open Go.RowKit Go.Shelf Lib
/-- Block k is of a type that no disk has. -/
def Oth (W : World) (k : Nat) : Prop := ∃ cs t, Blk W k cs t ∧ t ≠ 97 ∧ t ≠ 5 ∧ t ≠ 92 ∧ t ≠ 67 ∧ t ≠ 100
theorem OwnF.byType {W : World} {B n : Nat} {D : DiskD} {F : Nat → Prop} (h : OwnF W B n D F) : OwnF W B n D (fun k => F k ∧ ¬ Oth W k) := by
  obtain ⟨bD, bV, vp, a, b, c⟩ := h
  refine ⟨bD, bV, vp, a, b, fun k hk => ⟨c k hk, ?_⟩⟩
  rintro ⟨cs, t, hx, h1, h2, h3, -, -⟩
  rcases hk with rfl | rfl | rfl | hk
  · exact a.box.ne hx h1.symm rfl
  · exact a.dur.ne hx h2.symm rfl
  · exact a.vis.ne hx h2.symm rfl
  · obtain ⟨cur, hb, -⟩ := owned_block a.pen hk
    exact hb.ne hx h3.symm rfl
theorem RefF.byType {W : World} {R n : Nat} {D : DiskD} {F : Nat → Prop} (h : RefF W R n D F) : RefF W R n D (fun k => F k ∧ ¬ Oth W k) := by
  obtain ⟨vs, vl, a, b, c⟩ := h
  refine ⟨vs, vl, a, b, fun k hk => ⟨c k hk, ?_⟩⟩
  rintro ⟨cs, t, hx, -, h2, -, h4, h5⟩
  rcases hk with rfl | hk | hk
  · exact a.box.ne hx h4.symm rfl
  · obtain ⟨cur, hb, -⟩ := owned_block a.sure hk
    exact hb.ne hx h2.symm rfl
  · obtain ⟨cur, hb, -⟩ := owned_block a.pen hk
    exact hb.ne hx h5.symm rfl
/-- Blocks of other types are as they were, but for those of X. -/
def Kept (X : Nat → Prop) (W W' : World) : Prop := ∀ k, k < W.heap.size → Oth W k → ¬ X k → W'.heap[k]? = W.heap[k]?
def NoX (_ : Nat) : Prop := False
theorem Kept.below {W W' : World} {X : Nat → Prop} (h : Below W.heap.size W W') : Kept X W W' := fun k hk _ _ => h.block k hk
theorem Kept.blk {W W' : World} {X : Nat → Prop} (h : Kept X W W') {k : Nat} {cs : Array Value} {t : TypeId} (hb : Blk W k cs t) (ht : t ≠ 97 ∧ t ≠ 5 ∧ t ≠ 92 ∧ t ≠ 67 ∧ t ≠ 100) (hx : ¬ X k) : Blk W' k cs t := (h k hb.lt ⟨cs, t, hb, ht⟩ hx).trans hb
theorem Kept.row {W W' : World} {X : Nat → Prop} (h : Kept X W W') {base t sz m : Nat} {v : Value} {xs : List Value} (hr : W.ownsRow base t sz v m xs) (ht : t ≠ 97 ∧ t ≠ 5 ∧ t ≠ 92 ∧ t ≠ 67 ∧ t ≠ 100) (hx : ∀ k cs, Blk W k cs t → ¬ X k) : W'.ownsRow base t sz v m xs := by
  refine owned_kept hr (fun g hg => ?_)
  obtain ⟨cur, hb, -⟩ := owned_block hr hg
  exact h g hb.lt ⟨cur, t, hb, ht⟩ (hx g cur hb)
theorem JouAt.kept {W W' : World} {X : Nat → Prop} {base Jb B : Nat} {J : JouD} (h : JouAt W base Jb B J) (hk : Kept X W W') (h1 : ¬ X Jb) (h2 : ∀ k cs, Blk W k cs 9 → ¬ X k) : JouAt W' base Jb B J := by
  obtain ⟨vr, hb, ho⟩ := h.ex
  exact ⟨vr, hk.blk hb (by decide) h1, hk.row ho (by decide) h2⟩
/-- A journal of the reference in memory. -/
structure KouAt (W : World) (base Kb R : Nat) (J : JouD) : Prop where
  ex : ∃ vr, Blk W Kb #[.pointer (some ⟨R, 0, none⟩), vr, .int .i64 (tapeN J.L : Int), .bool J.broken] 43 ∧ W.ownsRow base 9 1 vr J.L.length (J.L.map Value.string)
theorem KouAt.kept {W W' : World} {X : Nat → Prop} {base Kb R : Nat} {J : JouD} (h : KouAt W base Kb R J) (hk : Kept X W W') (h1 : ¬ X Kb) (h2 : ∀ k cs, Blk W k cs 9 → ¬ X k) : KouAt W' base Kb R J := by
  obtain ⟨vr, hb, ho⟩ := h.ex
  exact ⟨vr, hk.blk hb (by decide) h1, hk.row ho (by decide) h2⟩
theorem KouAt.below {W W' : World} {base Kb R : Nat} {J : JouD} (h : KouAt W base Kb R J) (hb : Below W.heap.size W W') : KouAt W' base Kb R J := h.kept (X := NoX) (Kept.below hb) (fun h => h) (fun _ _ _ h => h)
theorem KouAt.mono {W : World} {base base' Kb R : Nat} {J : JouD} (h : KouAt W base Kb R J) (hb : base' ≤ base) : KouAt W base' Kb R J := by
  obtain ⟨vr, h1, h2⟩ := h.ex
  exact ⟨vr, h1, ownsRow_base h2 hb⟩
theorem RowsAt.kept {W W' : World} {X : Nat → Prop} {rs : RowL} (h : RowsAt W rs) (hk : Kept X W W') (h2 : ∀ k cs, Blk W k cs 9 → ¬ X k) : RowsAt W' rs := fun p hp => by
  obtain ⟨b, h1⟩ := h p hp; exact ⟨b, hk.row h1 (by decide) h2⟩
abbrev DuoB (W : World) (base n B R : Nat) (D E : DiskD) : Prop := Duo W (fun k => base ≤ k) n B R D E
/-- A call on the disk (and on blocks X beside it). -/
theorem duo_d {W : World} {base n B R : Nat} {D D' E : DiskD} (X : Nat → Prop) (h : DuoB W base n B R D E) (hb : base ≤ W.heap.size) (hX : ∀ k, k < W.heap.size → X k → base ≤ k ∧ Oth W k) {g : Nat} {args : Array Value} {P : Ending → World → Prop}
    (hc : ∀ F : Nat → Prop, (∀ k, W.heap.size ≤ k → F k) → OwnF W B n D F → Calls Tryz.prog g args W fun e w' => P e w' ∧ OwnF w' B n D' F ∧ Frm (fun k => F k ∨ X k) W w') :
    Calls Tryz.prog g args W fun e w' => P e w' ∧ DuoB w' base n B R D' E ∧ Kept X W w' ∧ Below base W w' := by
  obtain ⟨F1, F2, p1, p2, d, o1, o2⟩ := h
  refine (hc (fun k => (F1 k ∧ ¬ Oth W k) ∨ W.heap.size ≤ k) (fun k hk => .inr hk) (o1.byType.mono (fun k _ h => .inl h))).mono ?_
  rintro e w' ⟨hP, q1, q2⟩
  refine ⟨hP, ⟨fun k => (F1 k ∧ ¬ Oth W k) ∨ W.heap.size ≤ k, fun k => (F2 k ∧ ¬ Oth W k) ∧ k < W.heap.size, ?_, fun k h => p2 k h.1.1, ?_, q1, ?_⟩, ?_, ?_⟩
  · rintro k (h | h)
    · exact p1 k h.1
    · show base ≤ k; omega
  · rintro k (h | h) ⟨a, b⟩
    · exact d k h.1 a.1
    · omega
  · refine (o2.byType.mono (G := fun k => (F2 k ∧ ¬ Oth W k) ∧ k < W.heap.size) (fun k hk h => ⟨h, hk⟩)).frm q2 (fun k hk h a => ?_)
    rcases a with (a | a) | a
    · exact d k a.1 h.1.1
    · omega
    · exact h.1.2 (hX k hk a).2
  · intro k hk ho hx
    exact q2.block k hk (fun a => by rcases a with (a | a) | a; exact a.2 ho; omega; exact hx a)
  · refine Frm.below (q2.mono (G := fun k => base ≤ k) (fun k hk a => ?_)) hb (fun k h => h)
    rcases a with (a | a) | a
    · exact p1 k a.1
    · show base ≤ k; omega
    · exact (hX k hk a).1
/-- A call on the reference's disk (and on blocks X beside it). -/
theorem duo_r {W : World} {base n B R : Nat} {D E E' : DiskD} (X : Nat → Prop) (h : DuoB W base n B R D E) (hb : base ≤ W.heap.size) (hX : ∀ k, k < W.heap.size → X k → base ≤ k ∧ Oth W k) {g : Nat} {args : Array Value} {P : Ending → World → Prop}
    (hc : ∀ F : Nat → Prop, (∀ k, W.heap.size ≤ k → F k) → RefF W R n E F → Calls Tryz.prog g args W fun e w' => P e w' ∧ RefF w' R n E' F ∧ Frm (fun k => F k ∨ X k) W w') :
    Calls Tryz.prog g args W fun e w' => P e w' ∧ DuoB w' base n B R D E' ∧ Kept X W w' ∧ Below base W w' := by
  obtain ⟨F1, F2, p1, p2, d, o1, o2⟩ := h
  refine (hc (fun k => (F2 k ∧ ¬ Oth W k) ∨ W.heap.size ≤ k) (fun k hk => .inr hk) (o2.byType.mono (fun k _ h => .inl h))).mono ?_
  rintro e w' ⟨hP, q1, q2⟩
  refine ⟨hP, ⟨fun k => (F1 k ∧ ¬ Oth W k) ∧ k < W.heap.size, fun k => (F2 k ∧ ¬ Oth W k) ∨ W.heap.size ≤ k, fun k h => p1 k h.1.1, ?_, ?_, ?_, q1⟩, ?_, ?_⟩
  · rintro k (h | h)
    · exact p2 k h.1
    · show base ≤ k; omega
  · rintro k ⟨a, b⟩ (h | h)
    · exact d k a.1 h.1
    · omega
  · refine (o1.byType.mono (G := fun k => (F1 k ∧ ¬ Oth W k) ∧ k < W.heap.size) (fun k hk h => ⟨h, hk⟩)).frm q2 (fun k hk h a => ?_)
    rcases a with (a | a) | a
    · exact d k h.1.1 a.1
    · omega
    · exact h.1.2 (hX k hk a).2
  · intro k hk ho hx
    exact q2.block k hk (fun a => by rcases a with (a | a) | a; exact a.2 ho; omega; exact hx a)
  · refine Frm.below (q2.mono (G := fun k => base ≤ k) (fun k hk a => ?_)) hb (fun k h => h)
    rcases a with (a | a) | a
    · exact p2 k a.1
    · show base ≤ k; omega
    · exact (hX k hk a).1
end Go.Proofs.YtnckpnbecmmcpaaGreatDoor

/- Steps of a proof in memory; what the growing of a proof leaves as it lay. -/
import Derived.Test.YtblmpmapcdpaiaaBlk
import Derived.Test.YtblmpmapcdpaiaaBits
namespace Go.Proofs.Ytblmpmapcdpaiaa
open Go.RowKit

/-- The weights of a step as a value: none, or one in a block of its own. -/
def WtV (W : World) (v : Value) (l : List WtD) : Prop :=
  (l = [] ∧ v = .slice none 0 0) ∨ ∃ (g : Nat) (x : WtD), l = [x] ∧ v = .slice (some ⟨g, 0, none⟩) 1 1 ∧ Blk W g #[.int .i64 x.row, .int .i64 x.times] 82
/-- The cells of steps, one after the other. -/
def StepsC (W : World) : List Value → List StepD → Prop
  | cs, [] => cs = []
  | cs, s :: l => ∃ wv rest, cs = .int .i64 s.var :: .int .i64 s.no :: .int .i64 s.yes :: wv :: rest ∧ WtV W wv s.wts ∧ StepsC W rest l
theorem StepsC.len {W : World} : ∀ {l : List StepD} {cs : List Value}, StepsC W cs l → cs.length = l.length * 4 := by
  intro l
  induction l with
  | nil => intro cs h; rw [show cs = [] from h]; rfl
  | cons s l ih =>
    rintro cs ⟨wv, rest, rfl, -, h⟩
    simp only [List.length_cons, ih h]; omega
theorem StepsC.app {W : World} : ∀ {l m : List StepD} {cs ds : List Value}, StepsC W cs l → StepsC W ds m → StepsC W (cs ++ ds) (l ++ m) := by
  intro l
  induction l with
  | nil => intro m cs ds h k; rw [show cs = [] from h]; exact k
  | cons s l ih =>
    rintro m cs ds ⟨wv, rest, rfl, h1, h2⟩ k
    exact ⟨wv, rest ++ ds, rfl, h1, ih h2 k⟩
/-- What the growing of a proof leaves: every block below 'base' but the box of the steps, and every block whose cells are no steps. -/
structure Fr (oB base : Nat) (A B : World) : Prop where
  os : B.os = A.os
  tape : B.tape = A.tape
  output : B.output = A.output
  size : A.heap.size ≤ B.heap.size
  block : ∀ k, k < A.heap.size → k ≠ oB → (k < base ∨ ∃ cs t fz, A.heap[k]? = some (.cells cs t fz) ∧ t ≠ 80) → B.heap[k]? = A.heap[k]?
theorem Fr.refl (oB base : Nat) (A : World) : Fr oB base A A := ⟨rfl, rfl, rfl, Nat.le_refl _, fun _ _ _ _ => rfl⟩
theorem Fr.trans {oB base : Nat} {A B C : World} (h : Fr oB base A B) (k : Fr oB base B C) : Fr oB base A C :=
  ⟨k.os.trans h.os, k.tape.trans h.tape, k.output.trans h.output, Nat.le_trans h.size k.size, fun i hi h1 h2 => by
    have e := h.block i hi h1 h2
    refine (k.block i (Nat.lt_of_lt_of_le hi h.size) h1 ?_).trans e
    rcases h2 with h2 | ⟨cs, t, fz, h2, h3⟩
    · exact .inl h2
    · exact .inr ⟨cs, t, fz, e.trans h2, h3⟩⟩
theorem Fr.of_below {oB base : Nat} {A B : World} (h : Below A.heap.size A B) : Fr oB base A B := ⟨h.os, h.tape, h.output, h.size, fun k hk _ _ => h.block k hk⟩
theorem Fr.below {oB base B0 : Nat} {A B : World} (h : Fr oB base A B) (h1 : B0 ≤ oB) (h2 : B0 ≤ base) (h3 : B0 ≤ A.heap.size) : Below B0 A B :=
  ⟨h.os, h.tape, h.output, h.size, fun k hk => h.block k (by omega) (by omega) (.inl (by omega))⟩
theorem Fr.blk {oB base : Nat} {A B : World} (h : Fr oB base A B) {k : Nat} {cs : Array Value} {t : TypeId} (hk : Blk A k cs t) (h1 : k ≠ oB) (h2 : t ≠ 80) : Blk B k cs t :=
  (h.block k hk.lt h1 (.inr ⟨cs, t, _, hk, h2⟩)).trans hk
theorem WtV.fr {oB base : Nat} {A B : World} (h : Fr oB base A B) {v : Value} {l : List WtD} (hv : WtV A v l) (ho : ∀ cs, ¬ Blk A oB cs 82) : WtV B v l := by
  rcases hv with ⟨h1, h2⟩ | ⟨g, x, h1, h2, h3⟩
  · exact .inl ⟨h1, h2⟩
  · exact .inr ⟨g, x, h1, h2, h.blk h3 (fun e => ho _ (e ▸ h3)) (by decide)⟩
theorem StepsC.fr {oB base : Nat} {A B : World} (h : Fr oB base A B) (ho : ∀ cs, ¬ Blk A oB cs 82) : ∀ {l : List StepD} {cs : List Value}, StepsC A cs l → StepsC B cs l := by
  intro l
  induction l with
  | nil => intro cs h; exact h
  | cons s l ih =>
    rintro cs ⟨wv, rest, rfl, h1, h2⟩
    exact ⟨wv, rest, rfl, h1.fr h ho, ih h2⟩
/-- The box of the steps, and the steps' own row. -/
structure OutAt (oB base : Nat) (W : World) (v : Value) (n : Nat) (xs : List Value) : Prop where
  box : Blk W oB #[v] 35
  row : W.ownsRow base 80 4 v n xs
  lt : oB < base
theorem OutAt.not82 {oB base : Nat} {W : World} {v : Value} {n : Nat} {xs : List Value} (h : OutAt oB base W v n xs) (cs : Array Value) : ¬ Blk W oB cs 82 := by
  intro h2
  have := (show W.heap[oB]? = _ from h.box).symm.trans h2
  simp at this
theorem OutAt.below {oB base : Nat} {A B : World} {v : Value} {n : Nat} {xs : List Value} (h : OutAt oB base A v n xs) (hb : Below A.heap.size A B) : OutAt oB base B v n xs :=
  ⟨h.box.below hb h.box.lt, owned_below h.row hb, h.lt⟩
/-- An append to the steps, stored back. -/
theorem OutAt.pushed {oB base : Nat} {W w1 : World} {v v' : Value} {n m : Nat} {xs ys : List Value} {tmp : Obj} (h : OutAt oB base W v n xs) (hbase : base ≤ W.heap.size)
    (hown' : w1.ownsRow base 80 4 v' m ys) (hgrow : (W.alloc tmp).grownBy w1 v.ownBlock) :
    Blk w1 oB #[v] 35 ∧ OutAt oB base (w1.setCell ⟨oB, 0, none⟩ v') v' m ys ∧ Fr oB base W (w1.setCell ⟨oB, 0, none⟩ v') := by
  have hlt := h.lt
  have hne : ∀ k, v.ownBlock = some k → base ≤ k := fun k hk => (h.row.lt k hk).1
  have hbx : Blk w1 oB #[v] 35 := (hgrow.block oB (by simp; omega) (fun e => by have := hne oB e.symm; omega)).trans (h.box.alloc tmp)
  refine ⟨hbx, ⟨hbx.set 0 v', ownsRow_setCell_below hown' hlt v', hlt⟩, hgrow.os, hgrow.tape, hgrow.output, by have := hgrow.size; simp at this ⊢; omega, fun k hk h1 h2 => ?_⟩
  rw [heap_setCell_other _ _ _ _ (show k ≠ (⟨oB, 0, none⟩ : Addr).block from h1)]
  refine (hgrow.block k (by simp; omega) (fun e => ?_)).trans (Below.heap_alloc W tmp k hk)
  have := hne k e.symm
  rcases h2 with h2 | ⟨cs, t, fz, h2, h3⟩
  · omega
  · rcases h.row.2 with ⟨rfl, -⟩ | ⟨g, cap, cur, rfl, -, hg, -⟩
    · cases e
    · obtain rfl : k = g := by simpa [Value.ownBlock] using e
      rw [hg] at h2; cases h2; exact h3 rfl
/-- A cell of the steps is written. -/
theorem OutAt.stored {oB base : Nat} {W : World} {g cap n : Nat} {xs : List Value} (h : OutAt oB base W (.slice (some ⟨g, 0, none⟩) n cap) n xs) (j : Nat) (u : Value) :
    OutAt oB base (W.setCell ⟨g, j, none⟩ u) (.slice (some ⟨g, 0, none⟩) n cap) n (xs.set j u) ∧ Fr oB base W (W.setCell ⟨g, j, none⟩ u) := by
  have hlt := h.lt
  have hg := (h.row.lt g rfl).1
  obtain ⟨h1, h2⟩ := h.row.stored j u
  refine ⟨⟨h.box.other u (by simp; omega), h1, hlt⟩, h2.os, h2.tape, h2.output, h2.size, fun k hk e1 e2 => h2.block k hk (fun e => ?_)⟩
  obtain rfl : k = g := by simpa using e
  rcases e2 with e2 | ⟨cs, t, fz, e2, e3⟩
  · omega
  · rcases h.row.2 with ⟨e, -⟩ | ⟨g, cap, cur, e, -, hg, -⟩
    · cases e
    · cases e; rw [hg] at e2; cases e2; exact e3 rfl

theorem growS_len (rows : List RowD) : ∀ (f d set k : Nat), (growS rows f d set k).length + 1 ≤ 2 ^ (f + 1) := by
  intro f
  induction f with
  | zero => intro d set k; unfold growS; cases badAt rows d set <;> simp
  | succ f ih =>
    intro d set k
    unfold growS
    cases badAt rows d set with
    | some i => have := ih 0 0 0; simp only [List.length_singleton]; have : 2 ^ (f + 1 + 1) = 2 * 2 ^ (f + 1) := by rw [Nat.pow_succ]; omega
                omega
    | none =>
      have h1 := ih (d + 1) set (k + 1)
      have h2 := ih (d + 1) (set + 2 ^ d) (k + 1 + (growS rows f (d + 1) set (k + 1)).length)
      have e : 2 ^ (f + 1 + 1) = 2 * 2 ^ (f + 1) := by rw [Nat.pow_succ]; omega
      simp only [List.length_cons, List.length_append]
      omega
theorem i64_or_pow (set d : Nat) (h : set < 2 ^ d) (hd : d ≤ 40) : bits .or .i64 (set : Int) (2 ^ d) = ((set + 2 ^ d : Nat) : Int) := by
  have hp : 2 ^ d ≤ 2 ^ 40 := Nat.pow_le_pow_right (by omega) hd
  have e : ((2 ^ d : Nat) : Int) = (2 : Int) ^ d := by simp
  rw [← e, (bits_nat .i64 63 (by decide) wraps_i64 set (2 ^ d) (by omega) (by omega)).2]
  congr 1
  have h1 := Nat.two_pow_add_eq_or_of_lt h 1
  rw [Nat.mul_one] at h1
  rw [Nat.or_comm, ← h1]
  omega
end Go.Proofs.Ytblmpmapcdpaiaa

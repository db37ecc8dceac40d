/- Texts Steps, P13, P14 in one. -/
import Derived.Test.YtblmpmapcdpaiaaB2
import Derived.Test.YtblmpmapcdpaiaaB1
import Derived.Test.YtblmpmapcdpaiaaM3
import Derived.RegionTactic
import Derived.Lib.SmallJoins
import Derived.Deep.CutRange
import Derived.Deep.DeepCutAuto
import Derived.Deep.RegionWith
section
/- Steps of a proof in memory; what the growing of a proof leaves as it lay. -/
namespace Go.Proofs.Ytblmpmapcdpaiaa
open Go.RowKit

/-- The weights of a step as a value: none, or one in a block of its own. -/
def WtV (W : World) (v : Value) (l : List WtD) : Prop :=
  (l = [] ∧ v = .slice none 0 0) ∨ ∃ (g : Nat) (x : WtD), l = [x] ∧ v = .slice (some ⟨g, 0, none⟩) 1 1 ∧ Blk W g #[.int .i64 x.row, .int .i64 x.times] 82
/-- The cells of steps, one after the other. -/
def StepsC (W : World) : List Value → List StepD → Prop
  | cs, [] => cs = []
  | cs, s :: l => ∃ wv rest, cs = .int .i64 s.var :: .int .i64 s.no :: .int .i64 s.yes :: wv :: rest ∧ WtV W wv s.wts ∧ StepsC W rest l
theorem StepsC.len {W : World} : ∀ {l : List StepD} {cs : List Value}, StepsC W cs l → cs.length = l.length * 4 := by
  intro l
  induction l with
  | nil => intro cs h; rw [show cs = [] from h]; rfl
  | cons s l ih =>
    rintro cs ⟨wv, rest, rfl, -, h⟩
    simp only [List.length_cons, ih h]; omega
theorem StepsC.app {W : World} : ∀ {l m : List StepD} {cs ds : List Value}, StepsC W cs l → StepsC W ds m → StepsC W (cs ++ ds) (l ++ m) := by
  intro l
  induction l with
  | nil => intro m cs ds h k; rw [show cs = [] from h]; exact k
  | cons s l ih =>
    rintro m cs ds ⟨wv, rest, rfl, h1, h2⟩ k
    exact ⟨wv, rest ++ ds, rfl, h1, ih h2 k⟩
/-- What the growing of a proof leaves: every block below 'base' but the box of the steps, and every block whose cells are no steps. -/
structure Fr (oB base : Nat) (A B : World) : Prop where
  os : B.os = A.os
  tape : B.tape = A.tape
  output : B.output = A.output
  size : A.heap.size ≤ B.heap.size
  block : ∀ k, k < A.heap.size → k ≠ oB → (k < base ∨ ∃ cs t fz, A.heap[k]? = some (.cells cs t fz) ∧ t ≠ 80) → B.heap[k]? = A.heap[k]?
theorem Fr.refl (oB base : Nat) (A : World) : Fr oB base A A := ⟨rfl, rfl, rfl, Nat.le_refl _, fun _ _ _ _ => rfl⟩
theorem Fr.trans {oB base : Nat} {A B C : World} (h : Fr oB base A B) (k : Fr oB base B C) : Fr oB base A C :=
  ⟨k.os.trans h.os, k.tape.trans h.tape, k.output.trans h.output, Nat.le_trans h.size k.size, fun i hi h1 h2 => by
    have e := h.block i hi h1 h2
    refine (k.block i (Nat.lt_of_lt_of_le hi h.size) h1 ?_).trans e
    rcases h2 with h2 | ⟨cs, t, fz, h2, h3⟩
    · exact .inl h2
    · exact .inr ⟨cs, t, fz, e.trans h2, h3⟩⟩
theorem Fr.of_below {oB base : Nat} {A B : World} (h : Below A.heap.size A B) : Fr oB base A B := ⟨h.os, h.tape, h.output, h.size, fun k hk _ _ => h.block k hk⟩
theorem Fr.below {oB base B0 : Nat} {A B : World} (h : Fr oB base A B) (h1 : B0 ≤ oB) (h2 : B0 ≤ base) (h3 : B0 ≤ A.heap.size) : Below B0 A B :=
  ⟨h.os, h.tape, h.output, h.size, fun k hk => h.block k (by omega) (by omega) (.inl (by omega))⟩
theorem Fr.blk {oB base : Nat} {A B : World} (h : Fr oB base A B) {k : Nat} {cs : Array Value} {t : TypeId} (hk : Blk A k cs t) (h1 : k ≠ oB) (h2 : t ≠ 80) : Blk B k cs t :=
  (h.block k hk.lt h1 (.inr ⟨cs, t, _, hk, h2⟩)).trans hk
theorem WtV.fr {oB base : Nat} {A B : World} (h : Fr oB base A B) {v : Value} {l : List WtD} (hv : WtV A v l) (ho : ∀ cs, ¬ Blk A oB cs 82) : WtV B v l := by
  rcases hv with ⟨h1, h2⟩ | ⟨g, x, h1, h2, h3⟩
  · exact .inl ⟨h1, h2⟩
  · exact .inr ⟨g, x, h1, h2, h.blk h3 (fun e => ho _ (e ▸ h3)) (by decide)⟩
theorem StepsC.fr {oB base : Nat} {A B : World} (h : Fr oB base A B) (ho : ∀ cs, ¬ Blk A oB cs 82) : ∀ {l : List StepD} {cs : List Value}, StepsC A cs l → StepsC B cs l := by
  intro l
  induction l with
  | nil => intro cs h; exact h
  | cons s l ih =>
    rintro cs ⟨wv, rest, rfl, h1, h2⟩
    exact ⟨wv, rest, rfl, h1.fr h ho, ih h2⟩
/-- The box of the steps, and the steps' own row. -/
structure OutAt (oB base : Nat) (W : World) (v : Value) (n : Nat) (xs : List Value) : Prop where
  box : Blk W oB #[v] 35
  row : W.ownsRow base 80 4 v n xs
  lt : oB < base
theorem OutAt.not82 {oB base : Nat} {W : World} {v : Value} {n : Nat} {xs : List Value} (h : OutAt oB base W v n xs) (cs : Array Value) : ¬ Blk W oB cs 82 := by
  intro h2
  have := (show W.heap[oB]? = _ from h.box).symm.trans h2
  simp at this
theorem OutAt.below {oB base : Nat} {A B : World} {v : Value} {n : Nat} {xs : List Value} (h : OutAt oB base A v n xs) (hb : Below A.heap.size A B) : OutAt oB base B v n xs :=
  ⟨h.box.below hb h.box.lt, owned_below h.row hb, h.lt⟩
/-- An append to the steps, stored back. -/
theorem OutAt.pushed {oB base : Nat} {W w1 : World} {v v' : Value} {n m : Nat} {xs ys : List Value} {tmp : Obj} (h : OutAt oB base W v n xs) (hbase : base ≤ W.heap.size)
    (hown' : w1.ownsRow base 80 4 v' m ys) (hgrow : (W.alloc tmp).grownBy w1 v.ownBlock) :
    Blk w1 oB #[v] 35 ∧ OutAt oB base (w1.setCell ⟨oB, 0, none⟩ v') v' m ys ∧ Fr oB base W (w1.setCell ⟨oB, 0, none⟩ v') := by
  have hlt := h.lt
  have hne : ∀ k, v.ownBlock = some k → base ≤ k := fun k hk => (h.row.lt k hk).1
  have hbx : Blk w1 oB #[v] 35 := (hgrow.block oB (by simp; omega) (fun e => by have := hne oB e.symm; omega)).trans (h.box.alloc tmp)
  refine ⟨hbx, ⟨hbx.set 0 v', ownsRow_setCell_below hown' hlt v', hlt⟩, hgrow.os, hgrow.tape, hgrow.output, by have := hgrow.size; simp at this ⊢; omega, fun k hk h1 h2 => ?_⟩
  rw [heap_setCell_other _ _ _ _ (show k ≠ (⟨oB, 0, none⟩ : Addr).block from h1)]
  refine (hgrow.block k (by simp; omega) (fun e => ?_)).trans (Below.heap_alloc W tmp k hk)
  have := hne k e.symm
  rcases h2 with h2 | ⟨cs, t, fz, h2, h3⟩
  · omega
  · rcases h.row.2 with ⟨rfl, -⟩ | ⟨g, cap, cur, rfl, -, hg, -⟩
    · cases e
    · obtain rfl : k = g := by simpa [Value.ownBlock] using e
      rw [hg] at h2; cases h2; exact h3 rfl
/-- A cell of the steps is written. -/
theorem OutAt.stored {oB base : Nat} {W : World} {g cap n : Nat} {xs : List Value} (h : OutAt oB base W (.slice (some ⟨g, 0, none⟩) n cap) n xs) (j : Nat) (u : Value) :
    OutAt oB base (W.setCell ⟨g, j, none⟩ u) (.slice (some ⟨g, 0, none⟩) n cap) n (xs.set j u) ∧ Fr oB base W (W.setCell ⟨g, j, none⟩ u) := by
  have hlt := h.lt
  have hg := (h.row.lt g rfl).1
  obtain ⟨h1, h2⟩ := h.row.stored j u
  refine ⟨⟨h.box.other u (by simp; omega), h1, hlt⟩, h2.os, h2.tape, h2.output, h2.size, fun k hk e1 e2 => h2.block k hk (fun e => ?_)⟩
  obtain rfl : k = g := by simpa using e
  rcases e2 with e2 | ⟨cs, t, fz, e2, e3⟩
  · omega
  · rcases h.row.2 with ⟨e, -⟩ | ⟨g, cap, cur, e, -, hg, -⟩
    · cases e
    · cases e; rw [hg] at e2; cases e2; exact e3 rfl

theorem growS_len (rows : List RowD) : ∀ (f d set k : Nat), (growS rows f d set k).length + 1 ≤ 2 ^ (f + 1) := by
  intro f
  induction f with
  | zero => intro d set k; unfold growS; cases badAt rows d set <;> simp
  | succ f ih =>
    intro d set k
    unfold growS
    cases badAt rows d set with
    | some i => have := ih 0 0 0; simp only [List.length_singleton]; have : 2 ^ (f + 1 + 1) = 2 * 2 ^ (f + 1) := by rw [Nat.pow_succ]; omega
                omega
    | none =>
      have h1 := ih (d + 1) set (k + 1)
      have h2 := ih (d + 1) (set + 2 ^ d) (k + 1 + (growS rows f (d + 1) set (k + 1)).length)
      have e : 2 ^ (f + 1 + 1) = 2 * 2 ^ (f + 1) := by rw [Nat.pow_succ]; omega
      simp only [List.length_cons, List.length_append]
      omega
theorem i64_or_pow (set d : Nat) (h : set < 2 ^ d) (hd : d ≤ 40) : bits .or .i64 (set : Int) (2 ^ d) = ((set + 2 ^ d : Nat) : Int) := by
  have hp : 2 ^ d ≤ 2 ^ 40 := Nat.pow_le_pow_right (by omega) hd
  have e : ((2 ^ d : Nat) : Int) = (2 : Int) ^ d := by simp
  rw [← e, (bits_nat .i64 63 (by decide) wraps_i64 set (2 ^ d) (by omega) (by omega)).2]
  congr 1
  have h1 := Nat.two_pow_add_eq_or_of_lt h 1
  rw [Nat.mul_one] at h1
  rw [Nat.or_comm, ← h1]
  omega
end Go.Proofs.Ytblmpmapcdpaiaa
end
section
/- program.proof: the growing of the proof. -/
namespace Go.Proofs.Ytblmpmapcdpaiaa
open Go.RowKit Lib Go.Joins

theorem E35 : ElemOK Try.prog 35 80 (.agg #[.int .i64 0, .int .i64 0, .int .i64 0, .slice none 0 0]) 4 48 := ⟨Try.underlying35, by kernel_rfl, rfl, by decide⟩

/-- What growing needs to find. -/
structure GrowIn (oB rB gB base : Nat) (w0 W : World) (vr : Value) (rows : List RowD) : Prop where
  b0 : Below w0.heap.size w0 W
  rows : RowsAt w0 vr rows
  rbox : Blk W rB #[vr] 27
  gbox : Blk W gB #[.func (.func 89) #[] #[.pointer (some ⟨oB, 0, none⟩), .pointer (some ⟨rB, 0, none⟩), .pointer (some ⟨gB, 0, none⟩)]] 32
  o0 : w0.heap.size ≤ oB
  ro : rB ≠ oB
  go : gB ≠ oB
  rb : rB < base
  gb : gB < base
  ob : oB < base
  bs : base ≤ W.heap.size
theorem GrowIn.fr {oB rB gB base : Nat} {w0 A B : World} {vr : Value} {rows : List RowD} (h : GrowIn oB rB gB base w0 A vr rows) (f : Fr oB base A B) : GrowIn oB rB gB base w0 B vr rows :=
  ⟨h.b0.trans (f.below h.o0 (by have := h.o0; have := h.ob; omega) h.b0.size), h.rows, f.blk h.rbox h.ro (by decide), f.blk h.gbox h.go (by decide), h.o0, h.ro, h.go, h.rb, h.gb, h.ob, by have := h.bs; have := f.size; omega⟩

set_option maxRecDepth 100000 in
set_option maxHeartbeats 2000000 in
theorem grow_leaf (oB rB gB base : Nat) (w0 W : World) (vr v : Value) (rows : List RowD) (d set n i : Nat) (xs : List Value) (hin : GrowIn oB rB gB base w0 W vr rows) (hout : OutAt oB base W v n xs)
    (hrows : ∀ r ∈ rows, r.coef.length ≤ 60 ∧ coefOK r.coef = true ∧ d ≤ r.coef.length) (hs : set < 4611686018427387904) (hn : n ≤ 100000) (hbad : badAt rows d set = some i) :
    Calls Try.prog 89 #[.int .i64 d, .int .i64 set, .pointer (some ⟨oB, 0, none⟩), .pointer (some ⟨rB, 0, none⟩), .pointer (some ⟨gB, 0, none⟩)] W fun e W' => e = .returned (.int .i64 n) ∧
      ∃ v' ys, OutAt oB base W' v' (n + 1) (xs ++ ys) ∧ StepsC W' ys [{ var := -1, no := 0, yes := 0, wts := [{ row := i, times := 1 }] }] ∧ Fr oB base W W' := by
  have hB0 : Below W.heap.size W ((W.alloc (.cells #[.int .i64 d] 3)).alloc (.cells #[.int .i64 set] 3)) := ((Below.refl _ _).alloc (Nat.le_refl _) _).alloc (by simp) _
  have hx := indexR vr _ rows _ _ (hin.rows.below (hin.b0.trans (hB0.mono hin.b0.size))) (proof11_ans _ rows d set ⟨W.heap.size, 0, none⟩ ⟨W.heap.size + 1, 0, none⟩
    ((((Below.refl _ _).alloc (Nat.le_refl _) _).cell (by simp <;> omega)).trans (World.cell?_alloc_at _ _ _ _ rfl)) (World.cell?_alloc_at _ _ _ _ (by simp)) hrows hs)
  rw [badAt_idx, hbad] at hx
  simp only at hx
  have ko := hout.box.cell 0
  have kr := hin.rbox.cell 0
  simp only [List.getElem?_toArray, List.getElem?_cons_zero] at ko kr
  obtain ⟨oa, oc, rfl, ho1, ho2⟩ := owned_len hout.row
  unfold maxLen at ho2
  have lo := hout.box.lt
  have lr := hin.rbox.lt
  have HI := Lib.hid hin
  have HO := Lib.hid hout
  clear hrows hbad hin hout
  go_enter Try.func89, Try.ntmps89
  go_wp2_with fail
  refine hx.mono ?_
  rintro e w2 ⟨rfl, hB2⟩
  have hB3 := hB0.trans (hB2.mono hB0.size)
  have hout2 := HO.out.below hB3
  have lo2 := hout2.box.lt
  have ko2 := hout2.box.cell 0
  have fo2 := hout2.box.frozen 0
  simp only [List.getElem?_toArray, List.getElem?_cons_zero] at ko2
  have hBw : Below w2.heap.size w2 (w2.alloc (.cells #[.int .i64 i, .int .i64 1] 82)) := (Below.refl _ _).alloc (Nat.le_refl _) _
  have hout3 := hout2.below hBw
  have hbs : base ≤ (w2.alloc (.cells #[.int .i64 i, .int .i64 1] 82)).heap.size := by have := HI.out.bs; have := hB3.size; simp; omega
  have hwt : Blk (w2.alloc (.cells #[.int .i64 i, .int .i64 1] 82)) w2.heap.size #[.int .i64 i, .int .i64 1] 82 := Blk.new _ _ _
  have hsz : (w2.alloc (.cells #[.int .i64 i, .int .i64 1] 82)).heap.size = w2.heap.size + 1 := by simp
  clear ko kr hx
  go_wp2_with (at_builtin; refine wpList_pushN E35 rfl _ _ rfl base hout3.row rfl (by rw [hsz]; rfl) rfl (by intro u hu; simp at hu; rcases hu with rfl | rfl | rfl <;> rfl) (by unfold maxLen; omega) (by omega) hbs ?_; intro v' w4 hown' hgrow hb1; obtain ⟨hbx, hout4, hfr⟩ := hout3.pushed hbs hown' hgrow; have k4 := hbx.cell 0; have f4 := hbx.frozen 0; simp only [List.getElem?_toArray, List.getElem?_cons_zero] at k4; obtain ⟨na, nc, rfl, hn1, hn2⟩ := owned_len hown')
  go_ret
  have hfr3 : Fr oB base W _ := ((Fr.of_below hB3).trans (Fr.of_below hBw)).trans hfr
  exact ⟨rfl, _, _, hout4, ⟨_, [], rfl, .inr ⟨w2.heap.size, ⟨i, 1⟩, rfl, rfl, hfr.blk hwt (by omega) (by decide)⟩, rfl⟩, hfr3⟩

theorem set_mid (xs ys : List Value) (j : Nat) (u : Value) : (xs ++ ys).set (xs.length + j) u = xs ++ ys.set j u := by
  rw [List.set_append_right _ _ (by omega)]; congr 2; omega

set_option maxRecDepth 100000 in
set_option maxHeartbeats 1000000 in
theorem grow_all (oB rB gB base : Nat) (w0 : World) (vr : Value) (rows : List RowD) (m : Nat) (hm : m ≤ 12) (hrows : ∀ r ∈ rows, r.coef.length = m ∧ coefOK r.coef = true)
    (hfull : ∀ s, s < 2 ^ m → badAt rows m s ≠ none) : ∀ (f d set n : Nat) (W : World) (v : Value) (xs : List Value), f + d = m → set < 2 ^ d → n + 2 ^ (f + 1) ≤ 10000 →
    GrowIn oB rB gB base w0 W vr rows → OutAt oB base W v n xs →
    Calls Try.prog 89 #[.int .i64 d, .int .i64 set, .pointer (some ⟨oB, 0, none⟩), .pointer (some ⟨rB, 0, none⟩), .pointer (some ⟨gB, 0, none⟩)] W fun e W' => e = .returned (.int .i64 n) ∧
      ∃ v' ys, OutAt oB base W' v' (n + (growS rows f d set n).length) (xs ++ ys) ∧ StepsC W' ys (growS rows f d set n) ∧ Fr oB base W W' := by
  have hr60 : ∀ d, d ≤ m → ∀ r ∈ rows, r.coef.length ≤ 60 ∧ coefOK r.coef = true ∧ d ≤ r.coef.length := fun d hd r hr => by
    obtain ⟨h1, h2⟩ := hrows r hr; exact ⟨by omega, h2, by omega⟩
  have leaf : ∀ (f d set n i : Nat) (W : World) (v : Value) (xs : List Value), d ≤ m → set < 2 ^ d → n ≤ 10000 → badAt rows d set = some i → GrowIn oB rB gB base w0 W vr rows → OutAt oB base W v n xs →
    Calls Try.prog 89 #[.int .i64 d, .int .i64 set, .pointer (some ⟨oB, 0, none⟩), .pointer (some ⟨rB, 0, none⟩), .pointer (some ⟨gB, 0, none⟩)] W fun e W' => e = .returned (.int .i64 n) ∧
      ∃ v' ys, OutAt oB base W' v' (n + (growS rows f d set n).length) (xs ++ ys) ∧ StepsC W' ys (growS rows f d set n) ∧ Fr oB base W W' := fun f d set n i W v xs hd hs hn hb hin hout => by
    have hg : growS rows f d set n = [{ var := -1, no := 0, yes := 0, wts := [{ row := i, times := 1 }] }] := by cases f <;> (unfold growS; rw [hb])
    have hp : 2 ^ d ≤ 2 ^ 12 := Nat.pow_le_pow_right (by omega) (by omega)
    rw [hg]
    exact grow_leaf oB rB gB base w0 W vr v rows d set n i xs hin hout (hr60 d hd) (by omega) (by omega) hb
  intro f
  induction f with
  | zero =>
    intro d set n W v xs hfd hs hn hin hout
    obtain rfl : d = m := by omega
    cases hb : badAt rows d set with
    | none => exact absurd hb (hfull set hs)
    | some i => exact leaf 0 d set n i W v xs (Nat.le_refl _) hs (Nat.le_trans (Nat.le_add_right _ _) hn) hb hin hout
  | succ f ih =>
    intro d set n W v xs hfd hs hn hin hout
    cases hb : badAt rows d set with
    | some i => exact leaf (f + 1) d set n i W v xs (by omega) hs (Nat.le_trans (Nat.le_add_right _ _) hn) hb hin hout
    | none =>
      have hg : growS rows (f + 1) d set n = { var := d, no := (n + 1 : Nat), yes := (n + 1 + (growS rows f (d + 1) set (n + 1)).length : Nat), wts := [] } ::
          (growS rows f (d + 1) set (n + 1) ++ growS rows f (d + 1) (set + 2 ^ d) (n + 1 + (growS rows f (d + 1) set (n + 1)).length)) := by
        conv => lhs; unfold growS
        rw [hb]
      rw [hg]
      have hlen := growS_len rows f (d + 1) set (n + 1)
      have hp12 : 2 ^ d ≤ 2 ^ 12 := Nat.pow_le_pow_right (by omega) (by omega)
      have hpd : 2 ^ (d + 1) = 2 * 2 ^ d := by rw [Nat.pow_succ]; omega
      have hpf : 2 ^ (f + 1 + 1) = 2 * 2 ^ (f + 1) := by rw [Nat.pow_succ]; omega
      have hB0 : Below W.heap.size W ((W.alloc (.cells #[.int .i64 d] 3)).alloc (.cells #[.int .i64 set] 3)) := ((Below.refl _ _).alloc (Nat.le_refl _) _).alloc (by simp) _
      have hx := indexR vr _ rows _ _ (hin.rows.below (hin.b0.trans (hB0.mono hin.b0.size))) (proof11_ans _ rows d set ⟨W.heap.size, 0, none⟩ ⟨W.heap.size + 1, 0, none⟩
        ((((Below.refl _ _).alloc (Nat.le_refl _) _).cell (by simp <;> omega)).trans (World.cell?_alloc_at _ _ _ _ rfl)) (World.cell?_alloc_at _ _ _ _ (by simp)) (hr60 d (by omega)) (by omega))
      rw [badAt_idx, hb] at hx
      simp only at hx
      have hA := Lib.hid (fun W v xs => ih (d + 1) set (n + 1) W v xs (by omega) (by omega) (by omega))
      have hBB := Lib.hid (fun W v xs => ih (d + 1) (set + 2 ^ d) (n + 1 + (growS rows f (d + 1) set (n + 1)).length) W v xs (by omega) (by omega) (by omega))
      have hor := Lib.hid (i64_or_pow set d hs (by omega))
      generalize growS rows f (d + 1) set (n + 1) = LA at hA hBB hlen ⊢
      generalize growS rows f (d + 1) (set + 2 ^ d) (n + 1 + LA.length) = LB at hBB ⊢
      have ko := hout.box.cell 0
      have kr := hin.rbox.cell 0
      simp only [List.getElem?_toArray, List.getElem?_cons_zero] at ko kr
      obtain ⟨oa, oc, rfl, ho1, ho2⟩ := owned_len hout.row
      unfold maxLen at ho2
      have lo := hout.box.lt
      have lr := hin.rbox.lt
      have HI := Lib.hid hin
      have HO := Lib.hid hout
      clear hin hout ih leaf hfull hrows hr60 hb hg
      go_enter Try.func89, Try.ntmps89
      go_wp2_with fail
      refine hx.mono ?_
      rintro e w2 ⟨rfl, hB2⟩
      have hB3 := hB0.trans (hB2.mono hB0.size)
      have hout2 := HO.out.below hB3
      have lo2 := hout2.box.lt
      have ko2 := hout2.box.cell 0
      have fo2 := hout2.box.frozen 0
      simp only [List.getElem?_toArray, List.getElem?_cons_zero] at ko2
      have hbs : base ≤ w2.heap.size := by have := HI.out.bs; have := hB3.size; omega
      have k5 : Blk w2 W.heap.size #[.int .i64 d] 3 := ((Blk.new W #[.int .i64 d] 3).alloc _).below hB2 (by simp; omega)
      have k6 : Blk w2 (W.heap.size + 1) #[.int .i64 set] 3 := (Blk.newAt _ _ _ (by simp)).below hB2 (by simp)
      have K5 := Lib.hid k5
      have K6 := Lib.hid k6
      have c5 := k5.cell 0
      have c6 := k6.cell 0
      simp only [List.getElem?_toArray, List.getElem?_cons_zero] at c5 c6
      clear ko kr hx k5 k6
      go_upto_region 7 with (at_builtin; refine wpList_pushN E35 rfl _ _ rfl base hout2.row rfl rfl rfl (by intro u hu; simp at hu; rcases hu with rfl | rfl | rfl <;> rfl) (by unfold maxLen; omega) (by omega) hbs ?_; intro v' w4 hown' hgrow hb1; obtain ⟨hbx, hout4, hfr⟩ := hout2.pushed hbs hown' hgrow; have k4 := hbx.cell 0; have f4 := hbx.frozen 0; simp only [List.getElem?_toArray, List.getElem?_cons_zero] at k4; obtain ⟨na, nc, rfl, hn1, hn2⟩ := owned_len hown')
      generalize w4.setCell ⟨oB, 0, none⟩ (.slice na (n + 1) nc) = w5 at hout4 hfr ⊢
      have hfr5 : Fr oB base W w5 := (Fr.of_below hB3).trans hfr
      have hin5 := HI.out.fr hfr5
      have k5 := hfr.blk K5.out (by omega) (by decide)
      have k6 := hfr.blk K6.out (by omega) (by decide)
      have lg := hin5.gbox.lt
      have hcall := hA.out w5 _ _ hin5 hout4
      have HFR5 := Lib.hid hfr5
      have HIN5 := Lib.hid hin5
      have KK5 := Lib.hid k5
      have KK6 := Lib.hid k6
      have c5 := k5.cell 0
      have c6 := k6.cell 0
      have cg := hin5.gbox.cell 0
      simp only [List.getElem?_toArray, List.getElem?_cons_zero] at c5 c6 cg
      rw [show ((d + 1 : Nat) : Int) = (d : Int) + 1 from by omega] at hcall
      clear k5 k6 hfr5 hin5 k4 f4 hbx hgrow hown' hb1 hB2 hB3 hB0 ko2 fo2 hout2 hout4 hfr K5 K6 lo2
      go_upto_region 8 with fail
      refine hcall.mono ?_
      rintro e w6 ⟨rfl, v6, ysA, hout6, hstA, hfr6⟩
      clear hcall c5 c6 cg
      have hin6 := HIN5.out.fr hfr6
      have k5 := hfr6.blk KK5.out (by have := HI.out.bs; omega) (by decide)
      have k6 := hfr6.blk KK6.out (by have := HI.out.bs; omega) (by decide)
      have hx8 : Hid (∀ W', Below w6.heap.size w6 W' → Calls Try.prog 89 #[.int .i64 ((d : Int) + 1), .int .i64 ((set : Int) + 2 ^ d), .pointer (some ⟨oB, 0, none⟩), .pointer (some ⟨rB, 0, none⟩), .pointer (some ⟨gB, 0, none⟩)] W' _) :=
        fun W' hb => by
          have h := hBB.out W' _ _ (hin6.fr (Fr.of_below hb)) (hout6.below hb)
          rw [show ((d + 1 : Nat) : Int) = (d : Int) + 1 from by omega, show ((set + 2 ^ d : Nat) : Int) = (set : Int) + 2 ^ d from by simp] at h
          exact h
      have hor2 := hor.out
      rw [show ((set + 2 ^ d : Nat) : Int) = (set : Int) + 2 ^ d from by simp] at hor2
      have KK7 := Lib.hid k5
      have KK8 := Lib.hid k6
      have HIN6 := Lib.hid hin6
      have HOUT6 := Lib.hid hout6
      have HSTA := Lib.hid hstA
      have HFR6 := Lib.hid hfr6
      have c5 := k5.cell 0
      have c6 := k6.cell 0
      have cg := hin6.gbox.cell 0
      have lg6 := hin6.gbox.lt
      have l5 := k5.lt
      have l6 := k6.lt
      have hd12 : (d : Int) < 64 := by omega
      have hp0 : (0 : Int) ≤ 2 ^ d ∧ (2 : Int) ^ d < 2 ^ 63 := by
        have e : ((2 ^ d : Nat) : Int) = (2 : Int) ^ d := by simp
        omega
      have hw1 : IntKind.i64.wrap ((d : Int) + 1) = (d : Int) + 1 := wraps_i64 _ (by omega) (by omega)
      have hw2 : IntKind.i64.wrap ((2 : Int) ^ d) = (2 : Int) ^ d := wraps_i64 _ hp0.1 hp0.2
      simp only [List.getElem?_toArray, List.getElem?_cons_zero] at c5 c6 cg
      clear k5 k6 hin6 hout6 hstA hfr6 hBB hA
      go_wp2_with fail
      go_region_held3 (fun w' => w'.cell? ⟨gB, 0, none⟩ = some (.func (.func 89) #[] #[.pointer (some ⟨oB, 0, none⟩), .pointer (some ⟨rB, 0, none⟩), .pointer (some ⟨gB, 0, none⟩)]) ∧ w'.cell? ⟨W.heap.size, 0, none⟩ = some (.int .i64 d) ∧ w'.cell? ⟨W.heap.size + 1, 0, none⟩ = some (.int .i64 set))
        (first | go_keep | exact ⟨by have := (hfr8.blk (show Blk w6.drew gB _ _ from HIN6.out.gbox) HI.out.go (by decide)).cell 0; simpa using this, by have := (hfr8.blk (show Blk w6.drew W.heap.size _ _ from KK7.out) (by have := HI.out.bs; omega) (by decide)).cell 0; simpa using this, by have := (hfr8.blk (show Blk w6.drew (W.heap.size + 1) _ _ from KK8.out) (by have := HI.out.bs; omega) (by decide)).cell 0; simpa using this⟩)
        ((go_at_call 89; refine (hx8.out _ (by exact (Below.refl _ _).drew)).mono ?_; rintro e w8 ⟨rfl, v8, ysB, hout8, hstB, hfr8⟩))
      obtain ⟨g8, cap8, rfl⟩ := ownsRow_form hout8.row (by omega)
      have ko8 := hout8.box.cell 0
      simp only [List.getElem?_toArray, List.getElem?_cons_zero] at ko8
      have r1 := hout8.row.cellAt (n * 4 + 1) (by omega)
      have r2 := hout8.row.cellAt (n * 4 + 2) (by omega)
      have f1 := hout8.row.frozenAt (n * 4 + 1)
      have f2 := hout8.row.frozenAt (n * 4 + 2)
      have hxl : xs.length = n * 4 := HO.out.row.1
      rw [List.append_assoc, List.append_assoc, List.getElem?_append_right (by omega), hxl, show n * 4 + 1 - n * 4 = 1 from by omega] at r1
      rw [List.append_assoc, List.append_assoc, List.getElem?_append_right (by omega), hxl, show n * 4 + 2 - n * 4 = 2 from by omega] at r2
      simp only [List.cons_append, List.getElem?_cons_succ, List.getElem?_cons_zero] at r1 r2
      have hnl : (n : Int) < ((n + 1 + LA.length + LB.length : Nat) : Int) := by omega
      have HOUT8 := Lib.hid hout8
      have HSTB := Lib.hid hstB
      have HFR8 := Lib.hid hfr8
      clear hstB hfr8 hout8 hor2 hw1 hw2
      go_wp2_with fail
      go_region
      go_wp2
      go_ret
      have s1 := HOUT8.out.stored (n * 4 + 1) (.int .i64 ((n : Int) + 1))
      have s2 := s1.1.stored (n * 4 + 2) (.int .i64 ((n : Int) + 1 + LA.length))
      have fA : Fr oB base w6 w6.drew := Fr.of_below (Below.refl _ _).drew
      have fB : Fr oB base w8 _ := (s1.2.trans s2.2).trans (Fr.of_below (Below.refl _ _).drew)
      have hxs : (((xs ++ [Value.int .i64 d, .int .i64 0, .int .i64 0, .slice none 0 0]) ++ ysA ++ ysB).set (n * 4 + 1) (.int .i64 ((n : Int) + 1))).set (n * 4 + 2) (.int .i64 ((n : Int) + 1 + LA.length)) =
          xs ++ (.int .i64 d :: .int .i64 ((n + 1 : Nat) : Int) :: .int .i64 ((n + 1 + LA.length : Nat) : Int) :: .slice none 0 0 :: (ysA ++ ysB)) := by
        rw [List.append_assoc, List.append_assoc, ← hxl, set_mid, set_mid]
        simp
      have o8 := s2.1.below (Below.refl _ _).drew
      rw [hxs] at o8
      have hlen8 : n + 1 + LA.length + LB.length = n + (LA.length + LB.length + 1) := by omega
      refine ⟨rfl, .slice (some ⟨g8, 0, none⟩) (n + 1 + LA.length + LB.length) cap8, _, ?_, ⟨.slice none 0 0, ysA ++ ysB, rfl, .inl ⟨rfl, rfl⟩, (HSTA.out.fr (((fA.trans HFR8.out)).trans fB) HOUT6.out.not82).app (HSTB.out.fr fB HOUT8.out.not82)⟩, (((HFR5.out.trans HFR6.out).trans fA).trans HFR8.out).trans fB⟩
      rw [show n + ((LA ++ LB).length + 1) = n + 1 + LA.length + LB.length from by rw [List.length_append]; omega]
      exact o8
end Go.Proofs.Ytblmpmapcdpaiaa
end
section
/- program.proof: the plain proof. -/
namespace Go.Proofs.Ytblmpmapcdpaiaa
open Go.RowKit Lib Go.Joins

def WtC (_ : World) (cs : List Value) (x : WtD) : Prop := cs = [.int .i64 x.row, .int .i64 x.times]
abbrev WtsAt (w : World) (v : Value) (l : List WtD) : Prop := StructsOf 2 WtC w v l
def StepCs (w : World) (cs : List Value) (s : StepD) : Prop := ∃ vw, cs = [.int .i64 s.var, .int .i64 s.no, .int .i64 s.yes, vw] ∧ WtsAt w vw s.wts
theorem WtsAt.below {w w' : World} {v : Value} {l : List WtD} (h : WtsAt w v l) (hb : Below w.heap.size w w') : WtsAt w' v l := StructsOf.below (R := WtC) (fun _ _ _ _ h _ => h) h hb
theorem StepCs.below {w w' : World} {cs : List Value} {s : StepD} (h : StepCs w cs s) (hb : Below w.heap.size w w') : StepCs w' cs s := by
  obtain ⟨vw, h1, h2⟩ := h
  exact ⟨vw, h1, h2.below hb⟩
abbrev StepsAt (w : World) (v : Value) (l : List StepD) : Prop := StructsOf 4 StepCs w v l
theorem StepsAt.below {w w' : World} {v : Value} {l : List StepD} (h : StepsAt w v l) (hb : Below w.heap.size w w') : StepsAt w' v l := StructsOf.below (R := StepCs) (fun _ _ _ _ h hb => h.below hb) h hb
theorem WtV.at {w : World} {v : Value} {l : List WtD} (h : WtV w v l) : WtsAt w v l := by
  rcases h with ⟨rfl, rfl⟩ | ⟨g, x, rfl, rfl, hb⟩
  · exact ⟨none, 0, rfl, by simp, by decide, fun h => by simp at h⟩
  · refine ⟨_, 1, rfl, by simp, by decide, fun _ => ⟨g, 0, rfl, fun j y hj => ?_⟩⟩
    obtain ⟨rfl, rfl⟩ : j = 0 ∧ y = x := by
      cases j with
      | zero => simp at hj; exact ⟨rfl, hj.symm⟩
      | succ j => simp at hj
    refine ⟨_, rfl, fun i c hc => ?_, rfl⟩
    have := hb.cell i
    simp only [Nat.zero_mul, Nat.zero_add]
    rw [this]
    simpa using hc
theorem StepsC.get {W : World} : ∀ {l : List StepD} {cs : List Value}, StepsC W cs l → ∀ (j : Nat) (s : StepD), l[j]? = some s → ∃ ds, ds.length = 4 ∧ (∀ i c, ds[i]? = some c → cs[j * 4 + i]? = some c) ∧ StepCs W ds s := by
  intro l
  induction l with
  | nil => intro cs h j s hj; simp at hj
  | cons y l ih =>
    rintro cs ⟨wv, rest, rfl, h1, h2⟩ j s hj
    cases j with
    | zero =>
      simp at hj; subst hj
      refine ⟨[.int .i64 y.var, .int .i64 y.no, .int .i64 y.yes, wv], rfl, fun i c hc => ?_, wv, rfl, h1.at⟩
      simp only [Nat.zero_mul, Nat.zero_add]
      have hi : i < 4 := by
        refine Classical.byContradiction fun hcc => ?_
        rw [List.getElem?_eq_none (by simp; omega)] at hc; cases hc
      match i, hi with
      | 0, _ => exact hc
      | 1, _ => exact hc
      | 2, _ => exact hc
      | 3, _ => exact hc
    | succ j =>
      obtain ⟨ds, d1, d2, d3⟩ := ih h2 j s (by simpa using hj)
      refine ⟨ds, d1, fun i c hc => ?_, d3⟩
      have := d2 i c hc
      rw [show (j + 1) * 4 + i = j * 4 + i + 1 + 1 + 1 + 1 from by omega]
      simpa using this
theorem steps_view {W : World} {base : Nat} {v : Value} {cs : List Value} {l : List StepD} (h : W.ownsRow base 80 4 v l.length cs) (hs : StepsC W cs l) : StepsAt W v l := by
  rcases h.2 with ⟨rfl, hn⟩ | ⟨g, cap, cur, rfl, hb, hg, h1, h2, -⟩
  · exact ⟨none, 0, by rw [hn], by omega, by unfold maxLen; omega, fun hl => by omega⟩
  · refine ⟨_, cap, rfl, h1, h2, fun _ => ⟨g, 0, rfl, fun j s hj => ?_⟩⟩
    obtain ⟨ds, d1, d2, d3⟩ := hs.get j s hj
    refine ⟨ds, d1, fun i c hc => ?_, d3⟩
    have := h.cells rfl (j * 4 + i) c (d2 i c hc)
    rw [add_zero_off] at this
    simpa using this

theorem run_store_func' {P : Program} (w : World) (a : Addr) (m : Mode) (f : Fn) (x y : Array Value) : (store a (.func f x y) m).run P w = stored P w a (.func f x y) m := run_store P w a _ m rfl
attribute [local go_sem] run_store_func'
theorem WtV.other {A B : World} (hk : ∀ k cs, Blk A k cs 82 → Blk B k cs 82) {v : Value} {l : List WtD} (hv : WtV A v l) : WtV B v l := by
  rcases hv with ⟨h1, h2⟩ | ⟨g, x, h1, h2, h3⟩
  · exact .inl ⟨h1, h2⟩
  · exact .inr ⟨g, x, h1, h2, hk _ _ h3⟩
theorem StepsC.other {A B : World} (hk : ∀ k cs, Blk A k cs 82 → Blk B k cs 82) : ∀ {l : List StepD} {cs : List Value}, StepsC A cs l → StepsC B cs l := by
  intro l
  induction l with
  | nil => intro cs h; exact h
  | cons s l ih =>
    rintro cs ⟨wv, rest, rfl, h1, h2⟩
    exact ⟨wv, rest, rfl, h1.other hk, ih h2⟩
set_option maxRecDepth 100000 in
set_option maxHeartbeats 1000000 in
theorem proof_all (vr : Value) (rows : List RowD) (m : Nat) (w : World) (hv : RowsAt w vr rows) (hm : m ≤ 12) (hrows : ∀ r ∈ rows, r.coef.length = m ∧ coefOK r.coef = true)
    (hfull : ∀ s, s < 2 ^ m → badAt rows m s ≠ none) :
    Calls Try.prog 63 #[vr] w fun e w' => ∃ v' cs, e = .returned v' ∧ w'.ownsRow (w.heap.size + 3) 80 4 v' (growS rows m 0 0 0).length cs ∧ StepsC w' cs (growS rows m 0 0 0) ∧ Below w.heap.size w w' := by
  have hp : 2 ^ (m + 1) ≤ 2 ^ 13 := Nat.pow_le_pow_right (by omega) (by omega)
  have hg := Lib.hid (fun W v xs => grow_all (w.heap.size + 1) w.heap.size (w.heap.size + 2) (w.heap.size + 3) w vr rows m hm hrows hfull m 0 0 0 W v xs (by omega) (by simp) (by omega))
  generalize growS rows m 0 0 0 = L at hg ⊢
  clear hrows hfull hp
  have HV := Lib.hid hv
  obtain ⟨ra, rc, rfl, hr1, hr2⟩ := hv.len
  unfold maxLen at hr2
  clear hv
  go_enter Try.func63, Try.ntmps63
  go_wp2_with fail
  refine (hg.out _ (.slice none 0 0) [] ?_ ?_).mono ?_
  · exact ⟨(((Below.refl _ _).alloc (Nat.le_refl _) _).alloc (by simp) _).alloc (by simp; omega) _, HV.out, ((Blk.new _ _ _).alloc _).alloc _, Blk.newAt _ _ _ (by simp), by omega, by omega, by omega, by omega, by omega, by omega, by simp⟩
  · exact ⟨(Blk.newAt _ _ _ (by simp)).alloc _, World.ownsRow_nil _ _ _ _, by omega⟩
  rintro e w2 ⟨rfl, v', ys, hout, hst, hfr⟩
  have ko := hout.box.cell 0
  simp only [List.getElem?_toArray, List.getElem?_cons_zero] at ko
  go_wp2
  go_ret
  refine ⟨_, _, rfl, (by have := hout.row; rwa [Nat.zero_add] at this), hst, ?_⟩
  have hb : Below w.heap.size w (((w.alloc (.cells #[.slice ra rows.length rc] 27)).alloc (.cells #[.slice none 0 0] 35)).alloc (.cells #[.func (.func 89) #[] #[.pointer (some ⟨w.heap.size + 1, 0, none⟩), .pointer (some ⟨w.heap.size, 0, none⟩), .pointer (some ⟨w.heap.size + 1 + 1, 0, none⟩)]] 32)) :=
    (((Below.refl _ _).alloc (Nat.le_refl _) _).alloc (by simp) _).alloc (by simp; omega) _
  exact hb.trans (hfr.below (by omega) (by omega) hb.size)
end Go.Proofs.Ytblmpmapcdpaiaa
end

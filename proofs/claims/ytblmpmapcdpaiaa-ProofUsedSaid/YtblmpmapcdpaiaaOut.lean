/- A program under construction: its rows in a row of the call's own, their numbers in blocks of integers. -/
import Derived.Test.YtblmpmapcdpaiaaP16
namespace Go.Proofs.Ytblmpmapcdpaiaa
open Go.RowKit Lib

/-- In the range of a signed integer. -/
theorem wrapS (n : Int) (h₀ : -9223372036854775808 ≤ n) (h₁ : n ≤ 9223372036854775807) : IntKind.i64.wrap n = n := by rw [IntKind.wrap_i64]; omega
/-- Integers in a row of blocks of integers. -/
def O3 (W : World) (v : Value) (l : List Int) : Prop := W.ownsRow 0 3 1 v l.length (l.map (Value.int .i64))
def T3 (A B : World) : Prop := ∀ (k : Nat) (cs : Array Value) (fz : Nat × Nat), A.heap[k]? = some (.cells cs 3 fz) → B.heap[k]? = some (.cells cs 3 fz)
theorem T3.trans {A B C : World} (h : T3 A B) (k : T3 B C) : T3 A C := fun i c z e => k i c z (h i c z e)
theorem T3.of_below {A B : World} (h : Below A.heap.size A B) : T3 A B := fun k _ _ e => (h.block k (Array.getElem?_eq_some_iff.1 e).1).trans e
theorem T3.set {A : World} {b : Nat} {cs : Array Value} {t : TypeId} (hb : Blk A b cs t) (ht : t ≠ 3) (o : Nat) (u : Value) : T3 A (A.setCell ⟨b, o, none⟩ u) := fun k _ _ e => by
  refine (Below.heap_setCell A ⟨b, o, none⟩ u k (fun h => ?_)).trans e
  rw [h] at e
  have := (show A.heap[b]? = _ from hb).symm.trans e
  simp at this; exact ht this.2.1
theorem T3.grown {A B : World} {base e n m : Nat} {v : Value} {xs : List Value} {o : Obj} (hown : A.ownsRow base e n v m xs) (he : e ≠ 3) (hg : (A.alloc o).grownBy B v.ownBlock) : T3 A B := fun k cs fz h => by
  have hk := (Array.getElem?_eq_some_iff.1 h).1
  refine (hg.block k (by simp; omega) (fun e2 => ?_)).trans ((Below.heap_alloc A o k hk).trans h)
  rcases hown.2 with ⟨rfl, -⟩ | ⟨g, cap, cur, rfl, -, hgg, -⟩
  · cases e2
  · obtain rfl : k = g := by simpa [Value.ownBlock] using e2
    have := hgg.symm.trans h
    simp at this; exact he this.2.1
theorem O3.t {A B : World} {v : Value} {l : List Int} (h : O3 A v l) (k : T3 A B) : O3 B v l :=
  ⟨h.1, h.2.imp_right fun ⟨g, cap, cur, h1, h2, h3, h4⟩ => ⟨g, cap, cur, h1, h2, k _ _ _ h3, h4⟩⟩
theorem O3.ints {A : World} {v : Value} {l : List Int} (h : O3 A v l) : IntsAt A v l := owned_slice h
def RowO (W : World) (cs : List Value) (r : RowD) : Prop := ∃ vc, cs = [.int .i64 r.kind, .int .i64 r.a, .int .i64 r.b, .int .i64 r.at_, vc, .int .i64 r.most] ∧ O3 W vc r.coef
theorem RowO.t {A B : World} {cs : List Value} {r : RowD} (h : RowO A cs r) (k : T3 A B) : RowO B cs r := by
  obtain ⟨vc, h1, h2⟩ := h
  exact ⟨vc, h1, h2.t k⟩
theorem RowO.row {A : World} {cs : List Value} {r : RowD} (h : RowO A cs r) : RowCs A cs r := by
  obtain ⟨vc, h1, h2⟩ := h
  exact ⟨vc, h1, h2.ints⟩
theorem ownsRow_set_ne {W : World} {base e k : Nat} {v : Value} {n : Nat} {xs : List Value} (h : W.ownsRow base e k v n xs) {b : Nat} (hne : ∀ g, v.ownBlock = some g → g ≠ b) (o : Nat) (u : Value) : (W.setCell ⟨b, o, none⟩ u).ownsRow base e k v n xs := by
  have f := (Below.refl 0 W).setCell (p := ⟨b, o, none⟩) (Nat.zero_le _) u
  refine h.kept (row := some b) ⟨f.os, f.tape, f.output, f.size, fun k hk h2 => Below.heap_setCell W ⟨b, o, none⟩ u k (fun e => h2 (by rw [e]))⟩ ?_
  cases hv : v.ownBlock with
  | none => exact .inl rfl
  | some g => exact .inr (fun e => hne g hv (Option.some.inj e))
/-- The program under construction. -/
structure OutP (oB : Nat) (W : World) (vars : Int) (vk vg : Value) (rows : List RowD) (gain : List Int) : Prop where
  box : Blk W oB #[.int .i64 vars, vk, vg] 29
  own : ∃ cs, W.ownsRow (oB + 1) 26 6 vk rows.length cs ∧ FlatC 6 RowO W cs rows
  g : O3 W vg gain
  sz : oB + 1 ≤ W.heap.size
theorem OutP.below {oB : Nat} {W W' : World} {vars : Int} {vk vg : Value} {rows : List RowD} {gain : List Int} (h : OutP oB W vars vk vg rows gain) (hb : Below W.heap.size W W') : OutP oB W' vars vk vg rows gain := by
  obtain ⟨cs, h1, h2⟩ := h.own
  exact ⟨h.box.below hb h.box.lt, ⟨cs, owned_below h1 hb, h2.imp (fun _ _ k => k.t (T3.of_below hb))⟩, h.g.t (T3.of_below hb), Nat.le_trans h.sz hb.size⟩
/-- A row has been copied, its numbers too, and appended. -/
theorem OutP.pushed {oB tB : Nat} {W w3 w5 : World} {vars : Int} {vk vg v3 v' : Value} {rows : List RowD} {gain : List Int} {r : RowD} {ts : Array Value} {tmp : Obj} {cs : List Value}
    (h : OutP oB W vars vk vg rows gain) (h1 : W.ownsRow (oB + 1) 26 6 vk rows.length cs) (h2 : FlatC 6 RowO W cs rows) (htb : W.heap.size ≤ tB) (ht : Blk w3 tB ts 26) (hb : Below W.heap.size W w3) (h3 : O3 w3 v3 r.coef)
    (hgrow : ((w3.setCell ⟨tB, 4, none⟩ v3).alloc tmp).grownBy w5 vk.ownBlock)
    (hown : w5.ownsRow (oB + 1) 26 6 v' (rows.length + 1) (cs ++ [.int .i64 r.kind, .int .i64 r.a, .int .i64 r.b, .int .i64 r.at_, v3, .int .i64 r.most])) :
    Blk w5 oB #[.int .i64 vars, vk, vg] 29 ∧ OutP oB (w5.setCell ⟨oB, 1, none⟩ v') vars v' vg (rows ++ [r]) gain := by
  have hx := h.below hb
  have hset : (w3.setCell ⟨tB, 4, none⟩ v3).ownsRow (oB + 1) 26 6 vk rows.length cs := ownsRow_set_ne (owned_below h1 hb) (fun g hg e => by have := (h1.lt g hg).2; omega) 4 v3
  have lo := h.box.lt
  have hbx : Blk w5 oB #[.int .i64 vars, vk, vg] 29 :=
    (hgrow.block oB (by have := hb.size; simp; omega) (fun e => by have := (h1.lt oB e.symm).1; omega)).trans (((hx.box.other (a := ⟨tB, 4, none⟩) v3 (by simp; omega))).alloc tmp)
  have t1 : T3 w3 (w3.setCell ⟨tB, 4, none⟩ v3) := T3.set ht (by decide) 4 v3
  have t2 : T3 (w3.setCell ⟨tB, 4, none⟩ v3) w5 := T3.grown hset (by decide) hgrow
  have t3 : T3 w5 (w5.setCell ⟨oB, 1, none⟩ v') := T3.set hbx (by decide) 1 v'
  have t4 := (t1.trans t2).trans t3
  have t0 := (T3.of_below hb).trans t4
  refine ⟨hbx, hbx.set 1 v', ⟨_, by simpa using ownsRow_setCell_below (a := ⟨oB, 1, none⟩) hown (by simp) v', (h2.imp (fun _ _ k => k.t t0)).app (FlatC.one rfl ⟨v3, rfl, h3.t t4⟩)⟩, h.g.t t0, ?_⟩
  have := hgrow.size
  have := hb.size
  have := h.sz
  simp at *; omega
/-- A cell of a block below is written. -/
theorem OutP.setLow {oB b : Nat} {W : World} {vars : Int} {vk vg : Value} {rows : List RowD} {gain : List Int} {cs : Array Value} {t : TypeId} (h : OutP oB W vars vk vg rows gain) (hb : Blk W b cs t) (ht : t ≠ 3) (hlt : b < oB) (o : Nat) (u : Value) :
    OutP oB (W.setCell ⟨b, o, none⟩ u) vars vk vg rows gain := by
  obtain ⟨ds, h1, h2⟩ := h.own
  have t3 : T3 W (W.setCell ⟨b, o, none⟩ u) := T3.set hb ht o u
  refine ⟨h.box.other u (by simp; omega), ⟨ds, ownsRow_setCell_below h1 (show b < oB + 1 by omega) u, h2.imp (fun _ _ k => k.t t3)⟩, h.g.t t3, ?_⟩
  have := h.sz
  simp; omega
theorem OutP.prog {oB : Nat} {W : World} {vars : Int} {vk vg : Value} {rows : List RowD} {gain : List Int} (h : OutP oB W vars vk vg rows gain) : ProgV W (.agg #[.int .i64 vars, vk, vg]) ⟨vars, rows, gain⟩ := by
  obtain ⟨ds, h1, h2⟩ := h.own
  exact ⟨_, _, rfl, flat_view h1 (h2.to (fun _ _ k => k.row)), h.g.ints⟩
/-- A row of the call's own is appended. -/
theorem OutP.pushed0 {oB : Nat} {W w3 w5 : World} {vars : Int} {vk vg v3 v' : Value} {rows : List RowD} {gain : List Int} {r : RowD} {tmp : Obj} {cs : List Value}
    (h : OutP oB W vars vk vg rows gain) (h1 : W.ownsRow (oB + 1) 26 6 vk rows.length cs) (h2 : FlatC 6 RowO W cs rows) (hb : Below W.heap.size W w3) (h3 : O3 w3 v3 r.coef)
    (hgrow : (w3.alloc tmp).grownBy w5 vk.ownBlock)
    (hown : w5.ownsRow (oB + 1) 26 6 v' (rows.length + 1) (cs ++ [.int .i64 r.kind, .int .i64 r.a, .int .i64 r.b, .int .i64 r.at_, v3, .int .i64 r.most])) :
    Blk w5 oB #[.int .i64 vars, vk, vg] 29 ∧ OutP oB (w5.setCell ⟨oB, 1, none⟩ v') vars v' vg (rows ++ [r]) gain := by
  have hx := h.below hb
  have lo := h.box.lt
  have hbx : Blk w5 oB #[.int .i64 vars, vk, vg] 29 :=
    (hgrow.block oB (by have := hb.size; simp; omega) (fun e => by have := (h1.lt oB e.symm).1; omega)).trans (hx.box.alloc tmp)
  have t2 : T3 w3 w5 := T3.grown (owned_below h1 hb) (by decide) hgrow
  have t3 : T3 w5 (w5.setCell ⟨oB, 1, none⟩ v') := T3.set hbx (by decide) 1 v'
  have t4 := t2.trans t3
  have t0 := (T3.of_below hb).trans t4
  refine ⟨hbx, hbx.set 1 v', ⟨_, by simpa using ownsRow_setCell_below (a := ⟨oB, 1, none⟩) hown (by simp) v', (h2.imp (fun _ _ k => k.t t0)).app (FlatC.one rfl ⟨v3, rfl, h3.t t4⟩)⟩, h.g.t t0, ?_⟩
  have := hgrow.size
  have := hb.size
  have := h.sz
  simp at *; omega
end Go.Proofs.Ytblmpmapcdpaiaa

/- Laws over any program: a block of cells as a whole; rows of the call's own; what an operation may touch. -/
import Derived.Test.YtmajkagmcdlncaaKit
import Derived.Test.YtmajkagmcdlncaaRead
import Derived.Laws.OwnMore
import Derived.Laws.CopyRow
import Derived.Laws.Rows
namespace Go.Proofs.Ytmajkagmcdlncaa
open Go.RowKit

def Blk (W : World) (B : Nat) (cs : Array Value) (t : TypeId) : Prop := W.heap[B]? = some (.cells cs t (0, 0))
theorem Blk.lt {W : World} {B : Nat} {cs : Array Value} {t : TypeId} (h : Blk W B cs t) : B < W.heap.size := (Array.getElem?_eq_some_iff.1 h).1
theorem Blk.cell {W : World} {B : Nat} {cs : Array Value} {t : TypeId} (h : Blk W B cs t) (i : Nat) : W.cell? ⟨B, i, none⟩ = cs[i]? := by simp [World.cell?, show W.heap[B]? = _ from h]
theorem Blk.frozen {W : World} {B : Nat} {cs : Array Value} {t : TypeId} (h : Blk W B cs t) (i : Nat) : W.frozen? ⟨B, i, none⟩ = false := by simp [World.frozen?, show W.heap[B]? = _ from h]
theorem Blk.below {W W' : World} {D B : Nat} {cs : Array Value} {t : TypeId} (h : Blk W B cs t) (hb : Below D W W') (hD : B < D) : Blk W' B cs t := (hb.block B hD).trans h
theorem Blk.new (W : World) (cs : Array Value) (t : TypeId) : Blk (W.alloc (.cells cs t)) W.heap.size cs t := heap_alloc_new W _
theorem Blk.newAt (W : World) (cs : Array Value) (t : TypeId) {n : Nat} (h : n = W.heap.size) : Blk (W.alloc (.cells cs t)) n cs t := by rw [h]; exact Blk.new W cs t
theorem Blk.alloc {W : World} {B : Nat} {cs : Array Value} {t : TypeId} (h : Blk W B cs t) (o : Obj) : Blk (W.alloc o) B cs t := (Below.heap_alloc W o B h.lt).trans h
theorem Blk.set {W : World} {B : Nat} {cs : Array Value} {t : TypeId} (h : Blk W B cs t) (i : Nat) (v : Value) : Blk (W.setCell ⟨B, i, none⟩ v) B (cs.setIfInBounds i v) t := heap_setCell_same W B i cs t v h
theorem Blk.other {W : World} {B : Nat} {cs : Array Value} {t : TypeId} (h : Blk W B cs t) {a : Addr} (v : Value) (ha : B ≠ a.block) : Blk (W.setCell a v) B cs t := (heap_setCell_other W a B v ha).trans h
theorem Blk.row {W : World} {B : Nat} {cs : Array Value} {t : TypeId} (h : Blk W B cs t) (ds : Array Value) : Blk (W.setRow B ds) B ds t := setRow_heap W B cs ds t (0, 0) h
theorem Blk.rowOther {W : World} {B : Nat} {cs : Array Value} {t : TypeId} (h : Blk W B cs t) {g : Nat} (ds : Array Value) (hg : B ≠ g) : Blk (W.setRow g ds) B cs t := (setRow_other W g B ds hg).trans h
theorem Blk.ne {W : World} {A B : Nat} {cs ds : Array Value} {s t : TypeId} (h : Blk W A cs s) (k : Blk W B ds t) (hst : s ≠ t) : A ≠ B := fun e => by
  subst e
  have := (show W.heap[A]? = _ from h).symm.trans k
  simp at this; exact hst this.2
theorem Blk.uniq {W : World} {A : Nat} {cs ds : Array Value} {s t : TypeId} (h : Blk W A cs s) (k : Blk W A ds t) : cs = ds := by
  have := (show W.heap[A]? = _ from h).symm.trans k
  simp at this; exact this.1
theorem owned_len {B : Nat} {e : TypeId} {k : Nat} {v : Value} {n : Nat} {xs : List Value} {w : World} (h : w.ownsRow B e k v n xs) : ∃ (a : Option Addr) (cap : Nat), v = .slice a n cap ∧ n ≤ cap ∧ cap ≤ maxLen := by
  rcases h.2 with ⟨rfl, hn⟩ | ⟨g, cap, cur, rfl, hb, hg, h1, h2, -⟩
  · exact ⟨none, 0, by rw [hn], by omega, by unfold maxLen; omega⟩
  · exact ⟨_, cap, rfl, h1, h2⟩
theorem owned_below {B : Nat} {e : TypeId} {k : Nat} {v : Value} {n : Nat} {xs : List Value} {w w' : World} (h : w.ownsRow B e k v n xs) (hb : Below w.heap.size w w') : w'.ownsRow B e k v n xs :=
  h.kept (row := none) ⟨hb.os, hb.tape, hb.output, hb.size, fun k hk _ => hb.block k hk⟩ (by cases v.ownBlock <;> simp)
/-- The block of an own row. -/
theorem owned_block {W : World} {base e k n : Nat} {v : Value} {xs : List Value} (h : W.ownsRow base e k v n xs) {g : Nat} (hg : v.ownBlock = some g) : ∃ cur, Blk W g cur e ∧ base ≤ g := by
  rcases h.2 with ⟨rfl, -⟩ | ⟨g', cap, cur, rfl, hb, hgg, -⟩
  · cases hg
  · obtain rfl : g' = g := Option.some.inj hg
    exact ⟨cur, hgg, hb⟩
theorem owned_kept {W W' : World} {base e k n : Nat} {v : Value} {xs : List Value} (h : W.ownsRow base e k v n xs) (hb : ∀ g, v.ownBlock = some g → W'.heap[g]? = W.heap[g]?) : W'.ownsRow base e k v n xs := by
  refine ⟨h.1, ?_⟩
  rcases h.2 with hn | ⟨g, cap, cur, rfl, h1, h2, h3⟩
  · exact .inl hn
  · exact .inr ⟨g, cap, cur, rfl, h1, by rw [hb g rfl]; exact h2, h3⟩
theorem ownsRow_base {W : World} {base base' e k n : Nat} {v : Value} {xs : List Value} (h : W.ownsRow base e k v n xs) (hb : base' ≤ base) : W.ownsRow base' e k v n xs := by
  refine ⟨h.1, ?_⟩
  rcases h.2 with hn | ⟨g, cap, cur, e, h1, h2⟩
  · exact .inl hn
  · exact .inr ⟨g, cap, cur, e, Nat.le_trans hb h1, h2⟩

/-- What lies outside F is as it was; the streams too. -/
structure Frm (F : Nat → Prop) (W W' : World) : Prop where
  os : W'.os = W.os
  tape : W'.tape = W.tape
  output : W'.output = W.output
  size : W.heap.size ≤ W'.heap.size
  block : ∀ k, k < W.heap.size → ¬ F k → W'.heap[k]? = W.heap[k]?
theorem Frm.refl (F : Nat → Prop) (W : World) : Frm F W W := ⟨rfl, rfl, rfl, Nat.le_refl _, fun _ _ _ => rfl⟩
theorem Frm.mono {F G : Nat → Prop} {W W' : World} (h : Frm F W W') (hFG : ∀ k, k < W.heap.size → F k → G k) : Frm G W W' :=
  ⟨h.os, h.tape, h.output, h.size, fun k hk hn => h.block k hk (fun hf => hn (hFG k hk hf))⟩
theorem Frm.trans {F G : Nat → Prop} {a b c : World} (h : Frm F a b) (k : Frm G b c) (hG : ∀ i, i < a.heap.size → G i → F i) : Frm F a c :=
  ⟨k.os.trans h.os, k.tape.trans h.tape, k.output.trans h.output, Nat.le_trans h.size k.size, fun i hi hn => (k.block i (Nat.lt_of_lt_of_le hi h.size) (fun hg => hn (hG i hi hg))).trans (h.block i hi hn)⟩
theorem Frm.of_below {F : Nat → Prop} {W W' : World} (h : Below W.heap.size W W') : Frm F W W' := ⟨h.os, h.tape, h.output, h.size, fun k hk _ => h.block k hk⟩
theorem Frm.below {F : Nat → Prop} {W W' : World} (h : Frm F W W') {B : Nat} (hB : B ≤ W.heap.size) (hF : ∀ k, F k → B ≤ k) : Below B W W' :=
  ⟨h.os, h.tape, h.output, h.size, fun k hk => h.block k (by omega) (fun hf => by have := hF k hf; omega)⟩
theorem Frm.alloc {F : Nat → Prop} {a w : World} (h : Frm F a w) (o : Obj) : Frm F a (w.alloc o) :=
  h.trans (G := F) (Frm.of_below ((Below.refl _ _).alloc (Nat.le_refl _) o)) (fun _ _ h => h)
theorem Frm.drew {F : Nat → Prop} {a w : World} (h : Frm F a w) : Frm F a w.drew := ⟨h.os, h.tape, h.output, h.size, h.block⟩
theorem Frm.setCell {F : Nat → Prop} {a w : World} (h : Frm F a w) {b o : Nat} (hb : b < a.heap.size → F b) (u : Value) : Frm F a (w.setCell ⟨b, o, none⟩ u) :=
  h.trans (G := fun k => k = b) ⟨rfl, rfl, rfl, by simp [World.setCell], fun k _ hk => Below.heap_setCell _ _ _ _ hk⟩ (fun i hi e => by subst e; exact hb hi)
theorem Frm.setRow {F : Nat → Prop} {a w : World} (h : Frm F a w) {b : Nat} (hb : b < a.heap.size → F b) (cs : Array Value) : Frm F a (w.setRow b cs) :=
  h.trans (G := fun k => k = b) ⟨rfl, rfl, rfl, by simp, fun k _ hk => setRow_other _ _ _ _ hk⟩ (fun i hi e => by subst e; exact hb hi)
theorem Frm.grown {F : Nat → Prop} {a w w' : World} {row : Option Nat} (h : Frm F a w) (hg : w.grownBy w' row) (hr : ∀ k, row = some k → k < a.heap.size → F k) : Frm F a w' :=
  h.trans (G := fun k => row = some k) ⟨hg.os, hg.tape, hg.output, hg.size, fun k hk hn => hg.block k hk (fun e => hn e.symm)⟩ (fun i hi e => hr i e hi)
theorem Blk.frm {F : Nat → Prop} {W W' : World} {B : Nat} {cs : Array Value} {t : TypeId} (h : Blk W B cs t) (hf : Frm F W W') (hB : ¬ F B) : Blk W' B cs t := (hf.block B h.lt hB).trans h

/-! ### copy: from a string, and from a slice; clear -/
section
variable {P : Program}
def bcs (l : List UInt8) : List Value := l.map fun b => .int .u8 (b.toNat : Int)
theorem bcs_len (l : List UInt8) : (bcs l).length = l.length := by simp [bcs]
theorem bcs_one (l : List UInt8) : ∀ v ∈ bcs l, v.oneCell' = true := by
  intro v hv; simp only [bcs, List.mem_map] at hv; obtain ⟨b, -, rfl⟩ := hv; rfl
theorem bcs_app (l m : List UInt8) : bcs (l ++ m) = bcs l ++ bcs m := by simp [bcs]
theorem bcs_take (l : List UInt8) (n : Nat) : bcs (l.take n) = (bcs l).take n := by simp [bcs, List.map_take]
theorem bcs_drop (l : List UInt8) (n : Nat) : bcs (l.drop n) = (bcs l).drop n := by simp [bcs, List.map_drop]
end
end Go.Proofs.Ytmajkagmcdlncaa

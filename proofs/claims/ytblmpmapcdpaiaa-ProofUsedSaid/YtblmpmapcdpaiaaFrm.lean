/- What an operation may touch. -/
import Derived.Test.YtblmpmapcdpaiaaBlk
import Derived.Laws.CopyRow
namespace Go.Proofs.Ytblmpmapcdpaiaa
open Go.RowKit

theorem Blk.row {W : World} {B : Nat} {cs : Array Value} {t : TypeId} (h : Blk W B cs t) (ds : Array Value) : Blk (W.setRow B ds) B ds t := setRow_heap W B cs ds t (0, 0) h
theorem Blk.rowOther {W : World} {B : Nat} {cs : Array Value} {t : TypeId} (h : Blk W B cs t) {g : Nat} (ds : Array Value) (hg : B ≠ g) : Blk (W.setRow g ds) B cs t := (setRow_other W g B ds hg).trans h
theorem Blk.ne {W : World} {A B : Nat} {cs ds : Array Value} {s t : TypeId} (h : Blk W A cs s) (k : Blk W B ds t) (hst : s ≠ t) : A ≠ B := fun e => by
  subst e
  have := (show W.heap[A]? = _ from h).symm.trans k
  simp at this; exact hst this.2
theorem Blk.uniq {W : World} {A : Nat} {cs ds : Array Value} {s t : TypeId} (h : Blk W A cs s) (k : Blk W A ds t) : cs = ds := by
  have := (show W.heap[A]? = _ from h).symm.trans k
  simp at this; exact this.1
theorem owned_block {W : World} {base e k n : Nat} {v : Value} {xs : List Value} (h : W.ownsRow base e k v n xs) {g : Nat} (hg : v.ownBlock = some g) : ∃ cur, Blk W g cur e ∧ base ≤ g := by
  rcases h.2 with ⟨rfl, -⟩ | ⟨g', cap, cur, rfl, hb, hgg, -⟩
  · cases hg
  · obtain rfl : g' = g := Option.some.inj hg
    exact ⟨cur, hgg, hb⟩
theorem owned_kept {W W' : World} {base e k n : Nat} {v : Value} {xs : List Value} (h : W.ownsRow base e k v n xs) (hb : ∀ g, v.ownBlock = some g → W'.heap[g]? = W.heap[g]?) : W'.ownsRow base e k v n xs := by
  refine ⟨h.1, ?_⟩
  rcases h.2 with hn | ⟨g, cap, cur, rfl, h1, h2, h3⟩
  · exact .inl hn
  · exact .inr ⟨g, cap, cur, rfl, h1, by rw [hb g rfl]; exact h2, h3⟩
theorem ownsRow_baseF {W : World} {base base' e k n : Nat} {v : Value} {xs : List Value} (h : W.ownsRow base e k v n xs) (hb : base' ≤ base) : W.ownsRow base' e k v n xs := by
  refine ⟨h.1, ?_⟩
  rcases h.2 with hn | ⟨g, cap, cur, e, h1, h2⟩
  · exact .inl hn
  · exact .inr ⟨g, cap, cur, e, Nat.le_trans hb h1, h2⟩

/-- What lies outside F is as it was; the streams too. -/
structure Frm (F : Nat → Prop) (W W' : World) : Prop where
  os : W'.os = W.os
  tape : W'.tape = W.tape
  output : W'.output = W.output
  size : W.heap.size ≤ W'.heap.size
  block : ∀ k, k < W.heap.size → ¬ F k → W'.heap[k]? = W.heap[k]?
theorem Frm.refl (F : Nat → Prop) (W : World) : Frm F W W := ⟨rfl, rfl, rfl, Nat.le_refl _, fun _ _ _ => rfl⟩
theorem Frm.mono {F G : Nat → Prop} {W W' : World} (h : Frm F W W') (hFG : ∀ k, k < W.heap.size → F k → G k) : Frm G W W' :=
  ⟨h.os, h.tape, h.output, h.size, fun k hk hn => h.block k hk (fun hf => hn (hFG k hk hf))⟩
theorem Frm.trans {F G : Nat → Prop} {a b c : World} (h : Frm F a b) (k : Frm G b c) (hG : ∀ i, i < a.heap.size → G i → F i) : Frm F a c :=
  ⟨k.os.trans h.os, k.tape.trans h.tape, k.output.trans h.output, Nat.le_trans h.size k.size, fun i hi hn => (k.block i (Nat.lt_of_lt_of_le hi h.size) (fun hg => hn (hG i hi hg))).trans (h.block i hi hn)⟩
theorem Frm.of_below {F : Nat → Prop} {W W' : World} (h : Below W.heap.size W W') : Frm F W W' := ⟨h.os, h.tape, h.output, h.size, fun k hk _ => h.block k hk⟩
theorem Frm.below {F : Nat → Prop} {W W' : World} (h : Frm F W W') {B : Nat} (hB : B ≤ W.heap.size) (hF : ∀ k, F k → B ≤ k) : Below B W W' :=
  ⟨h.os, h.tape, h.output, h.size, fun k hk => h.block k (by omega) (fun hf => by have := hF k hf; omega)⟩
theorem Frm.alloc {F : Nat → Prop} {a w : World} (h : Frm F a w) (o : Obj) : Frm F a (w.alloc o) :=
  h.trans (G := F) (Frm.of_below ((Below.refl _ _).alloc (Nat.le_refl _) o)) (fun _ _ h => h)
theorem Frm.drew {F : Nat → Prop} {a w : World} (h : Frm F a w) : Frm F a w.drew := ⟨h.os, h.tape, h.output, h.size, h.block⟩
theorem Frm.setCell {F : Nat → Prop} {a w : World} (h : Frm F a w) {b o : Nat} (hb : b < a.heap.size → F b) (u : Value) : Frm F a (w.setCell ⟨b, o, none⟩ u) :=
  h.trans (G := fun k => k = b) ⟨rfl, rfl, rfl, by simp [World.setCell], fun k _ hk => Below.heap_setCell _ _ _ _ hk⟩ (fun i hi e => by subst e; exact hb hi)
theorem Frm.setRow {F : Nat → Prop} {a w : World} (h : Frm F a w) {b : Nat} (hb : b < a.heap.size → F b) (cs : Array Value) : Frm F a (w.setRow b cs) :=
  h.trans (G := fun k => k = b) ⟨rfl, rfl, rfl, by simp, fun k _ hk => setRow_other _ _ _ _ hk⟩ (fun i hi e => by subst e; exact hb hi)
theorem Frm.grown {F : Nat → Prop} {a w w' : World} {row : Option Nat} (h : Frm F a w) (hg : w.grownBy w' row) (hr : ∀ k, row = some k → k < a.heap.size → F k) : Frm F a w' :=
  h.trans (G := fun k => row = some k) ⟨hg.os, hg.tape, hg.output, hg.size, fun k hk hn => hg.block k hk (fun e => hn e.symm)⟩ (fun i hi e => hr i e hi)
theorem Blk.frm {F : Nat → Prop} {W W' : World} {B : Nat} {cs : Array Value} {t : TypeId} (h : Blk W B cs t) (hf : Frm F W W') (hB : ¬ F B) : Blk W' B cs t := (hf.block B h.lt hB).trans h

end Go.Proofs.Ytblmpmapcdpaiaa

/- A block of cells, as a whole. -/
import Derived.Test.YtblmpmapcdpaiaaOwn
import Derived.Laws.Rows
namespace Go.Proofs.Ytblmpmapcdpaiaa
open Go.RowKit

def Blk (W : World) (B : Nat) (cs : Array Value) (t : TypeId) : Prop := W.heap[B]? = some (.cells cs t (0, 0))
theorem Blk.lt {W : World} {B : Nat} {cs : Array Value} {t : TypeId} (h : Blk W B cs t) : B < W.heap.size := (Array.getElem?_eq_some_iff.1 h).1
theorem Blk.cell {W : World} {B : Nat} {cs : Array Value} {t : TypeId} (h : Blk W B cs t) (i : Nat) : W.cell? ⟨B, i, none⟩ = cs[i]? := by simp [World.cell?, show W.heap[B]? = _ from h]
theorem Blk.frozen {W : World} {B : Nat} {cs : Array Value} {t : TypeId} (h : Blk W B cs t) (i : Nat) : W.frozen? ⟨B, i, none⟩ = false := by simp [World.frozen?, show W.heap[B]? = _ from h]
theorem Blk.below {W W' : World} {D B : Nat} {cs : Array Value} {t : TypeId} (h : Blk W B cs t) (hb : Below D W W') (hD : B < D) : Blk W' B cs t := (hb.block B hD).trans h
theorem Blk.new (W : World) (cs : Array Value) (t : TypeId) : Blk (W.alloc (.cells cs t)) W.heap.size cs t := heap_alloc_new W _
theorem Blk.newAt (W : World) (cs : Array Value) (t : TypeId) {n : Nat} (h : n = W.heap.size) : Blk (W.alloc (.cells cs t)) n cs t := by rw [h]; exact Blk.new W cs t
theorem Blk.alloc {W : World} {B : Nat} {cs : Array Value} {t : TypeId} (h : Blk W B cs t) (o : Obj) : Blk (W.alloc o) B cs t := (Below.heap_alloc W o B h.lt).trans h
theorem Blk.set {W : World} {B : Nat} {cs : Array Value} {t : TypeId} (h : Blk W B cs t) (i : Nat) (v : Value) : Blk (W.setCell ⟨B, i, none⟩ v) B (cs.setIfInBounds i v) t := heap_setCell_same W B i cs t v h
theorem Blk.other {W : World} {B : Nat} {cs : Array Value} {t : TypeId} (h : Blk W B cs t) {a : Addr} (v : Value) (ha : B ≠ a.block) : Blk (W.setCell a v) B cs t := (heap_setCell_other W a B v ha).trans h
theorem owned_len {B : Nat} {e : TypeId} {k : Nat} {v : Value} {n : Nat} {xs : List Value} {w : World} (h : w.ownsRow B e k v n xs) : SlicesLen v n := by
  rcases h.2 with ⟨rfl, hn⟩ | ⟨g, cap, cur, rfl, hb, hg, h1, h2, -⟩
  · exact ⟨none, 0, by rw [hn], by omega, by unfold maxLen; omega⟩
  · exact ⟨_, cap, rfl, h1, h2⟩
end Go.Proofs.Ytblmpmapcdpaiaa

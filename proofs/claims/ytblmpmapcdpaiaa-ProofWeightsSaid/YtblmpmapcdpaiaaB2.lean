/- Texts Own, Blk in one. -/
import Derived.Test.YtblmpmapcdpaiaaB1
import Derived.Laws.OwnMore
import Derived.Laws.Rows
section
/- Rows of the call's own: under growth, as slices; appending an element of several cells. -/
namespace Go.Proofs.Ytblmpmapcdpaiaa
open Go.RowKit

theorem owned_below {B : Nat} {e : TypeId} {k : Nat} {v : Value} {n : Nat} {xs : List Value} {w w' : World} (h : w.ownsRow B e k v n xs) (hb : Below w.heap.size w w') : w'.ownsRow B e k v n xs :=
  h.kept (row := none) ⟨hb.os, hb.tape, hb.output, hb.size, fun k hk _ => hb.block k hk⟩ (by cases v.ownBlock <;> simp)
theorem owned_slice {α : Type} {f : α → Value} {B : Nat} {e : TypeId} {v : Value} {l : List α} {w : World} (h : w.ownsRow B e 1 v l.length (l.map f)) : SliceOf f w v l := by
  rcases h.2 with ⟨rfl, hn⟩ | ⟨g, cap, cur, rfl, hb, hg, h1, h2, -⟩
  · exact ⟨none, 0, by rw [hn], by omega, by unfold maxLen; omega, fun hl => by omega⟩
  · refine ⟨_, cap, rfl, h1, h2, fun _ => ⟨g, 0, rfl, fun j y hj => ?_⟩⟩
    have := h.cells rfl j (f y) (by rw [List.getElem?_map, hj]; rfl)
    rw [add_zero_off] at this
    simpa using this
/-- The cells of a row of structs, one after the other. -/
def flat {α : Type} (f : α → List Value) (l : List α) : List Value := l.flatMap f
theorem flat_get {α : Type} {f : α → List Value} {n : Nat} (hf : ∀ y, (f y).length = n) : ∀ (l : List α) (j : Nat) (y : α), l[j]? = some y → ∀ i c, (f y)[i]? = some c → (flat f l)[j * n + i]? = some c := by
  intro l
  induction l with
  | nil => intro j y h; simp at h
  | cons x l ih =>
    intro j y h i c hc
    have hi : i < n := by
      rw [← hf y]
      refine Classical.byContradiction fun hcc => ?_
      rw [List.getElem?_eq_none (by omega)] at hc; cases hc
    cases j with
    | zero =>
      simp at h; subst h
      simp only [flat, List.flatMap_cons, Nat.zero_mul, Nat.zero_add]
      rw [List.getElem?_append_left (by rw [hf]; exact hi)]; exact hc
    | succ j =>
      have := ih j y (by simpa using h) i c hc
      simp only [flat, List.flatMap_cons]
      rw [List.getElem?_append_right (by rw [hf, Nat.succ_mul]; omega), hf]
      rw [show (j + 1) * n + i - n = j * n + i from by rw [Nat.succ_mul]; omega]
      exact this
theorem flat_len {α : Type} {f : α → List Value} {n : Nat} (hf : ∀ y, (f y).length = n) (l : List α) : (flat f l).length = l.length * n := by
  induction l with
  | nil => simp [flat]
  | cons x l ih => simp only [flat, List.flatMap_cons, List.length_append, hf, List.length_cons] at ih ⊢; rw [ih, Nat.succ_mul]; omega
theorem owned_structs {α : Type} {f : α → List Value} {n : Nat} {R : World → List Value → α → Prop} {B : Nat} {e : TypeId} {v : Value} {l : List α} {w : World} (hf : ∀ y, (f y).length = n)
    (h : w.ownsRow B e n v l.length (flat f l)) (hR : ∀ y ∈ l, R w (f y) y) : StructsOf n R w v l := by
  rcases h.2 with ⟨rfl, hn⟩ | ⟨g, cap, cur, rfl, hb, hg, h1, h2, -⟩
  · exact ⟨none, 0, by rw [hn], by omega, by unfold maxLen; omega, fun hl => by omega⟩
  · refine ⟨_, cap, rfl, h1, h2, fun _ => ⟨g, 0, rfl, fun j y hj => ⟨f y, hf y, fun i c hc => ?_, hR y (List.mem_of_getElem? hj)⟩⟩⟩
    have := h.cells rfl (j * n + i) c (flat_get hf l j y hj i c hc)
    rw [add_zero_off] at this
    simpa using this
/-- 'out = append(out, x)', x of several cells. -/
theorem wpList_pushN {P : Program} {ops : Array Oper} {rest : List Oper} {o : Oper} {a : Act} {Q : Exit → Act → World → Prop} {t e : TypeId} {z : Value} {size bytes : Nat} {w0 : World} {us : List Value}
    (E : ElemOK P t e z size bytes) (hgd : o.guard = none) (s x : Operand)
    (ho : o.op = .call { callee := .builtin .append, args := #[s, x], argTypes := #[t, t] })
    (base : Nat) {v : Value} {n : Nat} {xs : List Value} (hown : w0.ownsRow base e size v n xs) (hs : a.eval s = v) (hx : a.eval x = .slice (some ⟨w0.heap.size, 0, none⟩) 1 1)
    (hus : us.length = size) (h1 : ∀ u ∈ us, u.oneCell' = true) (h63 : n + 1 ≤ maxLen) (hbytes : (n + 1) * bytes ≤ 140737488355328) (hbase : base ≤ w0.heap.size)
    (h : ∀ v' w', w'.ownsRow base e size v' (n + 1) (xs ++ us) → (w0.alloc (.cells us.toArray e)).grownBy w' v.ownBlock → Below base w0 w' → wpList P ops Q rest (a.put o.dst v') w') :
    wpList P ops Q (o :: rest) a (w0.alloc (.cells us.toArray e)) := by
  obtain ⟨i, hi, hz0, hz1, hz2⟩ := info_parts E.info
  refine wpList_append_own _ hgd s x t ho base e i z size bytes E.und hi hz0 hz1 hz2 E.zs E.pos v n xs hs (hown.alloc _) ⟨w0.heap.size, 0, none⟩ 1 1 us hx (by rw [hus, Nat.one_mul]) ?_ ?_ h63 hbytes (by simp; omega) ?_
  · intro j y hj
    rw [add_zero_off, World.cell?_alloc_at _ _ _ _ rfl]
    simpa using hj
  · exact h1
  · intro v' w' ho' hg _
    exact h v' w' ho' hg (grown_below hown hg hbase)
end Go.Proofs.Ytblmpmapcdpaiaa
end
section
/- A block of cells, as a whole. -/
namespace Go.Proofs.Ytblmpmapcdpaiaa
open Go.RowKit

def Blk (W : World) (B : Nat) (cs : Array Value) (t : TypeId) : Prop := W.heap[B]? = some (.cells cs t (0, 0))
theorem Blk.lt {W : World} {B : Nat} {cs : Array Value} {t : TypeId} (h : Blk W B cs t) : B < W.heap.size := (Array.getElem?_eq_some_iff.1 h).1
theorem Blk.cell {W : World} {B : Nat} {cs : Array Value} {t : TypeId} (h : Blk W B cs t) (i : Nat) : W.cell? ⟨B, i, none⟩ = cs[i]? := by simp [World.cell?, show W.heap[B]? = _ from h]
theorem Blk.frozen {W : World} {B : Nat} {cs : Array Value} {t : TypeId} (h : Blk W B cs t) (i : Nat) : W.frozen? ⟨B, i, none⟩ = false := by simp [World.frozen?, show W.heap[B]? = _ from h]
theorem Blk.below {W W' : World} {D B : Nat} {cs : Array Value} {t : TypeId} (h : Blk W B cs t) (hb : Below D W W') (hD : B < D) : Blk W' B cs t := (hb.block B hD).trans h
theorem Blk.new (W : World) (cs : Array Value) (t : TypeId) : Blk (W.alloc (.cells cs t)) W.heap.size cs t := heap_alloc_new W _
theorem Blk.newAt (W : World) (cs : Array Value) (t : TypeId) {n : Nat} (h : n = W.heap.size) : Blk (W.alloc (.cells cs t)) n cs t := by rw [h]; exact Blk.new W cs t
theorem Blk.alloc {W : World} {B : Nat} {cs : Array Value} {t : TypeId} (h : Blk W B cs t) (o : Obj) : Blk (W.alloc o) B cs t := (Below.heap_alloc W o B h.lt).trans h
theorem Blk.set {W : World} {B : Nat} {cs : Array Value} {t : TypeId} (h : Blk W B cs t) (i : Nat) (v : Value) : Blk (W.setCell ⟨B, i, none⟩ v) B (cs.setIfInBounds i v) t := heap_setCell_same W B i cs t v h
theorem Blk.other {W : World} {B : Nat} {cs : Array Value} {t : TypeId} (h : Blk W B cs t) {a : Addr} (v : Value) (ha : B ≠ a.block) : Blk (W.setCell a v) B cs t := (heap_setCell_other W a B v ha).trans h
theorem owned_len {B : Nat} {e : TypeId} {k : Nat} {v : Value} {n : Nat} {xs : List Value} {w : World} (h : w.ownsRow B e k v n xs) : SlicesLen v n := by
  rcases h.2 with ⟨rfl, hn⟩ | ⟨g, cap, cur, rfl, hb, hg, h1, h2, -⟩
  · exact ⟨none, 0, by rw [hn], by omega, by unfold maxLen; omega⟩
  · exact ⟨_, cap, rfl, h1, h2⟩
end Go.Proofs.Ytblmpmapcdpaiaa
end

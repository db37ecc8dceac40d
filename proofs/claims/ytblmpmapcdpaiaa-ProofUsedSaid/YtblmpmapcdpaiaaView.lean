/- How rows, programs, steps lie in memory: views that whatever lies above the heap's size leaves as they are. -/
import Derived.Test.YtblmpmapcdpaiaaPlain
import Derived.Test.YtblmpmapcdpaiaaKit
import Derived.Test.YtblmpmapcdpaiaaRead
namespace Go.Proofs.Ytblmpmapcdpaiaa
open Go.RowKit

/-- A slice of elements of n cells each; R says what an element's cells are. -/
def StructsOf {α : Type} (n : Nat) (R : World → List Value → α → Prop) (w : World) (v : Value) (l : List α) : Prop :=
  ∃ (a : Option Addr) (cap : Nat), v = .slice a l.length cap ∧ l.length ≤ cap ∧ cap ≤ maxLen ∧
    (0 < l.length → ∃ b off, a = some ⟨b, off, none⟩ ∧ ∀ j y, l[j]? = some y → ∃ cs, cs.length = n ∧ (∀ i c, cs[i]? = some c → w.cell? ⟨b, off + j * n + i, none⟩ = some c) ∧ R w cs y)
theorem StructsOf.below {α : Type} {n : Nat} {R : World → List Value → α → Prop} (hR : ∀ (w w' : World) (cs : List Value) (y : α), R w cs y → Below w.heap.size w w' → R w' cs y)
    {w w' : World} {v : Value} {l : List α} (h : StructsOf n R w v l) (hb : Below w.heap.size w w') : StructsOf n R w' v l := by
  obtain ⟨a, cap, h1, h2, h3, h4⟩ := h
  refine ⟨a, cap, h1, h2, h3, fun hl => ?_⟩
  obtain ⟨b, off, rfl, h5⟩ := h4 hl
  refine ⟨b, off, rfl, fun j y hj => ?_⟩
  obtain ⟨cs, c1, c2, c3⟩ := h5 j y hj
  exact ⟨cs, c1, fun i c hc => (hb.cell (World.block_lt_of_cell? _ _ (c2 i c hc))).trans (c2 i c hc), hR _ _ _ _ c3 hb⟩

abbrev IntsAt (w : World) (v : Value) (l : List Int) : Prop := SliceOf (Value.int .i64) w v l
def RowCs (w : World) (cs : List Value) (r : RowD) : Prop := ∃ vc, cs = [.int .i64 r.kind, .int .i64 r.a, .int .i64 r.b, .int .i64 r.at_, vc, .int .i64 r.most] ∧ IntsAt w vc r.coef
theorem RowCs.below {w w' : World} {cs : List Value} {r : RowD} (h : RowCs w cs r) (hb : Below w.heap.size w w') : RowCs w' cs r := by
  obtain ⟨vc, h1, h2⟩ := h
  exact ⟨vc, h1, h2.below hb⟩
def RowsAt (w : World) (v : Value) (l : List RowD) : Prop := StructsOf 6 RowCs w v l
theorem RowsAt.below {w w' : World} {v : Value} {l : List RowD} (h : RowsAt w v l) (hb : Below w.heap.size w w') : RowsAt w' v l := StructsOf.below (R := RowCs) (fun _ _ _ _ h hb => h.below hb) h hb
/-- A row as a value. -/
def RowV (w : World) (v : Value) (r : RowD) : Prop := ∃ vc, v = .agg #[.int .i64 r.kind, .int .i64 r.a, .int .i64 r.b, .int .i64 r.at_, vc, .int .i64 r.most] ∧ IntsAt w vc r.coef
theorem RowV.below {w w' : World} {v : Value} {r : RowD} (h : RowV w v r) (hb : Below w.heap.size w w') : RowV w' v r := by
  obtain ⟨vc, h1, h2⟩ := h
  exact ⟨vc, h1, h2.below hb⟩
/-- A program as a value. -/
def ProgV (w : World) (v : Value) (p : ProgD) : Prop := ∃ vr vg, v = .agg #[.int .i64 p.vars, vr, vg] ∧ RowsAt w vr p.rows ∧ IntsAt w vg p.gain
theorem ProgV.below {w w' : World} {v : Value} {p : ProgD} (h : ProgV w v p) (hb : Below w.heap.size w w') : ProgV w' v p := by
  obtain ⟨vr, vg, h1, h2, h3⟩ := h
  exact ⟨vr, vg, h1, h2.below hb, h3.below hb⟩

/-- The element of a slice of rows at a place: its six cells. -/
theorem RowsAt.get {w : World} {a : Option Addr} {len cap : Nat} {l : List RowD} (h : RowsAt w (.slice a len cap) l) {k : Nat} {r : RowD} (hk : l[k]? = some r) :
    ∃ b off vc, a = some ⟨b, off, none⟩ ∧ w.cell? ⟨b, off + k * 6, none⟩ = some (.int .i64 r.kind) ∧ w.cell? ⟨b, off + k * 6 + 1, none⟩ = some (.int .i64 r.a) ∧ w.cell? ⟨b, off + k * 6 + 2, none⟩ = some (.int .i64 r.b) ∧
      w.cell? ⟨b, off + k * 6 + 3, none⟩ = some (.int .i64 r.at_) ∧ w.cell? ⟨b, off + k * 6 + 4, none⟩ = some vc ∧ w.cell? ⟨b, off + k * 6 + 5, none⟩ = some (.int .i64 r.most) ∧ IntsAt w vc r.coef := by
  obtain ⟨a', cap', e, h2, h3, h4⟩ := h
  have hl : 0 < l.length := by
    refine Classical.byContradiction fun hc => ?_
    rw [List.getElem?_eq_none (by omega)] at hk; cases hk
  obtain ⟨b, off, rfl, h5⟩ := h4 hl
  obtain ⟨cs, c1, c2, vc, rfl, c3⟩ := h5 k r hk
  cases e
  exact ⟨b, off, vc, rfl, c2 0 _ rfl, c2 1 _ rfl, c2 2 _ rfl, c2 3 _ rfl, c2 4 _ rfl, c2 5 _ rfl, c3⟩
theorem SliceOf.get {α : Type} {f : α → Value} {w : World} {a : Option Addr} {len cap : Nat} {l : List α} (h : SliceOf f w (.slice a len cap) l) {k : Nat} {y : α} (hk : l[k]? = some y) :
    ∃ b off, a = some ⟨b, off, none⟩ ∧ w.cell? ⟨b, off + k, none⟩ = some (f y) := by
  obtain ⟨a', cap', e, h2, h3, h4⟩ := h
  have hl : 0 < l.length := by
    refine Classical.byContradiction fun hc => ?_
    rw [List.getElem?_eq_none (by omega)] at hk; cases hk
  obtain ⟨b, off, rfl, h5⟩ := h4 hl
  cases e
  exact ⟨b, off, rfl, h5 k y hk⟩
theorem getD_some {α : Type} {l : List α} {k : Nat} (d : α) (h : k < l.length) : l[k]? = some (l.getD k d) := by
  rw [List.getD_eq_getElem?_getD, List.getElem?_eq_getElem h]; rfl
/-- A slice value of that length. -/
def SlicesLen (v : Value) (n : Nat) : Prop := ∃ (a : Option Addr) (cap : Nat), v = .slice a n cap ∧ n ≤ cap ∧ cap ≤ maxLen
theorem StructsOf.len {α : Type} {n : Nat} {R : World → List Value → α → Prop} {w : World} {v : Value} {l : List α} (h : StructsOf n R w v l) : SlicesLen v l.length := by
  obtain ⟨a, cap, h1, h2, h3, -⟩ := h; exact ⟨a, cap, h1, h2, h3⟩
theorem SliceOf.len {α : Type} {f : α → Value} {w : World} {v : Value} {l : List α} (h : SliceOf f w v l) : SlicesLen v l.length := by
  obtain ⟨a, cap, h1, h2, h3, -⟩ := h; exact ⟨a, cap, h1, h2, h3⟩
end Go.Proofs.Ytblmpmapcdpaiaa

/- The cells of a slice of structs, one after the other. -/
import Derived.Test.YtblmpmapcdpaiaaBlk
namespace Go.Proofs.Ytblmpmapcdpaiaa
open Go.RowKit

def FlatC {α : Type} (n : Nat) (R : World → List Value → α → Prop) (W : World) : List Value → List α → Prop
  | cs, [] => cs = []
  | cs, y :: l => ∃ ds rest, cs = ds ++ rest ∧ ds.length = n ∧ R W ds y ∧ FlatC n R W rest l
section
variable {α : Type} {n : Nat} {R : World → List Value → α → Prop} {W : World}
theorem FlatC.len : ∀ {l : List α} {cs : List Value}, FlatC n R W cs l → cs.length = l.length * n := by
  intro l
  induction l with
  | nil => intro cs h; rw [show cs = [] from h]; simp
  | cons y l ih =>
    rintro cs ⟨ds, rest, rfl, h1, -, h⟩
    rw [List.length_append, ih h, h1, List.length_cons, Nat.succ_mul]; omega
theorem FlatC.app : ∀ {l m : List α} {cs ds : List Value}, FlatC n R W cs l → FlatC n R W ds m → FlatC n R W (cs ++ ds) (l ++ m) := by
  intro l
  induction l with
  | nil => intro m cs ds h k; rw [show cs = [] from h]; exact k
  | cons y l ih =>
    rintro m cs ds ⟨es, rest, rfl, h1, h2, h⟩ k
    exact ⟨es, rest ++ ds, by rw [List.append_assoc], h1, h2, ih h k⟩
theorem FlatC.one {cs : List Value} {y : α} (h1 : cs.length = n) (h2 : R W cs y) : FlatC n R W cs [y] := ⟨cs, [], by simp, h1, h2, rfl⟩
theorem FlatC.imp {W' : World} (hR : ∀ cs y, R W cs y → R W' cs y) : ∀ {l : List α} {cs : List Value}, FlatC n R W cs l → FlatC n R W' cs l := by
  intro l
  induction l with
  | nil => intro cs h; exact h
  | cons y l ih =>
    rintro cs ⟨ds, rest, rfl, h1, h2, h⟩
    exact ⟨ds, rest, rfl, h1, hR _ _ h2, ih h⟩
theorem FlatC.to {R' : World → List Value → α → Prop} {W' : World} (hR : ∀ cs y, R W cs y → R' W' cs y) : ∀ {l : List α} {cs : List Value}, FlatC n R W cs l → FlatC n R' W' cs l := by
  intro l
  induction l with
  | nil => intro cs h; exact h
  | cons y l ih =>
    rintro cs ⟨ds, rest, rfl, h1, h2, h⟩
    exact ⟨ds, rest, rfl, h1, hR _ _ h2, ih h⟩
theorem FlatC.get : ∀ {l : List α} {cs : List Value}, FlatC n R W cs l → ∀ (j : Nat) (y : α), l[j]? = some y → ∃ ds, ds.length = n ∧ (∀ i c, ds[i]? = some c → cs[j * n + i]? = some c) ∧ R W ds y := by
  intro l
  induction l with
  | nil => intro cs h j s hj; simp at hj
  | cons x l ih =>
    rintro cs ⟨es, rest, rfl, h1, h2, h⟩ j y hj
    cases j with
    | zero =>
      simp at hj; subst hj
      refine ⟨es, h1, fun i c hc => ?_, h2⟩
      have hi : i < es.length := by
        refine Classical.byContradiction fun hcc => ?_
        rw [List.getElem?_eq_none (by omega)] at hc; cases hc
      rw [Nat.zero_mul, Nat.zero_add, List.getElem?_append_left hi]; exact hc
    | succ j =>
      obtain ⟨ds, d1, d2, d3⟩ := ih h j y (by simpa using hj)
      refine ⟨ds, d1, fun i c hc => ?_, d3⟩
      rw [List.getElem?_append_right (by rw [h1, Nat.succ_mul]; omega), h1, show (j + 1) * n + i - n = j * n + i from by rw [Nat.succ_mul]; omega]
      exact d2 i c hc
/-- A slice of structs' own row is a slice of structs. -/
theorem flat_view {base e : Nat} {v : Value} {cs : List Value} {l : List α} (h : W.ownsRow base e n v l.length cs) (hs : FlatC n R W cs l) : StructsOf n R W v l := by
  rcases h.2 with ⟨rfl, hn⟩ | ⟨g, cap, cur, rfl, hb, hg, h1, h2, -⟩
  · exact ⟨none, 0, by rw [hn], by omega, by unfold maxLen; omega, fun hl => by omega⟩
  · refine ⟨_, cap, rfl, h1, h2, fun _ => ⟨g, 0, rfl, fun j s hj => ?_⟩⟩
    obtain ⟨ds, d1, d2, d3⟩ := hs.get j s hj
    refine ⟨ds, d1, fun i c hc => ?_, d3⟩
    have := h.cells rfl (j * n + i) c (d2 i c hc)
    rw [add_zero_off] at this
    simpa using this
/-- Every slice of structs has its cells. -/
theorem flat_cells {b off : Nat} : ∀ {l : List α} (k : Nat), (∀ j y, l[j]? = some y → ∃ cs, cs.length = n ∧ (∀ i c, cs[i]? = some c → W.cell? ⟨b, off + (k + j) * n + i, none⟩ = some c) ∧ R W cs y) →
    ∃ cs, FlatC n R W cs l ∧ ∀ i c, cs[i]? = some c → W.cell? ⟨b, off + k * n + i, none⟩ = some c := by
  intro l
  induction l with
  | nil => intro k _; exact ⟨[], rfl, fun i c h => by simp at h⟩
  | cons y l ih =>
    intro k h
    obtain ⟨ds, d1, d2, d3⟩ := h 0 y rfl
    obtain ⟨cs, c1, c2⟩ := ih (k + 1) (fun j y hj => by
      obtain ⟨cs, e1, e2, e3⟩ := h (j + 1) y (by simpa using hj)
      refine ⟨cs, e1, fun i c hc => ?_, e3⟩
      have := e2 i c hc
      rwa [show k + (j + 1) = k + 1 + j from by omega] at this)
    refine ⟨ds ++ cs, ⟨ds, cs, rfl, d1, d3, c1⟩, fun i c hc => ?_⟩
    by_cases hi : i < ds.length
    · rw [List.getElem?_append_left hi] at hc
      have := d2 i c hc
      rwa [Nat.add_zero] at this
    · rw [List.getElem?_append_right (by omega)] at hc
      have := c2 (i - ds.length) c hc
      rw [show off + k * n + i = off + (k + 1) * n + (i - ds.length) from by rw [Nat.succ_mul]; omega]
      exact this
theorem StructsOf.flat {a : Option Addr} {len cap : Nat} {l : List α} (h : StructsOf n R W (.slice a len cap) l) :
    ∃ cs, FlatC n R W cs l ∧ ∀ p, a = some p → ∀ i c, cs[i]? = some c → W.cell? (p.add i) = some c := by
  obtain ⟨a', cap', e, h2, h3, h4⟩ := h
  cases e
  by_cases hl : 0 < l.length
  · obtain ⟨b, off, rfl, h5⟩ := h4 hl
    obtain ⟨cs, c1, c2⟩ := flat_cells (b := b) (off := off) (W := W) (n := n) (R := R) (l := l) 0 (fun j y hj => by
      have := h5 j y hj
      simpa using this)
    refine ⟨cs, c1, fun p hp i c hc => ?_⟩
    cases hp
    have := c2 i c hc
    rw [Nat.zero_mul, Nat.add_zero] at this
    rw [show (⟨b, off, none⟩ : Addr).add i = ⟨b, off + i, none⟩ from by unfold Addr.add; split <;> simp_all]
    exact this
  · obtain rfl : l = [] := List.eq_nil_of_length_eq_zero (by omega)
    exact ⟨[], rfl, fun p _ i c hc => by simp at hc⟩
theorem StructsOf.none {len cap : Nat} {l : List α} (h : StructsOf n R W (.slice none len cap) l) : l = [] := by
  obtain ⟨a', cap', e, h2, h3, h4⟩ := h
  cases e
  refine List.eq_nil_of_length_eq_zero (Nat.eq_zero_of_not_pos fun hl => ?_)
  obtain ⟨b, off, e, -⟩ := h4 hl
  cases e
end
end Go.Proofs.Ytblmpmapcdpaiaa

/- Arguments opened: groups of strings, calls, lists of integers. -/
import Derived.Test.YtnckpnbecmmcpaaDoorJR
namespace Go.Proofs.YtnckpnbecmmcpaaDoor
open Go.ChangeShapes Go.WideShapes Go.ChangeAt Go.RowKit
theorem inR_wf {y : Int} (h : (Lit.int .i64 y).wf = true) : InR y := by
  simp [Lit.wf, IntKind.min, IntKind.max, IntKind.signed, IntKind.bits] at h
  exact ⟨by omega, by omega⟩
set_option maxRecDepth 100000 in
theorem slice_ints {H : Type} {enc : TypeId × Value → H} {w : World} {r : Reach} {b0 : Nat} {spare : Nat → Bool} {held : Bool} {v : Value} {d : DataW H} {p : List MemPlace}
    (hv : Value.okWide Tryd.prog w r b0 152 v) (h : DataW.Trod enc Tryd.prog w 0 spare held 152 v d p) : ∃ l : List Int, IntsAt w v l := by
  obtain ⟨l, h1, -⟩ := slice_cells (Value.int .i64) (fun _ => True) Tryd.underlying152 (by kernel_rfl) (fun m c x hx => by
    obtain ⟨y, e1, -⟩ := inv_int Tryd.underlying3 m c x hx
    exact ⟨y, e1, trivial⟩) hv h
  exact ⟨l, h1⟩
set_option maxRecDepth 100000 in
theorem slice_strs {H : Type} {enc : TypeId × Value → H} {w : World} {r : Reach} {b0 : Nat} {spare : Nat → Bool} {held : Bool} {v : Value} {d : DataW H} {p : List MemPlace}
    (hv : Value.okWide Tryd.prog w r b0 22 v) (h : DataW.Trod enc Tryd.prog w 0 spare held 22 v d p) : ∃ l : List ByteArray, StrsAt w v l ∧ ∀ t ∈ l, t.size ≤ 9223372036854775807 := by
  obtain ⟨l, h1, h2⟩ := slice_cells Value.string (fun t => t.size ≤ maxLen) Tryd.underlying22 (by kernel_rfl) (fun m c x hx => by
    obtain ⟨y, e1, h⟩ := inv_string Tryd.underlying9 m c x hx
    exact ⟨y, e1, h⟩) hv h
  exact ⟨l, h1, fun t ht => h2 t ht⟩
set_option maxRecDepth 100000 in
theorem nest_strs {H : Type} {enc : TypeId × Value → H} {w : World} {fuel : Nat} {spare : Nat → Bool} {held : Bool} {cs : List Value} {x : DataW H × List MemPlace}
    (h : DataW.trod enc Tryd.prog w 0 spare held fuel 22 cs = some x) : ∃ v, ∃ l : List ByteArray, cs = [v] ∧ StrsAt w v l ∧ ∀ t ∈ l, t.size ≤ 9223372036854775807 := by
  obtain ⟨v, l, rfl, a, cap, h1, h2, h3, h4⟩ := nest_structs 1 (fun _ cs (y : ByteArray) => cs = [.string y] ∧ y.size ≤ 9223372036854775807) (by decide) Tryd.underlying22 (by kernel_rfl) (fun m cs x hl hx => by
    match cs, hl with
    | [c], _ =>
      obtain ⟨y, e1, e2⟩ := inv_string Tryd.underlying9 m c x hx
      exact ⟨y, by rw [e1], e2⟩) h
  refine ⟨v, l, rfl, ⟨a, cap, h1, h2, h3, fun hl => ?_⟩, fun t ht => ?_⟩
  · obtain ⟨b, off, e1, h5⟩ := h4 hl
    refine ⟨b, off, e1, fun j y hj => ?_⟩
    obtain ⟨cs, -, c2, rfl, -⟩ := h5 j y hj
    have := c2 0 _ rfl
    simpa using this
  · obtain ⟨j, hj, rfl⟩ := List.mem_iff_getElem.1 ht
    obtain ⟨b, off, e1, h5⟩ := h4 (by omega)
    obtain ⟨cs, -, c2, -, h6⟩ := h5 j _ (List.getElem?_eq_getElem hj)
    exact h6
set_option maxRecDepth 100000 in
theorem slice_grps {H : Type} {enc : TypeId × Value → H} {w : World} {r : Reach} {b0 : Nat} {spare : Nat → Bool} {held : Bool} {v : Value} {d : DataW H} {p : List MemPlace}
    (hv : Value.okWide Tryd.prog w r b0 43 v) (h : DataW.Trod enc Tryd.prog w 0 spare held 43 v d p) : ∃ l : List (List ByteArray), GrpsAt w v l :=
  slice_structs 1 GrC (by decide) Tryd.underlying43 (by kernel_rfl) (fun m cs x _ hx => by
    obtain ⟨v, l, rfl, h1, h2⟩ := nest_strs hx
    exact ⟨l, v, rfl, h1, h2⟩) hv h
end Go.Proofs.YtnckpnbecmmcpaaDoor

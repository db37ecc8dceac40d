/- Arguments opened: groups of strings, calls, lists of integers. -/
import Derived.Test.YtnckpnbecmmcpaaGreatDoorJR
namespace Go.Proofs.YtnckpnbecmmcpaaGreatDoor
open Go.ChangeShapes Go.WideShapes Go.ChangeAt Go.RowKit
theorem inR_wf {y : Int} (h : (Lit.int .i64 y).wf = true) : InR y := by
  simp [Lit.wf, IntKind.min, IntKind.max, IntKind.signed, IntKind.bits] at h
  exact ⟨by omega, by omega⟩
set_option maxRecDepth 100000 in
theorem slice_ints {H : Type} {enc : TypeId × Value → H} {w : World} {r : Reach} {b0 : Nat} {spare : Nat → Bool} {held : Bool} {v : Value} {d : DataW H} {p : List MemPlace}
    (hv : Value.okWide Tryz.prog w r b0 56 v) (h : DataW.Trod enc Tryz.prog w 0 spare held 56 v d p) : ∃ l : List Int, IntsAt w v l := by
  obtain ⟨l, h1, -⟩ := slice_cells (Value.int .i64) (fun _ => True) Tryz.underlying56 (by kernel_rfl) (fun m c x hx => by
    obtain ⟨y, e1, -⟩ := inv_int Tryz.underlying3 m c x hx
    exact ⟨y, e1, trivial⟩) hv h
  exact ⟨l, h1⟩
set_option maxRecDepth 100000 in
theorem slice_strs {H : Type} {enc : TypeId × Value → H} {w : World} {r : Reach} {b0 : Nat} {spare : Nat → Bool} {held : Bool} {v : Value} {d : DataW H} {p : List MemPlace}
    (hv : Value.okWide Tryz.prog w r b0 22 v) (h : DataW.Trod enc Tryz.prog w 0 spare held 22 v d p) : ∃ l : List ByteArray, StrsAt w v l ∧ ∀ t ∈ l, t.size ≤ 9223372036854775807 := by
  obtain ⟨l, h1, h2⟩ := slice_cells Value.string (fun t => t.size ≤ maxLen) Tryz.underlying22 (by kernel_rfl) (fun m c x hx => by
    obtain ⟨y, e1, h⟩ := inv_string Tryz.underlying9 m c x hx
    exact ⟨y, e1, h⟩) hv h
  exact ⟨l, h1, fun t ht => h2 t ht⟩
set_option maxRecDepth 100000 in
theorem nest_strs {H : Type} {enc : TypeId × Value → H} {w : World} {fuel : Nat} {spare : Nat → Bool} {held : Bool} {cs : List Value} {x : DataW H × List MemPlace}
    (h : DataW.trod enc Tryz.prog w 0 spare held fuel 22 cs = some x) : ∃ v, ∃ l : List ByteArray, cs = [v] ∧ StrsAt w v l ∧ ∀ t ∈ l, t.size ≤ 9223372036854775807 := by
  obtain ⟨v, l, rfl, a, cap, h1, h2, h3, h4⟩ := nest_structs 1 (fun _ cs (y : ByteArray) => cs = [.string y] ∧ y.size ≤ 9223372036854775807) (by decide) Tryz.underlying22 (by kernel_rfl) (fun m cs x hl hx => by
    match cs, hl with
    | [c], _ =>
      obtain ⟨y, e1, e2⟩ := inv_string Tryz.underlying9 m c x hx
      exact ⟨y, by rw [e1], e2⟩) h
  refine ⟨v, l, rfl, ⟨a, cap, h1, h2, h3, fun hl => ?_⟩, fun t ht => ?_⟩
  · obtain ⟨b, off, e1, h5⟩ := h4 hl
    refine ⟨b, off, e1, fun j y hj => ?_⟩
    obtain ⟨cs, -, c2, rfl, -⟩ := h5 j y hj
    have := c2 0 _ rfl
    simpa using this
  · obtain ⟨j, hj, rfl⟩ := List.mem_iff_getElem.1 ht
    obtain ⟨b, off, e1, h5⟩ := h4 (by omega)
    obtain ⟨cs, -, c2, -, h6⟩ := h5 j _ (List.getElem?_eq_getElem hj)
    exact h6
set_option maxRecDepth 100000 in
theorem slice_grps {H : Type} {enc : TypeId × Value → H} {w : World} {r : Reach} {b0 : Nat} {spare : Nat → Bool} {held : Bool} {v : Value} {d : DataW H} {p : List MemPlace}
    (hv : Value.okWide Tryz.prog w r b0 48 v) (h : DataW.Trod enc Tryz.prog w 0 spare held 48 v d p) : ∃ l : List (List ByteArray), GrpsAt w v l :=
  slice_structs 1 GrC (by decide) Tryz.underlying48 (by kernel_rfl) (fun m cs x _ hx => by
    obtain ⟨v, l, rfl, h1, h2⟩ := nest_strs hx
    exact ⟨l, v, rfl, h1, h2⟩) hv h
set_option maxRecDepth 100000 in
theorem trod_op {H : Type} {enc : TypeId × Value → H} {w : World} {spare : Nat → Bool} {held : Bool} {fuel : Nat} {cs : List Value} {r : DataW H × List MemPlace} (hcs : cs.length = 4)
    (h : DataW.trod enc Tryz.prog w 0 spare held fuel 62 cs = some r) : ∃ t : OpD, OpC w cs t := by
  obtain ⟨xs, n, -, -, -, hlen, hf⟩ := DataW.trod_struct Tryz.underlying62 h
  match cs, hcs with
  | [q0, q1, q2, q3], _ =>
    have c3 : Tryz.prog.cellsOf 3 = 1 := by kernel_rfl
    have c22 : Tryz.prog.cellsOf 22 = 1 := by kernel_rfl
    have c56 : Tryz.prog.cellsOf 56 = 1 := by kernel_rfl
    have hl : xs.length = 4 := hlen
    have h0 : DataW.trod enc Tryz.prog w 0 spare held n 3 (([q0, q1, q2, q3].drop 0).take (Tryz.prog.cellsOf 3)) = xs[0]? := hf 0 _ rfl
    have h1 : DataW.trod enc Tryz.prog w 0 spare held n 22 (([q0, q1, q2, q3].drop 1).take (Tryz.prog.cellsOf 22)) = xs[1]? := hf 1 _ rfl
    have h2 : DataW.trod enc Tryz.prog w 0 spare held n 3 (([q0, q1, q2, q3].drop 2).take (Tryz.prog.cellsOf 3)) = xs[2]? := hf 2 _ rfl
    have h3 : DataW.trod enc Tryz.prog w 0 spare held n 56 (([q0, q1, q2, q3].drop 3).take (Tryz.prog.cellsOf 56)) = xs[3]? := hf 3 _ rfl
    rw [c3, List.getElem?_eq_getElem (by omega)] at h0 h2
    rw [c22, List.getElem?_eq_getElem (by omega)] at h1
    rw [c56, List.getElem?_eq_getElem (by omega)] at h3
    obtain ⟨o0, e0, w0⟩ := inv_int Tryz.underlying3 _ _ _ h0
    obtain ⟨v, l, e1, hi, hsz⟩ := nest_strs h1
    obtain ⟨o2, e2, w2⟩ := inv_int Tryz.underlying3 _ _ _ h2
    obtain ⟨v3, l3, e3, hi3⟩ := nest_ints Tryz.underlying56 c3 Tryz.underlying3 h3
    have e1' : q1 = v := by simpa using e1
    have e3' : q3 = v3 := by simpa using e3
    subst e0 e1' e2 e3'
    exact ⟨⟨o0, l, o2, l3⟩, _, _, rfl, hi, hsz, hi3, inR_wf w0, inR_wf w2⟩
set_option maxRecDepth 100000 in
theorem slice_ops {H : Type} {enc : TypeId × Value → H} {w : World} {r : Reach} {b0 : Nat} {spare : Nat → Bool} {held : Bool} {v : Value} {d : DataW H} {p : List MemPlace}
    (hv : Value.okWide Tryz.prog w r b0 60 v) (h : DataW.Trod enc Tryz.prog w 0 spare held 60 v d p) : ∃ l : List OpD, OpsAt w v l :=
  slice_structs 4 OpC (by decide) Tryz.underlying60 (by kernel_rfl) (fun _ _ _ hl hx => trod_op hl hx) hv h
end Go.Proofs.YtnckpnbecmmcpaaGreatDoor

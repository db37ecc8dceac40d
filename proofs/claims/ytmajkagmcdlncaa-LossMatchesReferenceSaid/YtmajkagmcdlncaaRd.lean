/- Arguments of the laws of chapter 18, opened. -/
import Derived.Test.YtmajkagmcdlncaaE1
namespace Go.Proofs.Ytmajkagmcdlncaa
open Go.ChangeShapes Go.WideShapes Go.ChangeAt Go.RowKit
open L18 (Pass Slot)
variable {H : Type} {enc : TypeId × Value → H}
def XCr (W : World) (cs : List Value) (x : L18.X3) : Prop := XC W cs x ∧ XR x
set_option maxRecDepth 100000 in
theorem trod_x {w : World} {spare : Nat → Bool} {held : Bool} {fuel : Nat} {cs : List Value} {r : DataW H × List MemPlace} (hcs : cs.length = 3) (h : DataW.trod enc Try.prog w 0 spare held fuel 71 cs = some r) : ∃ t : L18.X3, XCr w cs t := by
  match cs, hcs with
  | [x, y, z], _ =>
    obtain ⟨xs, m, -, -, hl, hxl, hx⟩ := DataW.trod_array Try.underlying71 h
    have g : ∀ k, k < 3 → ∃ v : Int, (([x, y, z].drop (k * 1)).take 1) = [.int .i64 v] ∧ InR v := fun k hk => by
      have h1 := hx k hk
      rw [show Try.prog.cellsOf 3 = 1 by kernel_rfl] at h1
      obtain ⟨x0, hx0⟩ : ∃ q, xs[k]? = some q := ⟨xs[k]'(by omega), List.getElem?_eq_getElem (by omega)⟩
      rw [hx0] at h1
      obtain ⟨c, hc⟩ : ∃ c, (([x, y, z].drop (k * 1)).take 1) = [c] := by
        match k, hk with
        | 0, _ => exact ⟨x, rfl⟩
        | 1, _ => exact ⟨y, rfl⟩
        | 2, _ => exact ⟨z, rfl⟩
      rw [hc] at h1 ⊢
      obtain ⟨v, e1, e2⟩ := inv_int Try.underlying3 m c x0 h1
      exact ⟨v, by rw [e1], inR_wf e2⟩
    obtain ⟨a, ha, ra⟩ := g 0 (by decide)
    obtain ⟨b, hb, rb⟩ := g 1 (by decide)
    obtain ⟨c, hc, rc⟩ := g 2 (by decide)
    have ea : x = .int .i64 a := by simpa using ha
    have eb : y = .int .i64 b := by simpa using hb
    have ec : z = .int .i64 c := by simpa using hc
    subst ea eb ec
    exact ⟨(a, b, c), rfl, ra, rb, rc⟩
set_option maxRecDepth 100000 in
theorem slice_x {w : World} {r : Reach} {b0 : Nat} {spare : Nat → Bool} {held : Bool} {v : Value} {d : DataW H} {p : List MemPlace}
    (hv : Value.okWide Try.prog w r b0 22 v) (h : DataW.Trod enc Try.prog w 0 spare held 22 v d p) : ∃ l : List L18.X3, XsAt w v l ∧ ∀ y ∈ l, XR y := by
  obtain ⟨l, a, cap, e, h1, h2, h3⟩ := slice_structs 3 XCr (by decide) Try.underlying22 (by kernel_rfl) (fun _ _ _ hl hx => trod_x hl hx) hv h
  refine ⟨l, ⟨a, cap, e, h1, h2, fun hl => ?_⟩, fun y hy => ?_⟩
  · obtain ⟨b, off, e1, h4⟩ := h3 hl
    exact ⟨b, off, e1, fun j y hj => by
      obtain ⟨cs, q1, q2, q3, -⟩ := h4 j y hj
      exact ⟨cs, q1, q2, q3⟩⟩
  · obtain ⟨j, hj, rfl⟩ := List.getElem_of_mem hy
    obtain ⟨b, off, -, h4⟩ := h3 (by omega)
    obtain ⟨cs, -, -, -, q⟩ := h4 j _ (List.getElem?_eq_getElem hj)
    exact q
set_option maxRecDepth 100000 in
theorem slice_ints {w : World} {r : Reach} {b0 : Nat} {spare : Nat → Bool} {held : Bool} {v : Value} {d : DataW H} {p : List MemPlace}
    (hv : Value.okWide Try.prog w r b0 23 v) (h : DataW.Trod enc Try.prog w 0 spare held 23 v d p) : ∃ l : List Int, IntsAt w v l ∧ ∀ y ∈ l, InR y :=
  slice_cells (Value.int .i64) InR Try.underlying23 (by kernel_rfl) (fun m c x hx => by obtain ⟨y, e1, e2⟩ := inv_int Try.underlying3 m c x hx; exact ⟨y, e1, inR_wf e2⟩) hv h
/-- A slice of slices of integers. -/
def RowsC (W : World) (cs : List Value) (l : List Int) : Prop := ∃ v, cs = [v] ∧ IntsAt W v l
abbrev RowsAt (w : World) (v : Value) (l : List (List Int)) : Prop := StructsOf 1 RowsC w v l
theorem RowsAt.later {w w' : World} {v : Value} {l : List (List Int)} (h : RowsAt w v l) (hb : Below w.heap.size w w') : RowsAt w' v l := StructsOf.below (R := RowsC) (fun _ _ _ _ ⟨v, e, h⟩ hb => ⟨v, e, h.below hb⟩) h hb
theorem RowsAt.get {w : World} {a : Option Addr} {len cap : Nat} {l : List (List Int)} (h : RowsAt w (.slice a len cap) l) {k : Nat} {x : List Int} (hk : l[k]? = some x) :
    ∃ b off v, a = some ⟨b, off, none⟩ ∧ w.cell? ⟨b, off + k, none⟩ = some v ∧ IntsAt w v x := by
  obtain ⟨b, off, cs, e, -, h2, v, rfl, hi⟩ := h.at hk
  exact ⟨b, off, v, e, by have := h2 0 _ rfl; simpa using this, hi⟩
def RowsCr (W : World) (cs : List Value) (l : List Int) : Prop := RowsC W cs l ∧ ∀ y ∈ l, InR y
set_option maxRecDepth 100000 in
theorem trod_row {w : World} {spare : Nat → Bool} {held : Bool} {fuel : Nat} {cs : List Value} {r : DataW H × List MemPlace} (h : DataW.trod enc Try.prog w 0 spare held fuel 23 cs = some r) : ∃ t : List Int, RowsCr w cs t := by
  obtain ⟨v, l, rfl, a, cap, h1, h2, h3, h4⟩ := nest_structs 1 (fun _ cs (y : Int) => cs = [.int .i64 y] ∧ InR y) (by decide) Try.underlying23 (by kernel_rfl) (fun m cs x hl hx => by
    match cs, hl with
    | [c], _ =>
      obtain ⟨y, e1, e2⟩ := inv_int Try.underlying3 m c x hx
      exact ⟨y, by rw [e1], inR_wf e2⟩) h
  refine ⟨l, ⟨v, rfl, a, cap, h1, h2, h3, fun hl => ?_⟩, fun y hy => ?_⟩
  · obtain ⟨b, off, e1, h5⟩ := h4 hl
    refine ⟨b, off, e1, fun j y hj => ?_⟩
    obtain ⟨cs, -, c2, rfl, -⟩ := h5 j y hj
    have := c2 0 _ rfl
    simpa using this
  · obtain ⟨j, hj, rfl⟩ := List.getElem_of_mem hy
    obtain ⟨b, off, -, h5⟩ := h4 (by omega)
    obtain ⟨cs, -, -, -, q⟩ := h5 j _ (List.getElem?_eq_getElem hj)
    exact q
set_option maxRecDepth 100000 in
theorem slice_rows {w : World} {r : Reach} {b0 : Nat} {spare : Nat → Bool} {held : Bool} {v : Value} {d : DataW H} {p : List MemPlace}
    (hv : Value.okWide Try.prog w r b0 51 v) (h : DataW.Trod enc Try.prog w 0 spare held 51 v d p) : ∃ l : List (List Int), RowsAt w v l ∧ ∀ x ∈ l, ∀ y ∈ x, InR y := by
  obtain ⟨l, a, cap, e, h1, h2, h3⟩ := slice_structs 1 RowsCr (by decide) Try.underlying51 (by kernel_rfl) (fun _ _ _ _ hx => trod_row hx) hv h
  refine ⟨l, ⟨a, cap, e, h1, h2, fun hl => ?_⟩, fun y hy => ?_⟩
  · obtain ⟨b, off, e1, h4⟩ := h3 hl
    exact ⟨b, off, e1, fun j y hj => by
      obtain ⟨cs, q1, q2, q3, -⟩ := h4 j y hj
      exact ⟨cs, q1, q2, q3⟩⟩
  · obtain ⟨j, hj, rfl⟩ := List.getElem_of_mem hy
    obtain ⟨b, off, -, h4⟩ := h3 (by omega)
    obtain ⟨cs, -, -, -, q⟩ := h4 j _ (List.getElem?_eq_getElem hj)
    exact q
set_option maxRecDepth 100000 in
theorem trod_spell {w : World} {spare : Nat → Bool} {held : Bool} {fuel : Nat} {x y : Value} {r : DataW H × List MemPlace} (h : DataW.trod enc Try.prog w 0 spare held fuel 25 [x, y] = some r) : ∃ a b : Int, x = .int .i64 a ∧ y = .int .i64 b := by
  obtain ⟨xs, n, -, -, -, hlen, hf⟩ := DataW.trod_struct Try.underlying25 h
  have c3 : Try.prog.cellsOf 3 = 1 := by kernel_rfl
  have hl : xs.length = 2 := hlen
  have h0 : DataW.trod enc Try.prog w 0 spare held n 3 (([x, y].drop 0).take (Try.prog.cellsOf 3)) = xs[0]? := hf 0 _ rfl
  have h1 : DataW.trod enc Try.prog w 0 spare held n 3 (([x, y].drop 1).take (Try.prog.cellsOf 3)) = xs[1]? := hf 1 _ rfl
  rw [c3, List.getElem?_eq_getElem (by omega)] at h0 h1
  obtain ⟨a, e0, -⟩ := inv_int Try.underlying3 _ _ _ h0
  obtain ⟨b, e1, -⟩ := inv_int Try.underlying3 _ _ _ h1
  exact ⟨a, b, e0, e1⟩
set_option maxRecDepth 100000 in
theorem trod_slot {w : World} {spare : Nat → Bool} {held : Bool} {fuel : Nat} {cs : List Value} {r : DataW H × List MemPlace} (hcs : cs.length = 3)
    (h : DataW.trod enc Try.prog w 0 spare held fuel 63 cs = some r) : ∃ t : Slot, SlotC w cs t := by
  obtain ⟨xs, n, -, -, -, hlen, hf⟩ := DataW.trod_struct Try.underlying63 h
  match cs, hcs with
  | [q0, q1, q2], _ =>
    have c3 : Try.prog.cellsOf 3 = 1 := by kernel_rfl
    have c25 : Try.prog.cellsOf 25 = 2 := by kernel_rfl
    have hl : xs.length = 2 := hlen
    have h0 : DataW.trod enc Try.prog w 0 spare held n 3 (([q0, q1, q2].drop 0).take (Try.prog.cellsOf 3)) = xs[0]? := hf 0 _ rfl
    have h1 : DataW.trod enc Try.prog w 0 spare held n 25 (([q0, q1, q2].drop 1).take (Try.prog.cellsOf 25)) = xs[1]? := hf 1 _ rfl
    rw [c3, List.getElem?_eq_getElem (by omega)] at h0
    rw [c25, List.getElem?_eq_getElem (by omega)] at h1
    obtain ⟨a, e0, -⟩ := inv_int Try.underlying3 _ _ _ h0
    obtain ⟨b, c, e1, e2⟩ := trod_spell (x := q1) (y := q2) h1
    subst e0 e1 e2
    exact ⟨⟨a, b, c⟩, rfl⟩
set_option maxRecDepth 100000 in
theorem opt_val {w : World} {r : Reach} {b0 : Nat} {spare : Nat → Bool} {held : Bool} {v : Value} {d : DataW H} {p : List MemPlace}
    (hv : Value.okWide Try.prog w r b0 28 v) (h : DataW.Trod enc Try.prog w 0 spare held 28 v d p) : ∃ t : OptD, OptV w v t := by
  obtain ⟨cs, rfl, hsz⟩ := okWide_struct Try.underlying28 hv
  obtain ⟨fuel, hf⟩ := h
  have hsz' : cs.size = 9 := hsz.trans (by kernel_rfl)
  obtain ⟨xs, n, -, -, -, hlen, hg⟩ := DataW.trod_struct Try.underlying28 hf
  obtain ⟨cl⟩ := cs
  match cl, hsz' with
  | [q0, q1, q2, q3, q4, q5, q6, q7, q8], _ =>
    have c3 : Try.prog.cellsOf 3 = 1 := by kernel_rfl
    have c25 : Try.prog.cellsOf 25 = 2 := by kernel_rfl
    have c26 : Try.prog.cellsOf 26 = 1 := by kernel_rfl
    have hl : xs.length = 8 := hlen
    have h0 : DataW.trod enc Try.prog w 0 spare held n 3 (([q0, q1, q2, q3, q4, q5, q6, q7, q8].drop 0).take (Try.prog.cellsOf 3)) = xs[0]? := hg 0 _ rfl
    have h1 : DataW.trod enc Try.prog w 0 spare held n 3 (([q0, q1, q2, q3, q4, q5, q6, q7, q8].drop 1).take (Try.prog.cellsOf 3)) = xs[1]? := hg 1 _ rfl
    have h2 : DataW.trod enc Try.prog w 0 spare held n 3 (([q0, q1, q2, q3, q4, q5, q6, q7, q8].drop 2).take (Try.prog.cellsOf 3)) = xs[2]? := hg 2 _ rfl
    have h3 : DataW.trod enc Try.prog w 0 spare held n 3 (([q0, q1, q2, q3, q4, q5, q6, q7, q8].drop 3).take (Try.prog.cellsOf 3)) = xs[3]? := hg 3 _ rfl
    have h4 : DataW.trod enc Try.prog w 0 spare held n 25 (([q0, q1, q2, q3, q4, q5, q6, q7, q8].drop 4).take (Try.prog.cellsOf 25)) = xs[4]? := hg 4 _ rfl
    have h5 : DataW.trod enc Try.prog w 0 spare held n 3 (([q0, q1, q2, q3, q4, q5, q6, q7, q8].drop 6).take (Try.prog.cellsOf 3)) = xs[5]? := hg 5 _ rfl
    have h6 : DataW.trod enc Try.prog w 0 spare held n 3 (([q0, q1, q2, q3, q4, q5, q6, q7, q8].drop 7).take (Try.prog.cellsOf 3)) = xs[6]? := hg 6 _ rfl
    have h7 : DataW.trod enc Try.prog w 0 spare held n 26 (([q0, q1, q2, q3, q4, q5, q6, q7, q8].drop 8).take (Try.prog.cellsOf 26)) = xs[7]? := hg 7 _ rfl
    rw [c3, List.getElem?_eq_getElem (by omega)] at h0 h1 h2 h3 h5 h6
    rw [c25, List.getElem?_eq_getElem (by omega)] at h4
    rw [c26, List.getElem?_eq_getElem (by omega)] at h7
    obtain ⟨o0, e0, -⟩ := inv_int Try.underlying3 _ _ _ h0
    obtain ⟨o1, e1, -⟩ := inv_int Try.underlying3 _ _ _ h1
    obtain ⟨o2, e2, -⟩ := inv_int Try.underlying3 _ _ _ h2
    obtain ⟨o3, e3, -⟩ := inv_int Try.underlying3 _ _ _ h3
    obtain ⟨o4, o5, e4, e5⟩ := trod_spell (x := q4) (y := q5) h4
    obtain ⟨o6, e6, -⟩ := inv_int Try.underlying3 _ _ _ h5
    obtain ⟨o7, e7, -⟩ := inv_int Try.underlying3 _ _ _ h6
    obtain ⟨vs, ls, e8, hs⟩ := nest_structs 3 SlotC (by decide) Try.underlying26 (by kernel_rfl) (fun _ _ _ hl hx => trod_slot hl hx) h7
    have e8' : q8 = vs := by simpa using e8
    subst e0 e1 e2 e3 e4 e5 e6 e7 e8'
    exact ⟨⟨⟨o0, o1, o2, o3, o4, o5, o6, o7⟩, ls⟩, _, rfl, hs⟩
set_option maxRecDepth 100000 in
theorem pass_val {w : World} {r : Reach} {b0 : Nat} {spare : Nat → Bool} {held : Bool} {v : Value} {d : DataW H} {p : List MemPlace}
    (hv : Value.okWide Try.prog w r b0 30 v) (h : DataW.Trod enc Try.prog w 0 spare held 30 v d p) : ∃ t : Pass, v = passVal t := by
  obtain ⟨cs, rfl, hsz⟩ := okWide_struct Try.underlying30 hv
  obtain ⟨fuel, hf⟩ := h
  have hsz' : cs.size = 6 := hsz.trans (by kernel_rfl)
  obtain ⟨xs, n, -, -, -, hlen, hg⟩ := DataW.trod_struct Try.underlying30 hf
  obtain ⟨cl⟩ := cs
  match cl, hsz' with
  | [q0, q1, q2, q3, q4, q5], _ =>
    have c3 : Try.prog.cellsOf 3 = 1 := by kernel_rfl
    have c25 : Try.prog.cellsOf 25 = 2 := by kernel_rfl
    have hl : xs.length = 4 := hlen
    have h0 : DataW.trod enc Try.prog w 0 spare held n 3 (([q0, q1, q2, q3, q4, q5].drop 0).take (Try.prog.cellsOf 3)) = xs[0]? := hg 0 _ rfl
    have h1 : DataW.trod enc Try.prog w 0 spare held n 3 (([q0, q1, q2, q3, q4, q5].drop 1).take (Try.prog.cellsOf 3)) = xs[1]? := hg 1 _ rfl
    have h2 : DataW.trod enc Try.prog w 0 spare held n 25 (([q0, q1, q2, q3, q4, q5].drop 2).take (Try.prog.cellsOf 25)) = xs[2]? := hg 2 _ rfl
    have h3 : DataW.trod enc Try.prog w 0 spare held n 25 (([q0, q1, q2, q3, q4, q5].drop 4).take (Try.prog.cellsOf 25)) = xs[3]? := hg 3 _ rfl
    rw [c3, List.getElem?_eq_getElem (by omega)] at h0 h1
    rw [c25, List.getElem?_eq_getElem (by omega)] at h2 h3
    obtain ⟨o0, e0, -⟩ := inv_int Try.underlying3 _ _ _ h0
    obtain ⟨o1, e1, -⟩ := inv_int Try.underlying3 _ _ _ h1
    obtain ⟨o2, o3, e2, e3⟩ := trod_spell (x := q2) (y := q3) h2
    obtain ⟨o4, o5, e4, e5⟩ := trod_spell (x := q4) (y := q5) h3
    subst e0 e1 e2 e3 e4 e5
    exact ⟨⟨o0, o1, o2, o3, o4, o5⟩, rfl⟩
end Go.Proofs.Ytmajkagmcdlncaa

/- A row and a program as arguments, opened: structs with slices in them. -/
import Derived.Test.YtblmpmapcdpaiaaReadX
import Derived.Test.YtblmpmapcdpaiaaView
namespace Go.Proofs.Ytblmpmapcdpaiaa
open Go.ChangeShapes Go.WideShapes Go.ChangeAt Go.RowKit
section
variable {H : Type} {enc : TypeId × Value → H} {P : Program}
theorem cells_get {w : World} {a : Addr} {n : Nat} {cs : List Value} (h : w.cells? 0 a n = some cs) : cs.length = n ∧ ∀ i c, cs[i]? = some c → w.cell? (a.add i) = some c := by
  unfold World.cells? at h
  rw [if_pos (Nat.zero_le _)] at h
  have hl : cs.length = n := by have := mapM_len h; simpa using this
  refine ⟨hl, fun i c hc => ?_⟩
  have hi : i < n := by
    rw [← hl]
    refine Classical.byContradiction fun h2 => ?_
    rw [List.getElem?_eq_none (by omega)] at hc; cases hc
  obtain ⟨x, hx1, hx2⟩ := Lib.mapM_at h i i (by simp [hi])
  rw [hc] at hx1
  cases hx1
  exact hx2
/-- A slice of elements of n cells, within a struct, opened. -/
theorem nest_structs {α : Type} (n : Nat) (R : World → List Value → α → Prop) (hn : 0 < n) {w : World} {fuel : Nat} {spare : Nat → Bool} {held : Bool} {t e : TypeId} {cs : List Value} {x : DataW H × List MemPlace}
    (ht : P.underlying t = some (.slice e)) (hce : P.cellsOf e = n)
    (hinv : ∀ (m : Nat) (cs : List Value) (x : DataW H × List MemPlace), cs.length = n → DataW.trod enc P w 0 spare held m e cs = some x → ∃ y, R w cs y)
    (h : DataW.trod enc P w 0 spare held fuel t cs = some x) : ∃ v, ∃ l : List α, cs = [v] ∧ StructsOf n R w v l := by
  rcases DataW.trod_slice ht h with ⟨rfl, -⟩ | ⟨a, len, cap, elems, rest, m, -, rfl, -, -, h1, h2, h3, h4, -, -⟩
  · exact ⟨_, [], rfl, none, 0, rfl, Nat.le_refl _, Nat.zero_le _, fun h => absurd h (Nat.lt_irrefl 0)⟩
  · rw [hce] at h4
    have hcell : ∀ i, i < len → ∃ y : α, ∃ cs : List Value, cs.length = n ∧ (∀ k c, cs[k]? = some c → w.cell? ((a.add (i * n)).add k) = some c) ∧ R w cs y := by
      intro i hi
      have hx := (h4 i hi).trans (List.getElem?_eq_getElem (by omega))
      obtain ⟨cs, hcs, hx3⟩ := Option.bind_eq_some_iff.1 hx
      obtain ⟨hl, hg⟩ := cells_get hcs
      obtain ⟨y, hy⟩ := hinv _ _ _ hl hx3
      exact ⟨y, cs, hl, hg, hy⟩
    obtain ⟨l, hl1, hl2⟩ := choose_list (fun i (y : α) => ∃ cs : List Value, cs.length = n ∧ (∀ k c, cs[k]? = some c → w.cell? ((a.add (i * n)).add k) = some c) ∧ R w cs y) len hcell
    subst hl1
    refine ⟨_, l, rfl, some a, cap, rfl, h1, h2, fun h0 => ?_⟩
    obtain ⟨cs0, q0, q1, -⟩ := hl2 0 (l[0]'h0) (List.getElem?_eq_getElem h0)
    have hs := spot_none (q1 0 _ (List.getElem?_eq_getElem (by omega)))
    obtain ⟨b, o, sp⟩ := a
    simp [Addr.add] at hs
    subst hs
    refine ⟨b, o, rfl, fun j y hj => ?_⟩
    obtain ⟨cs, k0, k1, k2⟩ := hl2 j y hj
    refine ⟨cs, k0, fun i c hc2 => ?_, k2⟩
    have := k1 i c hc2
    rwa [addr_add, addr_add] at this
theorem nest_ints {w : World} {fuel : Nat} {spare : Nat → Bool} {held : Bool} {t e : TypeId} {cs : List Value} {x : DataW H × List MemPlace}
    (ht : P.underlying t = some (.slice e)) (hce : P.cellsOf e = 1) (he : P.underlying e = some (.int .i64)) (h : DataW.trod enc P w 0 spare held fuel t cs = some x) : ∃ v, ∃ l : List Int, cs = [v] ∧ IntsAt w v l := by
  obtain ⟨v, l, rfl, a, cap, h1, h2, h3, h4⟩ := nest_structs 1 (fun _ cs (y : Int) => cs = [.int .i64 y]) (by decide) ht hce (fun m cs x hl hx => by
    match cs, hl with
    | [c], _ =>
      obtain ⟨y, e1, -⟩ := inv_int he m c x hx
      exact ⟨y, by rw [e1]⟩) h
  refine ⟨v, l, rfl, a, cap, h1, h2, h3, fun hl => ?_⟩
  obtain ⟨b, off, e1, h5⟩ := h4 hl
  refine ⟨b, off, e1, fun j y hj => ?_⟩
  obtain ⟨cs, -, c2, rfl⟩ := h5 j y hj
  have := c2 0 _ rfl
  simpa using this
end
section
variable {H : Type} {enc : TypeId × Value → H}
set_option maxRecDepth 100000 in
theorem trod_row {w : World} {spare : Nat → Bool} {held : Bool} {fuel : Nat} {cs : List Value} {r : DataW H × List MemPlace} (hcs : cs.length = 6)
    (h : DataW.trod enc Try.prog w 0 spare held fuel 26 cs = some r) : ∃ t : RowD, RowCs w cs t := by
  obtain ⟨xs, n, -, -, -, hlen, hf⟩ := DataW.trod_struct Try.underlying26 h
  match cs, hcs with
  | [q0, q1, q2, q3, q4, q5], _ =>
    have c3 : Try.prog.cellsOf 3 = 1 := by kernel_rfl
    have c24 : Try.prog.cellsOf 24 = 1 := by kernel_rfl
    have hl : xs.length = 6 := hlen
    have h0 : DataW.trod enc Try.prog w 0 spare held n 3 (([q0, q1, q2, q3, q4, q5].drop 0).take (Try.prog.cellsOf 3)) = xs[0]? := hf 0 _ rfl
    have h1 : DataW.trod enc Try.prog w 0 spare held n 3 (([q0, q1, q2, q3, q4, q5].drop 1).take (Try.prog.cellsOf 3)) = xs[1]? := hf 1 _ rfl
    have h2 : DataW.trod enc Try.prog w 0 spare held n 3 (([q0, q1, q2, q3, q4, q5].drop 2).take (Try.prog.cellsOf 3)) = xs[2]? := hf 2 _ rfl
    have h3 : DataW.trod enc Try.prog w 0 spare held n 3 (([q0, q1, q2, q3, q4, q5].drop 3).take (Try.prog.cellsOf 3)) = xs[3]? := hf 3 _ rfl
    have h4 : DataW.trod enc Try.prog w 0 spare held n 24 (([q0, q1, q2, q3, q4, q5].drop 4).take (Try.prog.cellsOf 24)) = xs[4]? := hf 4 _ rfl
    have h5 : DataW.trod enc Try.prog w 0 spare held n 3 (([q0, q1, q2, q3, q4, q5].drop 5).take (Try.prog.cellsOf 3)) = xs[5]? := hf 5 _ rfl
    rw [c3, List.getElem?_eq_getElem (by omega)] at h0 h1 h2 h3 h5
    rw [c24, List.getElem?_eq_getElem (by omega)] at h4
    obtain ⟨o0, e0, -⟩ := inv_int Try.underlying3 _ _ _ h0
    obtain ⟨o1, e1, -⟩ := inv_int Try.underlying3 _ _ _ h1
    obtain ⟨o2, e2, -⟩ := inv_int Try.underlying3 _ _ _ h2
    obtain ⟨o3, e3, -⟩ := inv_int Try.underlying3 _ _ _ h3
    obtain ⟨o5, e5, -⟩ := inv_int Try.underlying3 _ _ _ h5
    obtain ⟨v, l, e4, hi⟩ := nest_ints Try.underlying24 c3 Try.underlying3 h4
    have e4' : q4 = v := by simpa using e4
    subst e0 e1 e2 e3 e4' e5
    exact ⟨⟨o0, o1, o2, o3, l, o5⟩, _, rfl, hi⟩
set_option maxRecDepth 100000 in
theorem row_val {w : World} {r : Reach} {b0 : Nat} {spare : Nat → Bool} {held : Bool} {v : Value} {d : DataW H} {p : List MemPlace}
    (hv : Value.okWide Try.prog w r b0 26 v) (h : DataW.Trod enc Try.prog w 0 spare held 26 v d p) : ∃ t : RowD, RowV w v t := by
  obtain ⟨cs, rfl, hsz⟩ := okWide_struct Try.underlying26 hv
  obtain ⟨fuel, hf⟩ := h
  have hsz' : cs.size = 6 := hsz.trans (by kernel_rfl)
  obtain ⟨t, vc, e, hi⟩ := trod_row (cs := cs.toList) (by simpa using hsz') hf
  exact ⟨t, vc, by rw [← e], hi⟩
set_option maxRecDepth 100000 in
theorem prog_val {w : World} {r : Reach} {b0 : Nat} {spare : Nat → Bool} {held : Bool} {v : Value} {d : DataW H} {p : List MemPlace}
    (hv : Value.okWide Try.prog w r b0 29 v) (h : DataW.Trod enc Try.prog w 0 spare held 29 v d p) : ∃ t : ProgD, ProgV w v t := by
  obtain ⟨cs, rfl, hsz⟩ := okWide_struct Try.underlying29 hv
  obtain ⟨fuel, hf⟩ := h
  have hsz' : cs.size = 3 := hsz.trans (by kernel_rfl)
  obtain ⟨xs, n, -, -, -, hlen, hg⟩ := DataW.trod_struct Try.underlying29 hf
  obtain ⟨cl⟩ := cs
  match cl, hsz' with
  | [q0, q1, q2], _ =>
    have c3 : Try.prog.cellsOf 3 = 1 := by kernel_rfl
    have c24 : Try.prog.cellsOf 24 = 1 := by kernel_rfl
    have c27 : Try.prog.cellsOf 27 = 1 := by kernel_rfl
    have hl : xs.length = 3 := hlen
    have h0 : DataW.trod enc Try.prog w 0 spare held n 3 (([q0, q1, q2].drop 0).take (Try.prog.cellsOf 3)) = xs[0]? := hg 0 _ rfl
    have h1 : DataW.trod enc Try.prog w 0 spare held n 27 (([q0, q1, q2].drop 1).take (Try.prog.cellsOf 27)) = xs[1]? := hg 1 _ rfl
    have h2 : DataW.trod enc Try.prog w 0 spare held n 24 (([q0, q1, q2].drop 2).take (Try.prog.cellsOf 24)) = xs[2]? := hg 2 _ rfl
    rw [c3, List.getElem?_eq_getElem (by omega)] at h0
    rw [c27, List.getElem?_eq_getElem (by omega)] at h1
    rw [c24, List.getElem?_eq_getElem (by omega)] at h2
    obtain ⟨o0, e0, -⟩ := inv_int Try.underlying3 _ _ _ h0
    obtain ⟨vr, lr, e1, hr⟩ := nest_structs 6 RowCs (by decide) Try.underlying27 (by kernel_rfl) (fun _ _ _ hl hx => trod_row hl hx) h1
    obtain ⟨vg, lg, e2, hgn⟩ := nest_ints Try.underlying24 c3 Try.underlying3 h2
    have e1' : q1 = vr := by simpa using e1
    have e2' : q2 = vg := by simpa using e2
    subst e0 e1' e2'
    exact ⟨⟨o0, lr, lg⟩, _, _, rfl, hr, hgn⟩
end
end Go.Proofs.Ytblmpmapcdpaiaa

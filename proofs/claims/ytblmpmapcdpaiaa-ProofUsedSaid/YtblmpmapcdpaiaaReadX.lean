/- A slice of arrays of three integers, opened. -/
import Derived.Test.YtblmpmapcdpaiaaRead
import Derived.Test.YtblmpmapcdpaiaaP21
namespace Go.Proofs.Ytblmpmapcdpaiaa
open Go.ChangeShapes Go.WideShapes Go.ChangeAt Go.RowKit
section
variable {H : Type} {enc : TypeId × Value → H} {P : Program}

theorem cells_three {w : World} {a : Addr} {cs : List Value} (h : w.cells? 0 a 3 = some cs) : ∃ x y z, cs = [x, y, z] ∧ w.cell? a = some x ∧ w.cell? (a.add 1) = some y ∧ w.cell? (a.add 2) = some z := by
  unfold World.cells? at h
  rw [if_pos (Nat.zero_le _)] at h
  have hl : cs.length = 3 := by have := mapM_len h; simpa using this
  match cs, hl with
  | [x, y, z], _ =>
    obtain ⟨c0, hc0, hx0⟩ := Lib.mapM_at h 0 0 rfl
    obtain ⟨c1, hc1, hx1⟩ := Lib.mapM_at h 1 1 rfl
    obtain ⟨c2, hc2, hx2⟩ := Lib.mapM_at h 2 2 rfl
    simp at hc0 hc1 hc2
    subst hc0 hc1 hc2
    exact ⟨x, y, z, rfl, by simpa [Addr.add] using hx0, hx1, hx2⟩
theorem inR_wf {y : Int} (h : (Lit.int .i64 y).wf = true) : InR y := by
  simp [Lit.wf, IntKind.min, IntKind.max, IntKind.signed, IntKind.bits] at h
  exact ⟨by omega, by omega⟩
theorem trod_three {w : World} {base : Nat} {spare : Nat → Bool} {held : Bool} {e i : TypeId} {x y z : Value} {fuel : Nat} {r : DataW H × List MemPlace} (he : P.underlying e = some (.array 3 i)) (hi : P.underlying i = some (.int .i64)) (hci : P.cellsOf i = 1)
    (h : DataW.trod enc P w base spare held fuel e [x, y, z] = some r) : ∃ t : X3, x = .int .i64 t.a ∧ y = .int .i64 t.b ∧ z = .int .i64 t.c ∧ XR t := by
  obtain ⟨xs, m, -, -, hl, hxl, hx⟩ := DataW.trod_array he h
  have g : ∀ k, k < 3 → ∃ v : Int, (([x, y, z].drop (k * 1)).take 1) = [.int .i64 v] ∧ InR v := fun k hk => by
    have h1 := hx k hk
    rw [hci] at h1
    obtain ⟨x0, hx0⟩ : ∃ q, xs[k]? = some q := ⟨xs[k]'(by omega), List.getElem?_eq_getElem (by omega)⟩
    rw [hx0] at h1
    obtain ⟨c, hc⟩ : ∃ c, (([x, y, z].drop (k * 1)).take 1) = [c] := by
      match k, hk with
      | 0, _ => exact ⟨x, rfl⟩
      | 1, _ => exact ⟨y, rfl⟩
      | 2, _ => exact ⟨z, rfl⟩
    rw [hc] at h1 ⊢
    obtain ⟨v, e1, e2⟩ := inv_int hi m c x0 h1
    exact ⟨v, by rw [e1], inR_wf e2⟩
  obtain ⟨a, ha, ra⟩ := g 0 (by decide)
  obtain ⟨b, hb, rb⟩ := g 1 (by decide)
  obtain ⟨c, hc, rc⟩ := g 2 (by decide)
  exact ⟨⟨a, b, c⟩, by simpa using ha, by simpa using hb, by simpa using hc, ra, rb, rc⟩
theorem slice_x {w : World} {r : Reach} {b0 : Nat} {spare : Nat → Bool} {held : Bool} {t e i : TypeId} {v : Value} {d : DataW H} {p : List MemPlace}
    (ht : P.underlying t = some (.slice e)) (he : P.underlying e = some (.array 3 i)) (hi : P.underlying i = some (.int .i64)) (hce : P.cellsOf e = 3) (hci : P.cellsOf i = 1)
    (hv : Value.okWide P w r b0 t v) (h : DataW.Trod enc P w 0 spare held t v d p) : ∃ l : List X3, XsAt w v l ∧ ∀ y ∈ l, XR y := by
  obtain ⟨a, len, cap, rfl⟩ := okWide_slice ht hv
  obtain ⟨fuel, hf⟩ := h
  cases fuel with
  | zero => simp [DataW.trod] at hf
  | succ fuel =>
    unfold DataW.trod at hf
    simp only [ht, Value.cells] at hf
    cases a with
    | none =>
      cases len with
      | zero =>
        cases cap with
        | zero => exact ⟨[], ⟨none, 0, rfl, Nat.le_refl _, Nat.zero_le _, fun h => absurd h (Nat.lt_irrefl 0)⟩, by simp⟩
        | succ c => simp at hf
      | succ l => simp at hf
    | some a =>
      simp only [hce] at hf
      split at hf
      · rename_i hc
        obtain ⟨elems, he2, -⟩ := Option.bind_eq_some_iff.1 hf
        have hcell : ∀ i, i < len → ∃ y : X3, (w.cell? (a.add (i * 3)) = some (.int .i64 y.a) ∧ w.cell? ((a.add (i * 3)).add 1) = some (.int .i64 y.b) ∧ w.cell? ((a.add (i * 3)).add 2) = some (.int .i64 y.c)) ∧ XR y := by
          intro i hi
          obtain ⟨x, -, hx⟩ := Lib.mapM_at he2 i i (by simp [hi])
          obtain ⟨cs, hcs, hx3⟩ := Option.bind_eq_some_iff.1 hx
          obtain ⟨c0, c1, c2, rfl, h0, h1, h2⟩ := cells_three hcs
          obtain ⟨t, rfl, rfl, rfl, hr⟩ := trod_three he (by assumption) hci hx3
          exact ⟨t, ⟨h0, h1, h2⟩, hr⟩
        obtain ⟨l, hl1, hl2⟩ := choose_list (fun i (y : X3) => (w.cell? (a.add (i * 3)) = some (.int .i64 y.a) ∧ w.cell? ((a.add (i * 3)).add 1) = some (.int .i64 y.b) ∧ w.cell? ((a.add (i * 3)).add 2) = some (.int .i64 y.c)) ∧ XR y) len hcell
        subst hl1
        refine ⟨l, ⟨some a, cap, rfl, hc.2.1, hc.2.2, fun h0 => ?_⟩, fun y hy => ?_⟩
        · have hs := spot_none (hl2 0 (l[0]'h0) (List.getElem?_eq_getElem h0)).1.1
          obtain ⟨b, o, sp⟩ := a
          simp [Addr.add] at hs
          subst hs
          refine ⟨b, o, rfl, fun j y hj => ⟨_, rfl, fun k c hk => ?_, rfl⟩⟩
          obtain ⟨⟨q0, q1, q2⟩, -⟩ := hl2 j y hj
          rw [addr_add] at q0 q1 q2
          rw [addr_add] at q1 q2
          match k with
          | 0 => simp at hk; subst hk; exact q0
          | 1 => simp at hk; subst hk; exact q1
          | 2 => simp at hk; subst hk; exact q2
          | k + 3 => simp at hk
        · obtain ⟨j, hj, rfl⟩ := List.getElem_of_mem hy
          exact (hl2 j _ (List.getElem?_eq_getElem hj)).2
      · cases hf
end
end Go.Proofs.Ytblmpmapcdpaiaa

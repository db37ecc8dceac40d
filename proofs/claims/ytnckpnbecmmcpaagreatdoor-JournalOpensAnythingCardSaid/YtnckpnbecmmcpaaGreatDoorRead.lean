/- What an argument reads as: arrays and slices of cells, opened. Over any program. -/
import Derived.Test.YtnckpnbecmmcpaaGreatDoorLawKit
namespace Go.Proofs.YtnckpnbecmmcpaaGreatDoor
open Go.ChangeShapes Go.WideShapes Go.ChangeAt Go.RowKit
section
variable {H : Type} {enc : TypeId × Value → H} {P : Program}

theorem okWide_array {w : World} {r : Reach} {base n : Nat} {t e : TypeId} {v : Value} (ht : P.underlying t = some (.array n e)) (h : Value.okWide P w r base t v) : ∃ cs, v = .agg cs ∧ cs.size = P.cellsOf t := by
  simp only [Value.okWide, ht] at h
  obtain ⟨cs, h1, h2, _⟩ := h
  exact ⟨cs, h1, h2⟩

/-- An array of cells each of which reads as one of a family. -/
theorem arr_cells {α : Type} (f : α → Value) (Ok : α → Prop) {w : World} {r : Reach} {b0 base n : Nat} {spare : Nat → Bool} {held : Bool} {t e : TypeId} {v : Value} {d : DataW H} {p : List MemPlace}
    (ht : P.underlying t = some (.array n e)) (hce : P.cellsOf e = 1) (hct : P.cellsOf t = n)
    (hinv : ∀ (m : Nat) (c : Value) (x : DataW H × List MemPlace), DataW.trod enc P w base spare held m e [c] = some x → ∃ y, c = f y ∧ Ok y)
    (hv : Value.okWide P w r b0 t v) (h : DataW.Trod enc P w base spare held t v d p) : ∃ l : List α, v = .agg (l.map f).toArray ∧ l.length = n ∧ ∀ y ∈ l, Ok y := by
  obtain ⟨cs, rfl, hsz⟩ := okWide_array ht hv
  obtain ⟨fuel, hf⟩ := h
  obtain ⟨xs, m, rfl, -, hl, hxl, hx⟩ := DataW.trod_array ht hf
  have hcs : ∀ (l : List Value), l.length ≤ n → (∀ i, i < l.length → ∃ (m : Nat) (x : DataW H × List MemPlace), DataW.trod enc P w base spare held m e ((l.drop i).take 1) = some x) → ∃ ys : List α, l = ys.map f ∧ ∀ y ∈ ys, Ok y := by
    intro l
    induction l with
    | nil => intro _ _; exact ⟨[], rfl, by simp⟩
    | cons c l ih =>
      intro hl2 hall
      obtain ⟨m0, x0, h0⟩ := hall 0 (by simp)
      obtain ⟨y, rfl, hy⟩ := hinv m0 c x0 (by simpa using h0)
      obtain ⟨ys, rfl, hys⟩ := ih (by simp at hl2; omega) (fun i hi => by
        have := hall (i + 1) (by simp; omega)
        simpa using this)
      exact ⟨y :: ys, rfl, by intro z hz; rcases List.mem_cons.1 hz with rfl | hz; exact hy; exact hys z hz⟩
  have hlen : cs.toList.length = n := by simp [hsz, hct]
  obtain ⟨ys, hys, hok⟩ := hcs cs.toList (by omega) (fun i hi => by
    have := hx i (by omega)
    rw [hce, Nat.mul_one] at this
    simp only [Value.cells] at this
    obtain ⟨x, hx2⟩ : ∃ x, xs[i]? = some x := ⟨xs[i]'(by omega), List.getElem?_eq_getElem (by omega)⟩
    exact ⟨m, x, by rw [this, hx2]⟩)
  refine ⟨ys, ?_, ?_, hok⟩
  · rw [← hys]
  · rw [← hlen, hys, List.length_map]

theorem inv_string {w : World} {base : Nat} {spare : Nat → Bool} {held : Bool} {e : TypeId} (he : P.underlying e = some .string) :
    ∀ (m : Nat) (c : Value) (x : DataW H × List MemPlace), DataW.trod enc P w base spare held m e [c] = some x → ∃ y : ByteArray, c = .string y ∧ y.size ≤ maxLen := fun m c x h => by
  obtain ⟨s, h1, _, h3⟩ := DataW.trod_string he h
  exact ⟨s, by simpa using h1, h3⟩
theorem inv_int {w : World} {base : Nat} {spare : Nat → Bool} {held : Bool} {e : TypeId} {k : IntKind} (he : P.underlying e = some (.int k)) :
    ∀ (m : Nat) (c : Value) (x : DataW H × List MemPlace), DataW.trod enc P w base spare held m e [c] = some x → ∃ y : Int, c = .int k y ∧ (Lit.int k y).wf = true := fun m c x h => by
  obtain ⟨s, h1, _, h3⟩ := DataW.trod_int he h
  exact ⟨s, by simpa using h1, h3⟩
theorem list_two {α : Type} {l : List α} (h : l.length = 2) : ∃ a b, l = [a, b] := by
  match l, h with
  | [a, b], _ => exact ⟨a, b, rfl⟩

/-- A slice of cells: the value, and what its cells hold. -/
def SliceOf {α : Type} (f : α → Value) (w : World) (v : Value) (l : List α) : Prop :=
  ∃ (a : Option Addr) (cap : Nat), v = .slice a l.length cap ∧ l.length ≤ cap ∧ cap ≤ maxLen ∧
    (0 < l.length → ∃ b off, a = some ⟨b, off, none⟩ ∧ ∀ j y, l[j]? = some y → w.cell? ⟨b, off + j, none⟩ = some (f y))
theorem SliceOf.below {α : Type} {f : α → Value} {w w' : World} {v : Value} {l : List α} (h : SliceOf f w v l) (hb : Below w.heap.size w w') : SliceOf f w' v l := by
  obtain ⟨a, cap, h1, h2, h3, h4⟩ := h
  refine ⟨a, cap, h1, h2, h3, fun hl => ?_⟩
  obtain ⟨b, off, rfl, h5⟩ := h4 hl
  exact ⟨b, off, rfl, fun j y hj => (hb.cell (World.block_lt_of_cell? _ _ (h5 j y hj))).trans (h5 j y hj)⟩

theorem mapM_len {α β : Type} {f : α → Option β} : ∀ {l : List α} {r : List β}, l.mapM f = some r → r.length = l.length
  | [], r, h => by simp at h; simp [h]
  | x :: l, r, h => by
    simp only [List.mapM_cons, Option.bind_eq_bind, Option.bind_eq_some_iff, Option.pure_def, Option.some.injEq] at h
    obtain ⟨b, hb, r', hr', rfl⟩ := h
    simp [mapM_len hr']
theorem cells_one {w : World} {a : Addr} {cs : List Value} (h : w.cells? 0 a 1 = some cs) : ∃ c, cs = [c] ∧ w.cell? a = some c := by
  unfold World.cells? at h
  rw [if_pos (Nat.zero_le _)] at h
  obtain ⟨c, hc, hx⟩ := Lib.mapM_at h 0 0 rfl
  have hl : cs.length = 1 := by have := mapM_len h; simpa using this
  match cs, hl with
  | [c'], _ =>
    simp at hc
    subst hc
    exact ⟨c', rfl, by simpa [Addr.add] using hx⟩
theorem choose_list {α : Type} (R : Nat → α → Prop) : ∀ (n : Nat), (∀ i, i < n → ∃ y, R i y) → ∃ l : List α, l.length = n ∧ ∀ j y, l[j]? = some y → R j y := by
  intro n
  induction n with
  | zero => intro _; exact ⟨[], rfl, by simp⟩
  | succ n ih =>
    intro h
    obtain ⟨l, h1, h2⟩ := ih (fun i hi => h i (by omega))
    obtain ⟨y, hy⟩ := h n (by omega)
    refine ⟨l ++ [y], by simp [h1], fun j z hj => ?_⟩
    by_cases hjn : j < l.length
    · rw [List.getElem?_append_left hjn] at hj; exact h2 j z hj
    · rw [List.getElem?_append_right (by omega)] at hj
      have hj0 : j - l.length = 0 := by
        refine Classical.byContradiction fun hc => ?_
        rw [List.getElem?_eq_none (by simp; omega)] at hj; cases hj
      rw [hj0] at hj
      simp at hj; subst hj
      obtain rfl : j = n := by omega
      exact hy
theorem spot_none {w : World} {a : Addr} {v : Value} (h : w.cell? a = some v) : a.spot = none := by
  unfold World.cell? at h
  split at h
  · split at h
    · cases h
    · rename_i hs; simpa using hs
  · cases h
theorem slice_cells {α : Type} (f : α → Value) (Ok : α → Prop) {w : World} {r : Reach} {b0 : Nat} {spare : Nat → Bool} {held : Bool} {t e : TypeId} {v : Value} {d : DataW H} {p : List MemPlace}
    (ht : P.underlying t = some (.slice e)) (hce : P.cellsOf e = 1)
    (hinv : ∀ (m : Nat) (c : Value) (x : DataW H × List MemPlace), DataW.trod enc P w 0 spare held m e [c] = some x → ∃ y, c = f y ∧ Ok y)
    (hv : Value.okWide P w r b0 t v) (h : DataW.Trod enc P w 0 spare held t v d p) : ∃ l : List α, SliceOf f w v l ∧ ∀ y ∈ l, Ok y := by
  obtain ⟨a, len, cap, rfl⟩ := okWide_slice ht hv
  obtain ⟨fuel, hf⟩ := h
  cases fuel with
  | zero => simp [DataW.trod] at hf
  | succ fuel =>
    unfold DataW.trod at hf
    simp only [ht, Value.cells] at hf
    cases a with
    | none =>
      cases len with
      | zero =>
        cases cap with
        | zero => exact ⟨[], ⟨none, 0, rfl, Nat.le_refl _, Nat.zero_le _, fun h => absurd h (Nat.lt_irrefl 0)⟩, by simp⟩
        | succ c => simp at hf
      | succ l => simp at hf
    | some a =>
      simp only [hce, Nat.mul_one] at hf
      split at hf
      · rename_i hc
        obtain ⟨elems, he, -⟩ := Option.bind_eq_some_iff.1 hf
        have hcell : ∀ i, i < len → ∃ y, w.cell? (a.add i) = some (f y) ∧ Ok y := by
          intro i hi
          obtain ⟨x, -, hx⟩ := Lib.mapM_at he i i (by simp [hi])
          obtain ⟨cs, hcs, hx3⟩ := Option.bind_eq_some_iff.1 hx
          obtain ⟨c, rfl, hcc⟩ := cells_one hcs
          obtain ⟨y, rfl, hy⟩ := hinv _ _ _ hx3
          exact ⟨y, hcc, hy⟩
        obtain ⟨l, hl1, hl2⟩ := choose_list (fun i y => w.cell? (a.add i) = some (f y) ∧ Ok y) len hcell
        subst hl1
        refine ⟨l, ⟨some a, cap, rfl, hc.2.1, hc.2.2, fun h0 => ⟨a.block, a.off, ?_, fun j y hj => ?_⟩⟩, fun y hy => ?_⟩
        · have := spot_none (hl2 0 (l[0]'h0) (List.getElem?_eq_getElem h0)).1
          obtain ⟨b, o, sp⟩ := a
          simp [Addr.add] at this
          rw [this]
        · have h0 : 0 < l.length := by
            refine Classical.byContradiction fun hc => ?_
            rw [List.getElem?_eq_none (by omega)] at hj; cases hj
          have h1 := (hl2 j y hj).1
          have hj0 := spot_none (hl2 0 (l[0]'h0) (List.getElem?_eq_getElem h0)).1
          rw [← h1]
          obtain ⟨b, o, sp⟩ := a
          simp [Addr.add] at hj0
          subst hj0
          unfold Addr.add
          split
          · rename_i hj1; subst hj1; rfl
          · rfl
        · obtain ⟨j, hj, rfl⟩ := List.getElem_of_mem hy
          exact (hl2 j _ (List.getElem?_eq_getElem hj)).2
      · cases hf
end
end Go.Proofs.YtnckpnbecmmcpaaGreatDoor

/- Lemmas for nadirlaw18.LossMatchesReference: a pass stored into a row of passes; two options in a row. -/
import Derived.Test.YtmajkagmcdlncaaL4
namespace Go.Proofs.Ytmajkagmcdlncaa
open Go.RowKit Go.Shelf
open L18 (Pass Slot noPass noSlot validB passesG optV pickV X3)

theorem passes_cells {W : World} {xa : Option Addr} {n cap : Nat} {l : List Pass} (h : PassesAt W (.slice xa n cap) l) : 0 < l.length → ∃ b off, xa = some ⟨b, off, none⟩ ∧ ∀ j y, l[j]? = some y → ∀ i c, (passCs y)[i]? = some c → W.cell? ⟨b, off + j * 6 + i, none⟩ = some c := fun h0 => by
  obtain ⟨a, cap', e, -, -, h3⟩ := h
  cases e
  obtain ⟨b, off, e2, h4⟩ := h3 h0
  refine ⟨b, off, e2, fun j y hj i c hic => ?_⟩
  obtain ⟨cs, -, h5, h6⟩ := h4 j y hj
  exact h5 i c (by rw [h6]; exact hic)
/-- What cells of a block are known. -/
def Knows (W : World) (g : Nat) (c : Nat → Option Value) : Prop := ∀ q x, c q = some x → W.cell? ⟨g, q, none⟩ = some x
theorem Knows.set {W : World} {g : Nat} {c : Nat → Option Value} (h : Knows W g c) (p : Nat) (v : Value) (hp : (c p).isSome = true) : Knows (W.setCell ⟨g, p, none⟩ v) g (fun q => if q = p then some v else c q) := by
  intro q x hq
  obtain ⟨u, hu⟩ := Option.isSome_iff_exists.1 hp
  by_cases e : q = p
  · subst e
    simp only [if_true] at hq
    cases hq
    exact World.cell?_setCell_same _ _ _ (h _ _ hu)
  · simp only [e, if_false] at hq
    rw [World.cell?_setCell_other _ _ _ _ (fun hh => e (by injection hh with _ h2; exact h2.symm))]
    exact h q x hq
/-- A row of passes, one of which is stored anew. -/
theorem passes_set {W : World} {g n cap : Nat} {l : List Pass} {pn : Nat} (hn : pn < l.length) (sp : Pass) (h : PassesAt W (.slice (some ⟨g, 0, none⟩) n cap) l) :
    PassesAt ((((((W.setCell ⟨g, pn * 6, none⟩ (.int .i64 sp.sat)).setCell ⟨g, pn * 6 + 1, none⟩ (.int .i64 sp.stn)).setCell ⟨g, pn * 6 + 2, none⟩ (.int .i64 sp.sf)).setCell ⟨g, pn * 6 + 3, none⟩ (.int .i64 sp.su)).setCell ⟨g, pn * 6 + 4, none⟩ (.int .i64 sp.cf)).setCell ⟨g, pn * 6 + 5, none⟩ (.int .i64 sp.cu)) (.slice (some ⟨g, 0, none⟩) n cap) (l.set pn sp) := by
  obtain ⟨b0, off0, e0, hc⟩ := passes_cells h (by omega)
  cases e0
  have hK : Knows W g (fun q => if q < l.length * 6 then (passCs (l.getD (q / 6) noPass))[q % 6]? else none) := by
    intro q x hq
    by_cases hlt : q < l.length * 6
    · simp only [hlt, if_true] at hq
      have h1 : q / 6 < l.length := Nat.div_lt_of_lt_mul (by omega)
      have h2 := hc (q / 6) _ (getD_some noPass h1) (q % 6) x hq
      rw [show 0 + q / 6 * 6 + q % 6 = q by omega] at h2
      exact h2
    · simp only [hlt, if_false] at hq
      cases hq
  have hin : ∀ i, i < 6 → (if pn * 6 + i < l.length * 6 then (passCs (l.getD ((pn * 6 + i) / 6) noPass))[(pn * 6 + i) % 6]? else none).isSome = true := fun i hi => by
    rw [if_pos (by omega), List.getElem?_eq_getElem (by show (pn * 6 + i) % 6 < 6; omega)]; rfl
  have k0 := hK.set (pn * 6) (.int .i64 sp.sat) (hin 0 (by omega))
  have k1 := k0.set (pn * 6 + 1) (.int .i64 sp.stn) (by simp only [show ¬ pn * 6 + 1 = pn * 6 by omega, if_false]; exact hin 1 (by omega))
  have k2 := k1.set (pn * 6 + 2) (.int .i64 sp.sf) (by simp only [show ¬ pn * 6 + 2 = pn * 6 + 1 by omega, show ¬ pn * 6 + 2 = pn * 6 by omega, if_false]; exact hin 2 (by omega))
  have k3 := k2.set (pn * 6 + 3) (.int .i64 sp.su) (by simp only [show ¬ pn * 6 + 3 = pn * 6 + 2 by omega, show ¬ pn * 6 + 3 = pn * 6 + 1 by omega, show ¬ pn * 6 + 3 = pn * 6 by omega, if_false]; exact hin 3 (by omega))
  have k4 := k3.set (pn * 6 + 4) (.int .i64 sp.cf) (by simp only [show ¬ pn * 6 + 4 = pn * 6 + 3 by omega, show ¬ pn * 6 + 4 = pn * 6 + 2 by omega, show ¬ pn * 6 + 4 = pn * 6 + 1 by omega, show ¬ pn * 6 + 4 = pn * 6 by omega, if_false]; exact hin 4 (by omega))
  have k5 := k4.set (pn * 6 + 5) (.int .i64 sp.cu) (by simp only [show ¬ pn * 6 + 5 = pn * 6 + 4 by omega, show ¬ pn * 6 + 5 = pn * 6 + 3 by omega, show ¬ pn * 6 + 5 = pn * 6 + 2 by omega, show ¬ pn * 6 + 5 = pn * 6 + 1 by omega, show ¬ pn * 6 + 5 = pn * 6 by omega, if_false]; exact hin 5 (by omega))
  obtain ⟨a, cap', e, h1, h2, -⟩ := h
  cases e
  refine ⟨_, _, by rw [List.length_set], by rw [List.length_set]; exact h1, h2, fun _ => ⟨g, 0, rfl, fun j y hj => ⟨passCs y, rfl, fun i c hic => k5 _ _ ?_, rfl⟩⟩⟩
  have hi : i < 6 := by
    refine Classical.byContradiction fun hcc => ?_
    rw [List.getElem?_eq_none (by show 6 ≤ i; omega)] at hic; cases hic
  have hjl : j < l.length := by
    refine Classical.byContradiction fun hcc => ?_
    rw [List.getElem?_eq_none (by rw [List.length_set]; omega)] at hj; cases hj
  rw [Nat.zero_add]
  by_cases e : j = pn
  · subst e
    rw [List.getElem?_set_self hjl] at hj
    cases hj
    match i, hi with
    | 0, _ => simp only [show ¬ j * 6 + 0 = j * 6 + 5 by omega, show ¬ j * 6 + 0 = j * 6 + 4 by omega, show ¬ j * 6 + 0 = j * 6 + 3 by omega, show ¬ j * 6 + 0 = j * 6 + 2 by omega, show ¬ j * 6 + 0 = j * 6 + 1 by omega, if_false]; simp only [Nat.add_zero, if_true]; exact hic
    | 1, _ => simp only [show ¬ j * 6 + 1 = j * 6 + 5 by omega, show ¬ j * 6 + 1 = j * 6 + 4 by omega, show ¬ j * 6 + 1 = j * 6 + 3 by omega, show ¬ j * 6 + 1 = j * 6 + 2 by omega, if_false, if_true]; exact hic
    | 2, _ => simp only [show ¬ j * 6 + 2 = j * 6 + 5 by omega, show ¬ j * 6 + 2 = j * 6 + 4 by omega, show ¬ j * 6 + 2 = j * 6 + 3 by omega, if_false, if_true]; exact hic
    | 3, _ => simp only [show ¬ j * 6 + 3 = j * 6 + 5 by omega, show ¬ j * 6 + 3 = j * 6 + 4 by omega, if_false, if_true]; exact hic
    | 4, _ => simp only [show ¬ j * 6 + 4 = j * 6 + 5 by omega, if_false, if_true]; exact hic
    | 5, _ => simp only [if_true]; exact hic
  · rw [List.getElem?_set_ne (fun h => e h.symm)] at hj
    have hne : ∀ t, t < 6 → ¬ j * 6 + i = pn * 6 + t := fun t ht hh => by omega
    have h0 := hne 0 (by omega)
    rw [Nat.add_zero] at h0
    simp only [hne 5 (by omega), hne 4 (by omega), hne 3 (by omega), hne 2 (by omega), hne 1 (by omega), h0, if_false]
    rw [if_pos (by omega), show (j * 6 + i) / 6 = j by omega, show (j * 6 + i) % 6 = i by omega]
    rw [getD_some noPass hjl] at hj
    cases hj
    exact hic
theorem opts_two {W : World} {g : Nat} {h1 h2 : OptH} {v1 v2 : Value} {o1 o2 : List Slot} (h : Blk W g #[.int .i64 h1.id, .int .i64 h1.order, .int .i64 h1.clause, .int .i64 h1.sat, .int .i64 h1.fr, .int .i64 h1.to, .int .i64 h1.look, .int .i64 h1.size, v1, .int .i64 h2.id, .int .i64 h2.order, .int .i64 h2.clause, .int .i64 h2.sat, .int .i64 h2.fr, .int .i64 h2.to, .int .i64 h2.look, .int .i64 h2.size, v2] 28) (q1 : SlotsAt W v1 o1) (q2 : SlotsAt W v2 o2) : OptsAt W (.slice (some ⟨g, 0, none⟩) 2 2) [⟨h1, o1⟩, ⟨h2, o2⟩] := by
  refine ⟨_, _, rfl, Nat.le_refl _, by unfold maxLen; decide, fun _ => ⟨g, 0, rfl, fun j y hj => ?_⟩⟩
  match j with
  | 0 =>
    simp at hj; subst hj
    refine ⟨optCells h1 v1, rfl, fun i c hic => ?_, v1, rfl, q1⟩
    rw [h.cell]
    match i with
    | 0 => exact hic
    | 1 => exact hic
    | 2 => exact hic
    | 3 => exact hic
    | 4 => exact hic
    | 5 => exact hic
    | 6 => exact hic
    | 7 => exact hic
    | 8 => exact hic
    | _ + 9 => simp [optCells] at hic
  | 1 =>
    simp at hj; subst hj
    refine ⟨optCells h2 v2, rfl, fun i c hic => ?_, v2, rfl, q2⟩
    rw [h.cell]
    match i with
    | 0 => exact hic
    | 1 => exact hic
    | 2 => exact hic
    | 3 => exact hic
    | 4 => exact hic
    | 5 => exact hic
    | 6 => exact hic
    | 7 => exact hic
    | 8 => exact hic
    | _ + 9 => simp [optCells] at hic
  | _ + 2 => simp at hj
theorem cells2v {W : World} {B : Nat} {t : TypeId} {a b : Value} (h : Blk W B #[a, b] t) {j : Nat} (hj : j < 2) : W.cell? ⟨B, j, none⟩ = some (pick2 a b j) := by
  rw [h.cell]
  match j, hj with
  | 0, _ => rfl
  | 1, _ => rfl
theorem pick2_all {α β : Type} {R : α → β → Prop} {a b : α} {x y : β} (h1 : R a x) (h2 : R b y) (j : Nat) : R (pick2 a b j) (pick2 x y j) := by
  match j with
  | 0 => exact h1
  | _ + 1 => exact h2
end Go.Proofs.Ytmajkagmcdlncaa

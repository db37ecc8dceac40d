/- The indices that Crash leaves out; slices.IndexFunc and DeleteFunc over them. -/
import Derived.Test.YtfmdpmcniccioaaD7
namespace Go.Proofs.Ytfmdpmcniccioaa
open Go.RowKit Go.Shelf Lib

theorem retB {a b : Bool} (h : a = b) : Ending.returned (.bool a) = .returned (.bool b) := by rw [h]
def outB (m : Nat) (i : Int) : Bool := decide (i < 0) || decide ((m : Int) ≤ i)
theorem crash1 {w : World} {C B m c : Nat} {a : Option Addr} (i : Int) (hC : w.cell? ⟨C, 0, none⟩ = some (.pointer (some ⟨B, 0, none⟩))) (hB : w.cell? ⟨B, 4, none⟩ = some (.slice a m c)) :
    Calls Try.prog 42 #[.int .i64 i, .pointer (some ⟨C, 0, none⟩)] w fun e w' => e = .returned (.bool (outB m i)) ∧ w = w' := by
  by_cases h : i < 0
  · have d1 : decide (i < 0) = true := decide_eq_true h
    have H : Hid (outB m i = true) := by unfold outB; rw [d1]; exact rfl
    clear h
    go_enter Try.func42, Try.ntmps42
    go_wp2
    go_ret
    exact ⟨retB H.out.symm, rfl⟩
  · have d1 : decide (i < 0) = false := decide_eq_false h
    have H : Hid (outB m i = decide ((m : Int) ≤ i)) := by unfold outB; rw [d1]; exact Bool.false_or _
    clear h
    go_enter Try.func42, Try.ntmps42
    go_wp2
    go_ret
    exact ⟨retB H.out.symm, rfl⟩
/-- What a search over an own row of integers needs: the row, and what the closure reads. -/
structure Srch (w : World) (base : Nat) (v : Value) (l : List Int) (C B m : Nat) : Prop where
  own : w.ownsRow base 3 1 v l.length (l.map (Value.int .i64))
  c : w.cell? ⟨C, 0, none⟩ = some (.pointer (some ⟨B, 0, none⟩))
  b : ∃ a c, w.cell? ⟨B, 4, none⟩ = some (.slice a m c)
def cF (C : Nat) : Value := .func (.func 42) #[] #[.pointer (some ⟨C, 0, none⟩)]
def firstOut (m : Nat) (l : List Int) : Int := match l.findIdx? (outB m) with | none => -1 | some i => i
theorem findIdx_none {m : Nat} {l : List Int} (h : ∀ j, j < l.length → outB m (l.getD j 0) = false) : l.findIdx? (outB m) = none := by
  rw [List.findIdx?_eq_none_iff]
  intro x hx
  obtain ⟨j, hj, rfl⟩ := List.getElem_of_mem hx
  have := h j hj
  rw [List.getD_eq_getElem?_getD, List.getElem?_eq_getElem hj] at this
  exact this
theorem findIdx_at {m : Nat} {l : List Int} {k : Nat} (hk : k < l.length) (h1 : outB m (l.getD k 0) = true) (h : ∀ j, j < k → outB m (l.getD j 0) = false) : l.findIdx? (outB m) = some k := by
  rw [List.findIdx?_eq_some_iff_getElem]
  rw [List.getD_eq_getElem?_getD, List.getElem?_eq_getElem hk] at h1
  refine ⟨hk, h1, fun j hj => ?_⟩
  have := h j hj
  rw [List.getD_eq_getElem?_getD, List.getElem?_eq_getElem (by omega)] at this
  simpa using this
set_option maxRecDepth 100000 in
theorem indexFunc_any {w : World} {base : Nat} {v : Value} {l : List Int} {C B m : Nat} (h : Srch w base v l C B m) :
    Calls Try.prog 48 #[v, cF C] w fun e w' => e = .returned (.int .i64 (firstOut m l)) ∧ w = w' := by
  have hsl := owned_slice h.own
  have HS := Lib.hid hsl
  obtain ⟨a, cap, rfl, h1, h2⟩ := hsl.len
  obtain ⟨pa, pc, hb⟩ := h.b
  have hc := Lib.hid (fun x => crash1 (m := m) x h.c hb)
  unfold maxLen at h2
  clear hsl h hb
  unfold cF
  go_enter Try.func48, Try.ntmps48
  go_wp2
  go_loop [8] (fun u8 => ∃ k : Nat, k ≤ l.length ∧ u8 = .int .i64 k ∧ Hid (∀ j, j < k → outB m (l.getD j 0) = false)) (fun u8 => (l.length - intOf u8).toNat)
  case atStart => exact ⟨0, by omega, rfl, Lib.hid (fun j h => by omega)⟩
  case round =>
    obtain ⟨k, hk, rfl, hall⟩ := hrel
    by_cases hkl : k < l.length
    · obtain ⟨b, off, rfl, hcell⟩ := HS.out.get (getD_some 0 hkl)
      have hki : (0 : Int) ≤ (k : Int) ∧ (k : Int) < (l.length : Int) := by omega
      have hnext : outB m (l.getD k 0) = false → Hid (∀ j, j < k + 1 → outB m (l.getD j 0) = false) := fun h j hj => by
        rcases Nat.lt_or_ge j k with h2 | h2
        · exact hall.out j h2
        · obtain rfl : j = k := by omega
          exact h
      have hfound : outB m (l.getD k 0) = true → Hid (firstOut m l = k) := fun h => by
        show _ = _; unfold firstOut; rw [findIdx_at hkl h hall.out]
      generalize l.getD k 0 = x at *
      go_wp2_with fail
      refine (hc.out x).mono ?_
      rintro e w' ⟨rfl, rfl⟩
      cases hq : outB m x with
      | true =>
        have H := hfound hq
        clear hfound hnext hq
        go_wp2
        go_ret
        exact ⟨retI H.out.symm, rfl⟩
      | false =>
        have H := hnext hq
        clear hfound hnext hq
        go_wp2
        go_round
        case rel => exact ⟨k + 1, by omega, by go_num, H⟩
        case measure => simp [intOf]; omega
    · obtain rfl : k = l.length := by omega
      have H : Hid (firstOut m l = -1) := by show _ = _; unfold firstOut; rw [findIdx_none hall.out]
      go_wp2
      go_ret
      exact ⟨retI H.out.symm, rfl⟩
end Go.Proofs.Ytfmdpmcniccioaa

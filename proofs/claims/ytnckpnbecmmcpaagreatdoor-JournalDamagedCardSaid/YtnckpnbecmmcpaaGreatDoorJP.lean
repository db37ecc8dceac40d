/- What a journal keeps through power failures. -/
import Derived.Test.YtnckpnbecmmcpaaGreatDoorJN
namespace Go.Proofs.YtnckpnbecmmcpaaGreatDoor
open Go.RowKit
structure KeepI (n : Nat) (J : JouD) (D : DiskD) (sure : List ByteArray) : Prop where
  eq : J.L = sure
  fit : tapeN sure ≤ n
  short : ∀ t ∈ sure, t.size ≤ 65536
  one : D.pend.length ≤ 1
  st : (J.broken = false ∧ Good n sure D) ∨ (J.broken = true ∧ ∃ l, Half n sure (sure ++ l) D)
theorem KeepI.good {n : Nat} {L : List ByteArray} {D : DiskD} (h : Good n L D) : KeepI n ⟨L, false⟩ D L := ⟨rfl, h.full.2.1, h.full.1, by rw [h.pend]; decide, .inl ⟨rfl, h⟩⟩
theorem KeepI.len {n : Nat} {J : JouD} {D : DiskD} {sure : List ByteArray} (h : KeepI n J D sure) : sure.length ≤ n := by
  have := tapeN_len sure
  have := h.fit
  omega
theorem KeepI.cut {n : Nat} {J : JouD} {D : DiskD} {sure : List ByteArray} (h : KeepI n J D sure) (k : Int) (h1 : 1 ≤ k) (h2 : k ≤ 9223372036854775807) : KeepI n J (cutD D k) sure := by
  rcases h.st with ⟨hb, hg⟩ | ⟨hb, l, hh⟩
  · have hg' := hg.cut k h1 h2
    exact ⟨h.eq, h.fit, h.short, by rw [hg'.pend]; decide, .inl ⟨hb, hg'⟩⟩
  · rw [hh.cut]; exact h
theorem KeepI.crash {n : Nat} {J : JouD} {D : DiskD} {sure : List ByteArray} (h : KeepI n J D sure) (kl : List Int) (torn : Int) :
    ∃ K, openE n (crashD D kl torn) = 0 ∧ openL n (crashD D kl torn) = K ∧ KeepI n ⟨K, false⟩ (openD n (crashD D kl torn)) K ∧ sure.length ≤ K.length ∧ K.take sure.length = sure := by
  rcases h.st with ⟨hb, hg⟩ | ⟨hb, l, hh⟩
  · have := open_crash hg.inv (hg.crash kl torn)
    exact ⟨sure, this.1, this.2.1, .good this.2.2.1, Nat.le_refl _, List.take_length⟩
  · rcases hh.crash kl torn with hr | hr
    · have := open_crash hh.inv hr
      exact ⟨sure, this.1, this.2.1, .good this.2.2.1, Nat.le_refl _, List.take_length⟩
    · have := open_crash hh.inv hr
      exact ⟨sure ++ l, this.1, this.2.1, .good this.2.2.1, by simp, by simp⟩
theorem KeepI.app {n : Nat} {J : JouD} {D : DiskD} {sure : List ByteArray} (h : KeepI n J D sure) {l : List ByteArray} (hl : ∀ t ∈ l, t.size ≤ 65536) :
    (appE n J D l = 0 ∧ KeepI n (appJ n J D l) (appD n J D l) (sure ++ l)) ∨ ((appE n J D l = 340 ∨ appE n J D l = 341 ∨ appE n J D l = 331) ∧ KeepI n (appJ n J D l) (appD n J D l) sure) := by
  obtain ⟨L, b⟩ := J
  have he := h.eq
  simp only at he
  subst he
  rcases h.st with ⟨hb, hg⟩ | ⟨hb, m, hh⟩
  · simp only at hb
    subst hb
    rcases app_good hg hl with ⟨e1, e2, g⟩ | ⟨e1, e2, e3⟩ | ⟨e1, e2, g⟩
    · left; rw [e2]; exact ⟨e1, .good g⟩
    · right; rw [e2, e3]; exact ⟨.inr (.inl e1), h⟩
    · right; rw [e2]; exact ⟨.inr (.inr e1), rfl, h.fit, h.short, g.one, .inr ⟨rfl, l, g⟩⟩
  · simp only at hb
    subst hb
    obtain ⟨e1, e2, e3⟩ := app_broken (n := n) (L := L) (l := l) (D := D)
    right; rw [e2, e3]; exact ⟨.inl e1, h⟩
theorem strs_take {W : World} {a : Option Addr} {c : Nat} {l : List ByteArray} (h : StrsAt W (.slice a l.length c) l) (k : Nat) (hk : k ≤ l.length) : StrsAt W (.slice a k c) (l.take k) := by
  obtain ⟨a', c', e, h1, h2, h3⟩ := h
  cases e
  refine ⟨a, c, by rw [List.length_take, Nat.min_eq_left hk], by rw [List.length_take]; omega, h2, fun h0 => ?_⟩
  obtain ⟨b, o, rfl, h4⟩ := h3 (by rw [List.length_take] at h0; omega)
  refine ⟨b, o, rfl, fun j y hj => h4 j y ?_⟩
  rw [List.getElem?_take] at hj
  split at hj
  · exact hj
  · cases hj
end Go.Proofs.YtnckpnbecmmcpaaGreatDoor

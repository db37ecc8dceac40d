/- package nadirref02: Chain, Head; package nadirref34: Stored. -/
import Derived.Test.YtnckpnbecmmcpaaDoorS8
namespace Go.Proofs.YtnckpnbecmmcpaaDoor
open Go.RowKit
open W01 (putsT putsE)
abbrev StrsAt (w : World) (v : Value) (l : List ByteArray) : Prop := SliceOf Value.string w v l
theorem headS_take {l : List ByteArray} {i : Nat} (h : i < l.length) : headS (l.take (i + 1)) = chainS (headS (l.take i)) l[i] := by
  rw [List.take_succ_eq_append_getElem h, headS_snoc]
theorem strs_get {w : World} {a : Option Addr} {n c : Nat} {l : List ByteArray} (h : StrsAt w (.slice a n c) l) {i : Nat} (hi : i < l.length) : ∃ b o, a = some ⟨b, o, none⟩ ∧ w.cell? ⟨b, o + i, none⟩ = some (.string l[i]) := by
  obtain ⟨a', c', e, h1, h2, h3⟩ := h
  cases e
  obtain ⟨b, o, e, h4⟩ := h3 (by omega)
  exact ⟨b, o, e, h4 i _ (List.getElem?_eq_getElem hi)⟩
theorem strs_len {w : World} {v : Value} {l : List ByteArray} (h : StrsAt w v l) : ∃ a c, v = .slice a l.length c ∧ l.length ≤ c ∧ c ≤ maxLen := by
  obtain ⟨a', c', e, h1, h2, h3⟩ := h
  exact ⟨a', c', e, h1, h2⟩
theorem zero_made (n : Nat) : strOf (List.replicate n 0) = (⟨Array.replicate n 0⟩ : ByteArray) := by
  apply W01.str_ext; simp [strOf]
theorem z32_made : strOf (List.replicate 32 0) = z32 := zero_made 32
attribute [local irreducible] wpStill
end Go.Proofs.YtnckpnbecmmcpaaDoor

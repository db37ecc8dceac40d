/- Plain: a string with the bytes that are added to it; package nadirref02: extended. -/
import Derived.Test.YtnckpnbecmmcpaaDoorS5
namespace Go.Proofs.YtnckpnbecmmcpaaDoor
open Go.RowKit
/-- An own row of bytes, as numbers. -/
def OwnBy (W : World) (B : Nat) (v : Value) (bs : List Int) : Prop := W.ownsRow B 5 1 v bs.length (bs.map (Value.int .u8))
def bytesI (s : ByteArray) : List Int := s.data.toList.map fun b : UInt8 => (b.toNat : Int)
theorem bytesI_len (s : ByteArray) : (bytesI s).length = s.size := by simp [bytesI]
theorem bytesI_take (s : ByteArray) (k : Nat) (h : k < s.size) : (bytesI s).take (k + 1) = (bytesI s).take k ++ [((s[k]).toNat : Int)] := by
  have hl : k < (bytesI s).length := by rw [bytesI_len]; exact h
  rw [List.take_succ_eq_append_getElem hl]
  congr 2
  simp only [bytesI, List.getElem_map]
  rfl
/-- How many zero bytes are added. -/
def padN (n : Nat) : Nat := (119 - n % 64) % 64
theorem padN_spec (n m : Nat) (hm : m ≤ padN n) : (n + 1 + m) % 64 = 56 ↔ m = padN n := by
  unfold padN at *
  omega
theorem padN_le (n : Nat) : padN n < 64 := Nat.mod_lt _ (by decide)
def lenB (n k : Nat) : Int := (8 * (n : Int)) / 2 ^ (8 * (7 - k)) % 256
def lenL (n k : Nat) : List Int := (List.range k).map (lenB n)
theorem lenL_succ (n k : Nat) : lenL n (k + 1) = lenL n k ++ [lenB n k] := by unfold lenL; rw [List.range_succ, List.map_append]; rfl
theorem lenL_len (n k : Nat) : (lenL n k).length = k := by simp [lenL]
/-- A string with what is added. -/
def padL (s : ByteArray) : List Int := bytesI s ++ [128] ++ List.replicate (padN s.size) 0 ++ lenL s.size 8
theorem padL_len (s : ByteArray) : (padL s).length = s.size + 1 + padN s.size + 8 := by
  unfold padL; simp only [List.length_append, List.length_replicate, List.length_singleton, bytesI_len, lenL_len]
theorem padL_mod (s : ByteArray) : (padL s).length % 64 = 0 := by
  rw [padL_len]
  have := (padN_spec s.size (padN s.size) (Nat.le_refl _)).2 rfl
  omega
theorem OwnBy.snoc {W : World} {B : Nat} {v : Value} {bs : List Int} {x : Int} (h : W.ownsRow B 5 1 v (bs.length + 1) (bs.map (Value.int .u8) ++ [.int .u8 x])) : OwnBy W B v (bs ++ [x]) := by
  unfold OwnBy
  rw [List.length_append, List.map_append]; exact h
theorem OwnBy.len {W : World} {B : Nat} {v : Value} {bs : List Int} (h : OwnBy W B v bs) : ∃ (a : Option Addr) (cap : Nat), v = .slice a bs.length cap ∧ bs.length ≤ cap ∧ cap ≤ maxLen := by
  rcases h.2 with ⟨rfl, hn⟩ | ⟨g, cap, cur, rfl, hb, hg, h1, h2, -⟩
  · exact ⟨none, 0, by rw [hn], by omega, by unfold maxLen; omega⟩
  · exact ⟨_, cap, rfl, h1, h2⟩
end Go.Proofs.YtnckpnbecmmcpaaDoor

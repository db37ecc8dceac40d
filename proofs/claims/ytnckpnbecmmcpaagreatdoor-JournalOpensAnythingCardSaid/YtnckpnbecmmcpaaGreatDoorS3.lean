/- package digest: a block processed: plain words; laws over arrays. -/
import Derived.Test.YtnckpnbecmmcpaaGreatDoorS2
import Derived.Laws.CopyRow
namespace Go.Proofs.YtnckpnbecmmcpaaGreatDoor
open Go.RowKit
/-- Eight words. -/
structure V8 where
  a : Int
  b : Int
  c : Int
  d : Int
  e : Int
  f : Int
  g : Int
  h : Int
def cellsV (v : V8) : Array Value := #[.int .u32 v.a, .int .u32 v.b, .int .u32 v.c, .int .u32 v.d, .int .u32 v.e, .int .u32 v.f, .int .u32 v.g, .int .u32 v.h]
abbrev anU (a b : Int) : Int := bits .and .u32 a b
abbrev noU (a : Int) : Int := bits .xor .u32 (if IntKind.u32.signed = true then -1 else IntKind.u32.max) a
def KR : List Int := [0x428a2f98, 0x71374491, 0xb5c0fbcf, 0xe9b5dba5, 0x3956c25b, 0x59f111f1, 0x923f82a4, 0xab1c5ed5,
  0xd807aa98, 0x12835b01, 0x243185be, 0x550c7dc3, 0x72be5d74, 0x80deb1fe, 0x9bdc06a7, 0xc19bf174,
  0xe49b69c1, 0xefbe4786, 0x0fc19dc6, 0x240ca1cc, 0x2de92c6f, 0x4a7484aa, 0x5cb0a9dc, 0x76f988da,
  0x983e5152, 0xa831c66d, 0xb00327c8, 0xbf597fc7, 0xc6e00bf3, 0xd5a79147, 0x06ca6351, 0x14292967,
  0x27b70a85, 0x2e1b2138, 0x4d2c6dfc, 0x53380d13, 0x650a7354, 0x766a0abb, 0x81c2c92e, 0x92722c85,
  0xa2bfe8a1, 0xa81a664b, 0xc24b8b70, 0xc76c51a3, 0xd192e819, 0xd6990624, 0xf40e3585, 0x106aa070,
  0x19a4c116, 0x1e376c08, 0x2748774c, 0x34b0bcb5, 0x391c0cb3, 0x4ed8aa4a, 0x5b9cca4f, 0x682e6ff3,
  0x748f82ee, 0x78a5636f, 0x84c87814, 0x8cc70208, 0x90befffa, 0xa4506ceb, 0xbef9a3f7, 0xc67178f2]
/-- The two sums of a round. -/
def tV (v : V8) (k w : Int) : Int := addU (addU (addU (addU v.h (mixV v.e [6, 11, 25])) (xU (anU v.e v.f) (anU (noU v.e) v.g))) k) w
def uV (v : V8) : Int := addU (mixV v.a [2, 13, 22]) (xU (xU (anU v.a v.b) (anU v.a v.c)) (anU v.b v.c))
def rndV (k w : Int) (v : V8) : V8 := ⟨addU (tV v k w) (uV v), v.a, v.b, v.c, addU v.d (tV v k w), v.e, v.f, v.g⟩
def runV (ws : List Int) (v : V8) : Nat → V8
  | 0 => v
  | i + 1 => rndV (KR.getD i 0) (ws.getD i 0) (runV ws v i)
def sumV (h v : V8) : V8 := ⟨addU h.a v.a, addU h.b v.b, addU h.c v.c, addU h.d v.d, addU h.e v.e, addU h.f v.f, addU h.g v.g, addU h.h v.h⟩
/-- A block processed. -/
def addB (h : V8) (l : List UInt8) : V8 := sumV h (runV (schedW l) h 64)
/-- The table of the rounds lies in its cell. -/
def RoundT (w : World) : Prop := 3 < w.heap.size ∧ w.rangeAt 3 0 (KR.map (Value.int .u32))
theorem RoundT.below {w w' : World} {D : Nat} (h : RoundT w) (hD : 3 < D) (hb : Below D w w') : RoundT w' :=
  ⟨Nat.lt_of_lt_of_le h.1 hb.size, fun j v hj => (hb.cell (p := ⟨3, 0 + j, none⟩) hD).trans (h.2 j v hj)⟩
theorem c64_at {ws : List Int} {i : Nat} (h : i < ws.length) : (c64 ws)[i]? = some (.int .u32 (ws.getD i 0)) := by
  unfold c64
  rw [List.getElem?_append_left (by rw [List.length_map]; exact h), List.getElem?_map, getD_some 0 h]; rfl
theorem KR_len : KR.length = 64 := rfl
theorem index214 (i : Nat) (h : i < 64) (W : World) : (Instr.index 214 (.agg (KR.map (Value.int .u32)).toArray) (.int .i64 (i : Int))).run Tryz.prog W = .ok (.int .u32 (KR.getD i 0)) W := by
  have hi : (0 : Int) ≤ (i : Int) ∧ (i : Int) < 64 := by omega
  simp [Instr.index, run_underlying Tryz.underlying214, asIntOf, hi, go_sem]
  rw [if_pos h, List.getElem?_eq_getElem (show i < KR.length from h)]
  rfl
end Go.Proofs.YtnckpnbecmmcpaaGreatDoor

/- Plain words of 32 bits; package digest and nadirref02: rotations, mixed. -/
import Derived.Test.YtnckpnbecmmcpaaGreatDoorSChn
import Derived.Test.YtnckpnbecmmcpaaGreatDoorBits
namespace Go.Proofs.YtnckpnbecmmcpaaGreatDoor
open Go.RowKit

/-- A word rotated right. -/
def rotr (x : Int) (k : Nat) : Int := bits .or .u32 (x / 2 ^ k) (x * 2 ^ (32 - k) % 4294967296)
abbrev xU (a b : Int) : Int := bits .xor .u32 a b
abbrev IsU (x : Int) : Prop := 0 ≤ x ∧ x < 4294967296
theorem or_comm32 (a b : Int) : bits .or .u32 a b = bits .or .u32 b a := by
  show IntKind.u32.wrap ((BitVec.ofInt _ a ||| BitVec.ofInt _ b).toNat : Int) = IntKind.u32.wrap ((BitVec.ofInt _ b ||| BitVec.ofInt _ a).toNat : Int)
  rw [BitVec.or_comm]
theorem isU_or (a b : Int) : IsU (bits .or .u32 a b) := by
  show IsU (IntKind.u32.wrap _)
  rw [IntKind.wrap_u32]
  exact ⟨Int.emod_nonneg _ (by decide), Int.emod_lt_of_pos _ (by decide)⟩
theorem isU_xor (a b : Int) : IsU (bits .xor .u32 a b) := by
  show IsU (IntKind.u32.wrap _)
  rw [IntKind.wrap_u32]
  exact ⟨Int.emod_nonneg _ (by decide), Int.emod_lt_of_pos _ (by decide)⟩
theorem isU_rotr (x : Int) (k : Nat) : IsU (rotr x k) := isU_or _ _
theorem xor_zero32 {a : Int} (h : IsU a) : bits .xor .u32 0 a = a := by
  obtain ⟨n, rfl⟩ := Int.eq_ofNat_of_zero_le h.1
  have := u32_xor 0 n (by decide) (by have := h.2; omega)
  simpa using this
theorem low31 (k : Nat) (h : 0 < k ∧ k < 32) : bits .and .u64 (IntKind.u64.wrap (-(k : Int))) 31 = ((32 - k : Nat) : Int) := by
  rw [IntKind.wrap_u64]
  have h1 : bits .and .u64 (-(k : Int) % 18446744073709551616) 31 = (-(k : Int) % 18446744073709551616) % 32 := bits_mask .u64 64 (by decide) wraps_u64 5 (by decide) _ (by omega) (by omega)
  rw [h1]
  omega
set_option maxRecDepth 100000 in
theorem rot149 (x : Int) (k : Nat) (w : World) (hk : 0 < k ∧ k < 32) : Calls Tryz.prog 149 #[.int .u32 x, .int .i64 (-(k : Int))] w fun e w' => e = .returned (.int .u32 (rotr x k)) ∧ w = w' := by
  have hs := low31 k hk
  obtain ⟨m, hm⟩ : ∃ m, 32 - k = m := ⟨_, rfl⟩
  rw [hm] at hs
  have hm1 : (0 : Int) ≤ (m : Int) ∧ (m : Int) ≤ 32 := by omega
  have hw : IntKind.u64.wrap (32 - (m : Int)) = (k : Int) := by rw [wraps_u64 _ (by omega) (by omega)]; omega
  have HK := Lib.hid hk
  have HM := Lib.hid hm
  clear hm
  go_enter Tryz.func149, Tryz.ntmps149
  go_wp2
  go_ret
  refine ⟨?_, rfl⟩
  unfold rotr
  rw [HM.out, or_comm32]
  simp
set_option maxRecDepth 100000 in
theorem rot87 (x : Int) (k : Nat) (w : World) (hk : 0 < k ∧ k < 32) : Calls Tryz.prog 87 #[.int .u32 x, .int .i64 (k : Int)] w fun e w' => e = .returned (.int .u32 (rotr x k)) ∧ Below w.heap.size w w' := by
  have hw : IntKind.i64.wrap (32 - (k : Int)) = ((32 - k : Nat) : Int) := by rw [wraps_i64 _ (by omega) (by omega)]; omega
  have hm1 : (0 : Int) ≤ ((32 - k : Nat) : Int) ∧ (0 : Int) ≤ (k : Int) := by omega
  go_enter Tryz.func87, Tryz.ntmps87
  go_upto_region 1 with (fail)
  go_quiet (skip)
  generalize hq : World.drewN _ _ = V
  have hb := hq ▸ below_drewN (Below.refl w.heap.size w) _
  clear hq
  go_wp2
  go_ret
  exact ⟨rfl, hb⟩
/-- A word combined with rotations of it. -/
def mixV (x : Int) (l : List Nat) : Int := l.foldl (fun a n => xU a (rotr x n)) 0
set_option maxRecDepth 100000 in
theorem mixed145 (x : Int) (v : Value) (l : List Nat) (w : World) (hl : ∀ n ∈ l, 0 < n ∧ n < 32) (hv : SliceOf (Value.int .i64) w v (l.map fun n : Nat => (n : Int))) : Calls Tryz.prog 145 #[.int .u32 x, v] w fun e w' => e = .returned (.int .u32 (mixV x l)) ∧ w = w' := by
  have HV := Lib.hid hv
  have HL := Lib.hid hl
  obtain ⟨a, cap, rfl, hle, hcm, -⟩ := hv
  rw [List.length_map] at hle ⊢
  unfold maxLen at hcm
  clear hl
  have hall : mixV x l = mixV x (l.take l.length) := by rw [List.take_length]
  rw [hall]
  clear hall
  go_enter Tryz.func145, Tryz.ntmps145
  go_wp2
  go_loop [5, 7, 10] (fun u5 _ u10 => ∃ k : Nat, k ≤ l.length ∧ u10 = .int .i64 (k : Int) ∧ u5 = .int .u32 (mixV x (l.take k))) (fun _ _ u10 => (l.length - intOf u10).toNat)
  case atStart => exact ⟨0, by omega, rfl, rfl⟩
  case round =>
    obtain ⟨k, hk, rfl, rfl⟩ := hrel
    by_cases hkl : k < l.length
    · have i1 : (0 : Int) ≤ (k : Int) ∧ (k : Int) < (l.length : Int) := by omega
      have hget : (l.map fun n : Nat => (n : Int))[k]? = some ((l.getD k 0 : Nat) : Int) := by
        rw [List.getElem?_map, getD_some 0 hkl]; rfl
      obtain ⟨b, off, rfl, c0⟩ := HV.out.get hget
      have hn := HL.out (l.getD k 0) (by rw [List.getD_eq_getElem?_getD, List.getElem?_eq_getElem hkl]; exact List.getElem_mem hkl)
      have HS := Lib.hid (show mixV x (l.take (k + 1)) = xU (mixV x (l.take k)) (rotr x (l.getD k 0)) by
        unfold mixV
        rw [List.take_succ_eq_append_getElem hkl, List.foldl_append, List.getD_eq_getElem?_getD, List.getElem?_eq_getElem hkl]; rfl)
      generalize l.getD k 0 = n at c0 hn HS
      have hq := rot149 x n w hn
      have hng : IntKind.i64.wrap (-(n : Int)) = -(n : Int) := by rw [IntKind.wrap_i64]; omega
      clear hget
      go_wp2_with fail
      refine hq.mono ?_
      rintro e w' ⟨rfl, rfl⟩
      go_wp2
      go_round
      case rel => exact ⟨k + 1, by omega, by go_num, by rw [HS.out]⟩
      case measure => simp [intOf]; omega
    · obtain rfl : k = l.length := by omega
      go_wp2
      go_ret
      exact ⟨rfl, rfl⟩
end Go.Proofs.YtnckpnbecmmcpaaGreatDoor

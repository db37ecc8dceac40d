import Derived.Test.YtgjihgdomicijaaDoorProg
import Derived.Test.YtgjihgdomicijaaDoorKit
import Derived.Test.YtgjihgdomicijaaDoorBits
import Derived.Test.YtgjihgdomicijaaDoorDec
import Derived.Test.YtgjihgdomicijaaDoorCrc
import Derived.Outline
namespace Go.Proofs.YtgjihgdomicijaaDoor
open Go.RowKit

/-- The table of the program, as it lies in the world. -/
def Nib (w : World) : Prop := 0 < w.heap.size ∧ ∀ k, k < 16 → w.cell? ⟨0, k, none⟩ = some (.int .u32 (nb k))
theorem Nib.below {w w' : World} (h : Nib w) (hb : Below w.heap.size w w') : Nib w' :=
  ⟨Nat.lt_of_lt_of_le h.1 hb.size, fun k hk => (hb.cell (p := ⟨0, k, none⟩) h.1).trans (h.2 k hk)⟩

def bytesN (s : ByteArray) : List Nat := s.data.toList.map UInt8.toNat
theorem bytesN_len (s : ByteArray) : (bytesN s).length = s.size := by simp [bytesN]
theorem bytesN_lt (s : ByteArray) : ∀ x ∈ bytesN s, x < 256 := by
  intro x hx; simp [bytesN] at hx; obtain ⟨b, _, rfl⟩ := hx; exact b.toNat_lt
theorem bytesN_take (s : ByteArray) (k : Nat) (h : k < s.size) : (bytesN s).take (k + 1) = (bytesN s).take k ++ [s[k].toNat] := by
  rw [List.take_add_one]
  have : (bytesN s)[k]? = some s[k].toNat := by simp only [bytesN, List.getElem?_map, byte_some s k h]; rfl
  rw [this]; rfl
def crcK (s : ByteArray) (k : Nat) : Nat := crcL 4294967295 ((bytesN s).take k)
theorem crcK_lt (s : ByteArray) (k : Nat) : crcK s k < 4294967296 := crcL_lt _ _ (by decide) (fun x hx => bytesN_lt s x (List.mem_of_mem_take hx))
theorem crcK_succ (s : ByteArray) (k : Nat) (h : k < s.size) : crcK s (k + 1) = bsN 8 (crcK s k ^^^ s[k].toNat) := by
  unfold crcK; rw [bytesN_take s k h, crcL_snoc]; rfl
def sumS (s : ByteArray) : Int := 4294967295 - crcK s s.size

theorem nib_and (r : Nat) (hr : r < 4294967296) : bits .and .u32 (r : Int) 15 = (r : Int) % 16 := u32_and15 _ (by omega) (by omega)
theorem nib_xor (r : Nat) (hr : r < 4294967296) : bits .xor .u32 ((r : Int) / 16) (nb (r % 16) : Int) = (nstep r : Int) := by
  rw [show ((r : Int) / 16) = ((r / 16 : Nat) : Int) by omega, u32_xor _ _ (by omega) (nb_lt _)]; rfl

set_option maxRecDepth 100000 in
set_option maxHeartbeats 400000 in
theorem sum_any (s : ByteArray) (w : World) (hs : s.size ≤ maxLen) (hN : Nib w) :
    Calls Tryd.prog 21 #[.string s] w fun e w' => e = .returned (.int .i64 (sumS s)) ∧ w = w' := by
  unfold maxLen at hs
  have hcells := Lib.hid hN
  clear hN
  go_enter Tryd.func21, Tryd.ntmps21
  go_wp2
  go_loop [3, 4, 7] (fun u3 _ u7 => ∃ k : Nat, k ≤ s.size ∧ u7 = .int .i64 k ∧ u3 = .int .u32 (crcK s k)) (fun _ _ u7 => (s.size - intOf u7).toNat)
  case atStart => exact ⟨0, by omega, rfl, rfl⟩
  case round =>
    obtain ⟨k, hk, rfl, rfl⟩ := hrel
    have hr := crcK_lt s k
    by_cases hlt : k < s.size
    · have hE := Lib.hid (crcK_succ s k hlt)
      have hb := s[k].toNat_lt
      have hx1 := u32_xor (crcK s k) s[k].toNat hr (by omega)
      have hr1 := xor_lt32 (crcK s k) s[k].toNat hr (by omega)
      obtain ⟨r1, e1⟩ : ∃ r1, r1 = crcK s k ^^^ s[k].toNat := ⟨_, rfl⟩
      rw [← e1] at hx1 hr1
      have E1 := Lib.hid e1
      clear e1
      have a1 := nib_and r1 hr1
      have c1 := hcells.out.2 (r1 % 16) (Nat.mod_lt _ (by decide))
      have x1 := nib_xor r1 hr1
      have hr2 := nstep_lt r1 hr1
      obtain ⟨r2, e2⟩ : ∃ r2, r2 = nstep r1 := ⟨_, rfl⟩
      rw [← e2] at x1 hr2
      have E2 := Lib.hid e2
      clear e2
      have a2 := nib_and r2 hr2
      have c2 := hcells.out.2 (r2 % 16) (Nat.mod_lt _ (by decide))
      have x2 := nib_xor r2 hr2
      obtain ⟨r3, e3⟩ : ∃ r3, r3 = nstep r2 := ⟨_, rfl⟩
      rw [← e3] at x2
      have E3 := Lib.hid e3
      clear e3
      go_wp2
      go_round
      case rel => exact ⟨k + 1, by omega, by go_num, by rw [hE.out, E3.out, E2.out, E1.out, nstep2]⟩
      case measure => simp [intOf]; omega
    · obtain rfl : k = s.size := by omega
      have hnot := u32_not (crcK s s.size) hr
      go_wp2
      go_ret
      exact ⟨retEq (intEq (by
        show wrap64 (4294967295 - (crcK s s.size : Int)) = sumS s
        unfold wrap64 sumS; omega)), rfl⟩

set_option maxRecDepth 100000 in
set_option maxHeartbeats 400000 in
theorem rsum_any (s : ByteArray) (w : World) (hs : s.size ≤ maxLen) :
    Calls Tryd.prog 22 #[.string s] w fun e w' => e = .returned (.int .i64 (sumS s)) ∧ w = w' := by
  unfold maxLen at hs
  go_enter Tryd.func22, Tryd.ntmps22
  go_wp2
  go_loop [3, 4, 5, 6] (fun u3 u4 _ _ => ∃ k : Nat, k ≤ s.size ∧ u4 = .int .i64 k ∧ u3 = .int .u32 (crcK s k)) (fun _ u4 _ _ => (s.size - intOf u4).toNat)
  case atStart => exact ⟨0, by omega, rfl, rfl⟩
  case round =>
    obtain ⟨k, hk, rfl, rfl⟩ := hrel
    have hr := crcK_lt s k
    by_cases hlt : k < s.size
    · have hE := Lib.hid (crcK_succ s k hlt)
      have hb := s[k].toNat_lt
      have hx1 := u32_xor (crcK s k) s[k].toNat hr (by omega)
      have hr1 := xor_lt32 (crcK s k) s[k].toNat hr (by omega)
      obtain ⟨r1, e1⟩ : ∃ r1, r1 = crcK s k ^^^ s[k].toNat := ⟨_, rfl⟩
      rw [← e1] at hx1 hr1
      have E1 := Lib.hid e1
      clear e1
      go_wp2
      go_loop [3, 5, 6] (fun u3 u5 _ => ∃ j : Nat, j ≤ 8 ∧ u5 = .int .i64 j ∧ u3 = .int .u32 (bsN j r1)) (fun _ u5 _ => (8 - intOf u5).toNat)
      case atStart => exact ⟨0, by omega, rfl, rfl⟩
      case round =>
        obtain ⟨j, hj, rfl, rfl⟩ := hrel
        have hrj := bsN_lt j r1 hr1
        by_cases hj8 : j < 8
        · have hbs : bsN (j + 1) r1 = bs (bsN j r1) := bsN_add j 1 r1
          have hx2 := u32_xor (bsN j r1 / 2) 2197175160 (by omega) (by decide)
          generalize bsN j r1 = r2 at hrj hbs hx2
          have HB := Lib.hid hbs
          clear hbs
          rcases Nat.mod_two_eq_zero_or_one r2 with hp | hp
          · have hpar : ((r2 : Int) % 2 == 1) = false := by simp; omega
            have hbs2 : Hid (bs r2 = r2 / 2) := if_neg (by omega)
            clear hp hx2
            go_wp2
            go_round
            case rel => exact ⟨j + 1, by omega, by go_num, by rw [HB.out, hbs2.out]; go_num⟩
            case measure => simp [intOf]; omega
          · have hpar : ((r2 : Int) % 2 == 1) = true := by simp; omega
            have hbs2 : Hid (bs r2 = (r2 / 2) ^^^ 2197175160) := if_pos hp
            obtain ⟨r3, e3⟩ : ∃ r3, r3 = (r2 / 2) ^^^ 2197175160 := ⟨_, rfl⟩
            rw [← e3] at hx2
            have hx3 : bits .xor .u32 ((r2 : Int) / 2) 2197175160 = (r3 : Int) := hx2
            have E3 := Lib.hid e3
            clear hp hx2 e3
            go_wp2
            go_round
            case rel => exact ⟨j + 1, by omega, by go_num, by rw [HB.out, hbs2.out, ← E3.out]⟩
            case measure => simp [intOf]; omega
        · obtain rfl : j = 8 := by omega
          go_wp2
          go_round
          case rel => exact ⟨k + 1, by omega, by go_num, by rw [hE.out, E1.out]⟩
          case measure => simp [intOf]; omega
    · obtain rfl : k = s.size := by omega
      have hnot := u32_not (crcK s s.size) hr
      go_wp2
      go_ret
      exact ⟨retEq (intEq (by
        show wrap64 (4294967295 - (crcK s s.size : Int)) = sumS s
        unfold wrap64 sumS; omega)), rfl⟩
end Go.Proofs.YtgjihgdomicijaaDoor

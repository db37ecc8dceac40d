import Derived.Test.YtgjihgdomicijaaDoorProg
import Derived.Test.YtgjihgdomicijaaDoorPlain
import Derived.Test.YtgjihgdomicijaaDoorKit
import Derived.Test.YtgjihgdomicijaaDoorBits
import Derived.Outline
namespace Go.Proofs.YtgjihgdomicijaaDoor
open Go.RowKit

def take7 (s : ByteArray) : Nat → Nat → Option (Nat × Nat × Nat)
  | 0, _ => none
  | f + 1, p => if h : p < s.size then (if s[p].toNat < 128 then some (s[p].toNat, p + 1, s[p].toNat) else (take7 s f (p + 1)).map fun x => (s[p].toNat % 128 + 128 * x.1, x.2.1, x.2.2)) else none
def unzig (z : Nat) : Int := if z % 2 = 0 then (z / 2 : Nat) else -((z / 2 : Nat) : Int) - 1
def intS (s : ByteArray) (at_ : Nat) : Int × Int × Int :=
  match take7 s 9 at_ with
  | none => (0, 0, 10)
  | some (z, e, last) => if (last = 0 ∧ at_ + 1 < e) ∨ unzig z < -4611686018427387903 then (0, 0, 10) else (unzig z, e, 0)
def int3 (x : Int × Int × Int) : Value := .tuple #[.int .i64 x.1, .int .i64 x.2.1, .int .i64 x.2.2]

theorem unzig_xor (z : Nat) (h : z < 9223372036854775808) : bits .xor .i64 ((z : Int) / 2) (-((z : Int) % 2)) = unzig z := by
  unfold unzig
  split
  · rename_i hp
    rw [show -((z : Int) % 2) = 0 by omega, i64_xor0 _ (by omega) (by omega)]; omega
  · rename_i hp
    rw [show -((z : Int) % 2) = -1 by omega, i64_xorm1 _ (by omega) (by omega)]; omega

set_option maxRecDepth 100000 in
set_option maxHeartbeats 400000 in
theorem int_arg (s : ByteArray) (a : Int) (w : World) (hs : s.size ≤ maxLen) (h : a < 0 ∨ s.size < a) (h0 : -9223372036854775808 ≤ a) (h1 : a ≤ 9223372036854775807) :
    Calls Tryd.prog 15 #[.string s, .int .i64 a] w fun e w' => e = .returned (int3 (0, 0, 2)) ∧ w = w' := by
  unfold maxLen at hs
  rcases h with h | h
  · go_enter Tryd.func15, Tryd.ntmps15
    go_wp2
    go_ret3
    exact ⟨rfl, rfl⟩
  · have h' : ¬ a < 0 := by omega
    go_enter Tryd.func15, Tryd.ntmps15
    go_wp2
    go_ret3
    exact ⟨rfl, rfl⟩

theorem pow128 (k : Nat) (h : k ≤ 8) : 128 ^ k * 128 ≤ 9223372036854775808 ∧ 0 < 128 ^ k := by
  have h1 : 128 ^ (k + 1) ≤ 128 ^ 9 := Nat.pow_le_pow_right (by decide) (by omega)
  rw [Nat.pow_succ] at h1
  have e : (128 : Nat) ^ 9 = 9223372036854775808 := by decide
  exact ⟨by omega, Nat.pow_pos (by decide)⟩

theorem or_step (acc k b : Nat) (hk : k ≤ 8) (hacc : acc < 128 ^ k) (hb : b < 256) :
    bits .or .u64 (acc : Int) (IntKind.u64.wrap (IntKind.u64.wrap (bits .and .u8 (b : Int) 127) * 2 ^ (7 * k))) = ((acc + b % 128 * 128 ^ k : Nat) : Int) := by
  obtain ⟨hp1, hp2⟩ := pow128 k hk
  have h1 : b % 128 * 128 ^ k ≤ 127 * 128 ^ k := Nat.mul_le_mul_right _ (by omega)
  have e2 : (2 : Int) ^ (7 * k) = ((128 ^ k : Nat) : Int) := by
    rw [Int.pow_mul]; simp
  rw [u8_and127 _ (by omega) (by omega), wraps_u64 ((b : Int) % 128) (by omega) (by omega), e2, show (b : Int) % 128 = ((b % 128 : Nat) : Int) by omega, ← Int.natCast_mul]
  rw [wraps_u64 _ (by omega) (by omega)]
  rw [u64_orhi (7 * k) _ _ (by omega) (by rw [e2, ← Int.natCast_emod, Nat.mul_mod_left]; rfl) (by omega) (by omega) (by rw [e2]; omega) (by omega)]
  simp

theorem take7_lo {s : ByteArray} {f p : Nat} (h : p < s.size) (hb : s[p].toNat < 128) : take7 s (f + 1) p = some (s[p].toNat, p + 1, s[p].toNat) := by
  rw [take7, dif_pos h, if_pos hb]
theorem take7_hi {s : ByteArray} {f p : Nat} (h : p < s.size) (hb : ¬ s[p].toNat < 128) : take7 s (f + 1) p = (take7 s f (p + 1)).map fun x => (s[p].toNat % 128 + 128 * x.1, x.2.1, x.2.2) := by
  rw [take7, dif_pos h, if_neg hb]
theorem take7_out {s : ByteArray} {f p : Nat} (h : ¬ p < s.size) : take7 s f p = none := by
  cases f with
  | zero => rfl
  | succ f => rw [take7, dif_neg h]

theorem intS_none {s : ByteArray} {a : Nat} (h : take7 s 9 a = none) : intS s a = (0, 0, 10) := by simp [intS, h]
theorem intS_bad {s : ByteArray} {a z e l : Nat} (h : take7 s 9 a = some (z, e, l)) (hb : (l = 0 ∧ a + 1 < e) ∨ unzig z < -4611686018427387903) : intS s a = (0, 0, 10) := by
  simp only [intS, h]; rw [if_pos hb]
theorem intS_ok {s : ByteArray} {a z e l : Nat} (h : take7 s 9 a = some (z, e, l)) (hb : ¬ ((l = 0 ∧ a + 1 < e) ∨ unzig z < -4611686018427387903)) : intS s a = (unzig z, (e : Int), 0) := by
  simp only [intS, h]; rw [if_neg hb]
theorem unzig_bd (z : Nat) (h : z < 9223372036854775808) : -4611686018427387904 ≤ unzig z ∧ unzig z ≤ 4611686018427387903 := by
  unfold unzig; split <;> omega

set_option maxRecDepth 100000 in
set_option maxHeartbeats 800000 in
theorem int_any (s : ByteArray) (a : Nat) (w : World) (hs : s.size ≤ maxLen) (h : a ≤ s.size) :
    Calls Tryd.prog 15 #[.string s, .int .i64 a] w fun e w' => e = .returned (int3 (intS s a)) ∧ w = w' := by
  unfold maxLen at hs
  have hd1 : decide ((a : Int) < 0) = false := by simp
  have hd2 : decide (s.size < a) = false := by simp; omega
  go_enter Tryd.func15, Tryd.ntmps15
  go_wp2
  go_loop [7, 8, 9, 10, 19] (fun u7 _ _ _ u19 => ∃ k acc : Nat, k ≤ 9 ∧ u19 = .int .i64 k ∧ u7 = .int .u64 acc ∧ acc < 128 ^ k ∧ a + k ≤ s.size ∧ take7 s 9 a = (take7 s (9 - k) (a + k)).map (fun x => (acc + 128 ^ k * x.1, x.2.1, x.2.2))) (fun _ _ _ _ u19 => (9 - intOf u19).toNat)
  case atStart => exact ⟨0, 0, by omega, rfl, rfl, by decide, by omega, by cases h : take7 s 9 a <;> simp⟩
  case round =>
    obtain ⟨k, acc, hk, rfl, rfl, hacc, hak, hT⟩ := hrel
    by_cases hk9 : k < 9
    · by_cases hin : a + k < s.size
      · have hp := pow128 k (by omega)
        have hb := s[a + k].toNat_lt
        have hor := or_step acc k s[a + k].toNat (by omega) hacc hb
        have hm : s[a + k].toNat % 128 * 128 ^ k ≤ 127 * 128 ^ k := Nat.mul_le_mul_right _ (by omega)
        obtain ⟨acc', hacc'⟩ : ∃ acc', acc' = acc + s[a + k].toNat % 128 * 128 ^ k := ⟨_, rfl⟩
        rw [← hacc'] at hor
        have hacc2 : acc' < 128 ^ k * 128 := by omega
        have hacc3 : acc' < 9223372036854775808 := by omega
        rw [show 9 - k = (8 - k) + 1 by omega] at hT
        by_cases hhi : 128 ≤ s[a + k].toNat
        · have HT : Hid (take7 s 9 a = (take7 s (9 - (k + 1)) (a + (k + 1))).map (fun x => (acc' + 128 ^ (k + 1) * x.1, x.2.1, x.2.2))) := by
            rw [hT, take7_hi hin (by omega), Option.map_map, Nat.add_assoc, show 9 - (k + 1) = 8 - k by omega]
            congr 1
            funext x
            simp only [Function.comp, hacc', Nat.pow_succ, Nat.mul_add, Prod.mk.injEq, and_true, Nat.mul_comm (128 ^ k) (s[a + k].toNat % 128), Nat.mul_assoc]
            omega
          have hacc4 : Hid (acc' < 128 ^ (k + 1)) := by rw [Nat.pow_succ]; exact hacc2
          clear hT hm hacc' hacc2 hacc hp
          go_wp2
          go_round
          case rel => exact ⟨k + 1, acc', by omega, by go_num, rfl, hacc4.out, by omega, HT.out⟩
          case measure => simp [intOf]; omega
        · have HTn : Hid (take7 s 9 a = some (acc', a + k + 1, s[a + k].toNat)) := by
            have hmod : s[a + k].toNat % 128 = s[a + k].toNat := Nat.mod_eq_of_lt (by omega)
            rw [hT, take7_lo hin (by omega), hacc', hmod, Nat.mul_comm]
            rfl
          have hand := u64_and1 (acc' : Int) (by omega) (by omega)
          have hxor := unzig_xor acc' hacc3
          have hub := unzig_bd acc' hacc3
          clear hT hm hacc' hacc2 hacc hp
          by_cases hbad : (s[a + k].toNat = 0 ∧ a + 1 < a + k + 1) ∨ unzig acc' < -4611686018427387903
          · have HR : Hid (intS s a = (0, 0, 10)) := intS_bad HTn hbad
            clear HTn
            by_cases hb0 : s[a + k].toNat = 0
            · have hz : ((s[a + k].toNat : Int) == 0) = true := by simp [hb0]
              clear hb0
              by_cases hk0 : 0 < k
              · have hk1 : decide ((0 : Int) < k) = true := by simp; omega
                go_wp2
                go_ret3
                exact ⟨by rw [HR.out]; rfl, rfl⟩
              · have hk1 : decide ((0 : Int) < k) = false := by simp; omega
                have hu : decide (unzig acc' < -4611686018427387903) = true := by
                  rcases hbad with h | h
                  · omega
                  · simpa using h
                clear hbad
                go_wp2
                go_ret3
                exact ⟨by rw [HR.out]; rfl, rfl⟩
            · have hz : ((s[a + k].toNat : Int) == 0) = false := by simp; omega
              have hu : decide (unzig acc' < -4611686018427387903) = true := by
                rcases hbad with h | h
                · omega
                · simpa using h
              clear hbad hb0
              go_wp2
              go_ret3
              exact ⟨by rw [HR.out]; rfl, rfl⟩
          · have HR : Hid (intS s a = (unzig acc', ((a + k + 1 : Nat) : Int), 0)) := intS_ok HTn hbad
            clear HTn
            have hu : decide (unzig acc' < -4611686018427387903) = false := by simp; omega
            by_cases hb0 : s[a + k].toNat = 0
            · have hz : ((s[a + k].toNat : Int) == 0) = true := by simp [hb0]
              have hk1 : decide ((0 : Int) < k) = false := by simp; omega
              have HR0 : Hid (intS s a = (unzig acc', (a : Int) + 1, 0)) := by
                have h := HR.out
                rw [show ((a + k + 1 : Nat) : Int) = (a : Int) + 1 by omega] at h
                exact h
              clear hb0 hbad
              go_wp2
              · go_ret3
                exact ⟨by rw [HR0.out]; rfl, rfl⟩
              · exfalso; simp at hk1; omega
            · have hz : ((s[a + k].toNat : Int) == 0) = false := by simp; omega
              clear hb0 hbad
              go_wp2
              go_ret3
              exact ⟨by rw [HR.out]; rfl, rfl⟩
      · have HR : Hid (intS s a = (0, 0, 10)) := intS_none (by rw [hT, take7_out (by omega)]; rfl)
        clear hT
        go_wp2
        go_ret3
        exact ⟨by rw [HR.out]; rfl, rfl⟩
    · have HR : Hid (intS s a = (0, 0, 10)) := intS_none (by rw [hT, show 9 - k = 0 by omega]; rfl)
      clear hT
      go_wp2
      go_ret3
      exact ⟨by rw [HR.out]; rfl, rfl⟩
end Go.Proofs.YtgjihgdomicijaaDoor

import Derived.Test.YtgjihgdomicijaaDoorT2
import Derived.Test.YtgjihgdomicijaaDoorT5
import Derived.Test.YtgjihgdomicijaaDoorDec
import Derived.Outline
namespace Go.Proofs.YtgjihgdomicijaaDoor
open Go.RowKit

set_option maxRecDepth 100000 in
set_option maxHeartbeats 400000 in
theorem rint_arg (s : ByteArray) (a : Int) (w : World) (hs : s.size ≤ maxLen) (h : a < 0 ∨ s.size < a) (h0 : -9223372036854775808 ≤ a) (h1 : a ≤ 9223372036854775807) :
    Calls Tryd.prog 16 #[.string s, .int .i64 a] w fun e w' => e = .returned (int3 (0, 0, 2)) ∧ w = w' := by
  unfold maxLen at hs
  rcases h with h | h
  · go_enter Tryd.func16, Tryd.ntmps16
    go_wp2
    go_ret3
    exact ⟨rfl, rfl⟩
  · have h' : ¬ a < 0 := by omega
    go_enter Tryd.func16, Tryd.ntmps16
    go_wp2
    go_ret3
    exact ⟨rfl, rfl⟩

theorem mul_step (k b : Nat) (hk : k ≤ 8) :
    IntKind.u64.wrap ((b : Int) % 128 * 2 ^ (7 * k)) = ((b % 128 * 128 ^ k : Nat) : Int) := by
  obtain ⟨hp1, hp2⟩ := pow128 k hk
  have h1 : b % 128 * 128 ^ k ≤ 127 * 128 ^ k := Nat.mul_le_mul_right _ (by omega)
  have e2 : (2 : Int) ^ (7 * k) = ((128 ^ k : Nat) : Int) := by
    rw [Int.pow_mul]; simp
  rw [e2, show (b : Int) % 128 = ((b % 128 : Nat) : Int) by omega, ← Int.natCast_mul]
  rw [wraps_u64 _ (by omega) (by omega)]

set_option maxRecDepth 100000 in
set_option maxHeartbeats 800000 in
theorem rint_any (s : ByteArray) (a : Nat) (w : World) (hs : s.size ≤ maxLen) (h : a ≤ s.size) :
    Calls Tryd.prog 16 #[.string s, .int .i64 a] w fun e w' => e = .returned (int3 (intS s a)) ∧ Below w.heap.size w w' := by
  unfold maxLen at hs
  have hd1 : decide ((a : Int) < 0) = false := by simp
  have hd2 : decide (s.size < a) = false := by simp; omega
  go_enter Tryd.func16, Tryd.ntmps16
  go_wp2
  go_loop [7, 8, 9, 10, 11, 12] (fun u7 u8 _ _ _ _ => ∃ k acc : Nat, k ≤ 9 ∧ u8 = .int .i64 k ∧ u7 = .int .u64 acc ∧ acc < 128 ^ k ∧ a + k ≤ s.size ∧ take7 s 9 a = (take7 s (9 - k) (a + k)).map (fun x => (acc + 128 ^ k * x.1, x.2.1, x.2.2))) (fun _ u8 _ _ _ _ => (9 - intOf u8).toNat)
  case atStart => exact ⟨0, 0, by omega, rfl, rfl, by decide, by omega, by cases h : take7 s 9 a <;> simp⟩
  case round =>
    obtain ⟨k, acc, hk, rfl, rfl, hacc, hak, hT⟩ := hrel
    by_cases hk9 : k < 9
    · by_cases hin : a + k < s.size
      · have hp := pow128 k (by omega)
        have hb := s[a + k].toNat_lt
        have hor := mul_step k s[a + k].toNat (by omega)
        have hm : s[a + k].toNat % 128 * 128 ^ k ≤ 127 * 128 ^ k := Nat.mul_le_mul_right _ (by omega)
        obtain ⟨q, hq⟩ : ∃ q, q = s[a + k].toNat % 128 * 128 ^ k := ⟨_, rfl⟩
        rw [← hq] at hor
        have hacc2 : acc + q < 128 ^ k * 128 := by omega
        have hacc3 : acc + q < 9223372036854775808 := by omega
        rw [show 9 - k = (8 - k) + 1 by omega] at hT
        by_cases hhi : 128 ≤ s[a + k].toNat
        · have HT : Hid (take7 s 9 a = (take7 s (9 - (k + 1)) (a + (k + 1))).map (fun x => (acc + q + 128 ^ (k + 1) * x.1, x.2.1, x.2.2))) := by
            rw [hT, take7_hi hin (by omega), Option.map_map, Nat.add_assoc, show 9 - (k + 1) = 8 - k by omega]
            congr 1
            funext x
            simp only [Function.comp, hq, Nat.pow_succ, Nat.mul_add, Prod.mk.injEq, and_true, Nat.mul_comm (128 ^ k) (s[a + k].toNat % 128), Nat.mul_assoc]
            omega
          have hacc4 : Hid (acc + q < 128 ^ (k + 1)) := by rw [Nat.pow_succ]; exact hacc2
          clear hT hm hq hacc2 hacc hp
          go_wp2
          go_round
          case rel => exact ⟨k + 1, acc + q, by omega, by go_num, by go_num, hacc4.out, by omega, HT.out⟩
          case measure => simp [intOf]; omega
        · have HTn : Hid (take7 s 9 a = some (acc + q, a + k + 1, s[a + k].toNat)) := by
            have hmod : s[a + k].toNat % 128 = s[a + k].toNat := Nat.mod_eq_of_lt (by omega)
            rw [hT, take7_lo hin (by omega), hq, hmod, Nat.mul_comm]
            rfl
          have hub := unzig_bd (acc + q) hacc3
          clear hT hm hq hacc2 hacc hp
          have hpar : ((((acc : Int) + (q : Int)) % 2 == 1) = true ∧ -(((acc : Int) + (q : Int)) / 2) - 1 = unzig (acc + q)) ∨ ((((acc : Int) + (q : Int)) % 2 == 1) = false ∧ ((acc : Int) + (q : Int)) / 2 = unzig (acc + q)) := by
            unfold unzig
            by_cases hp : (acc + q) % 2 = 0
            · right; rw [if_pos hp]; simp; omega
            · left; rw [if_neg hp]; simp; omega
          rcases hpar with ⟨hpar, hun⟩ | ⟨hpar, hun⟩
          all_goals
            have HU := Lib.hid hun
            clear hun
            by_cases hbad : unzig (acc + q) < -4611686018427387903
            · go_wp2_with fail
              rw [HU.out]
              refine (rput_no _ _ (.inl hbad)).mono ?_
              rintro e w' ⟨rfl, rfl⟩
              have HR : Hid (intS s a = (0, 0, 10)) := intS_bad HTn (.inr hbad)
              go_wp2
              go_ret3
              exact ⟨by rw [HR.out]; rfl, Below.refl _ _⟩
            · go_wp2_with fail
              rw [HU.out]
              refine (rput_yes _ _ (by omega) (by omega)).mono ?_
              rintro e w' ⟨rfl, hB⟩
              rw [zig_unzig]
              have hsl : ∀ W : World, (Instr.slice 9 (.string s) (some (.int .i64 (a : Int))) (some (.int .i64 ((a : Int) + (k : Int) + 1))) none).run Tryd.prog W = .ok (.string (s.extract a (a + k + 1))) W := fun W => by
                have := run_slice_string (P := Tryd.prog) W 9 s .i64 .i64 (a : Int) ((a : Int) + (k : Int) + 1) Tryd.underlying9 (by omega) (by omega) (by omega)
                rw [this]; rfl
              go_wp2_with fail
              · have hne : (!(strOfNums (enc (acc + q))).toList == (s.extract a (a + k + 1)).toList) = true := by assumption
                have HR : Hid (intS s a = (0, 0, 10)) := intS_bad HTn (.inl (by
                  refine Classical.byContradiction fun hc => ?_
                  rw [canon_ok HTn hc] at hne
                  simp at hne))
                go_ret3
                exact ⟨by rw [HR.out]; rfl, hB⟩
              · have hne : (!(strOfNums (enc (acc + q))).toList == (s.extract a (a + k + 1)).toList) = false := by assumption
                have HR : Hid (intS s a = (unzig (acc + q), ((a + k + 1 : Nat) : Int), 0)) := intS_ok HTn (by
                  rintro (hc | hc)
                  · exact canon_bad HTn hc (str_toList (by simpa using hne))
                  · omega)
                go_ret3
                exact ⟨by rw [HR.out]; rfl, hB⟩
      · have HR : Hid (intS s a = (0, 0, 10)) := intS_none (by rw [hT, take7_out (by omega)]; rfl)
        clear hT
        go_wp2
        go_ret3
        exact ⟨by rw [HR.out]; rfl, Below.refl _ _⟩
    · have HR : Hid (intS s a = (0, 0, 10)) := intS_none (by rw [hT, show 9 - k = 0 by omega]; rfl)
      clear hT
      go_wp2
      go_ret3
      exact ⟨by rw [HR.out]; rfl, Below.refl _ _⟩
end Go.Proofs.YtgjihgdomicijaaDoor

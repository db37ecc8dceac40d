import Derived.Test.YtgjihgdomicijaaDoorProg
import Derived.Test.YtgjihgdomicijaaDoorKit
import Derived.Outline
namespace Go.Proofs.YtgjihgdomicijaaDoor
open Go.RowKit

def absI (c : Int) : Int := if c < 0 then -(c+1) else c
theorem absI_bd (c : Int) (h0 : -9223372036854775808 ≤ c) (h1 : c ≤ 9223372036854775807) : 0 ≤ absI c ∧ absI c ≤ 9223372036854775807 := by
  unfold absI; split <;> omega

def pickS (c n : Int) : Int := absI c % n
theorem pickS_bd (c n : Int) (hn : 1 ≤ n) : 0 ≤ pickS c n ∧ pickS c n < n := by
  unfold pickS; exact ⟨Int.emod_nonneg _ (by omega), Int.emod_lt_of_pos _ (by omega)⟩

theorem pick_any (c n : Int) (w : World) (h0 : -9223372036854775808 ≤ c) (h1 : c ≤ 9223372036854775807) (hn : 1 ≤ n) (hn2 : n ≤ 9223372036854775807) :
    Calls Tryd.prog 14 #[.int .i64 c, .int .i64 n] w fun e w' => e = .returned (.int .i64 (pickS c n)) ∧ w = w' := by
  by_cases hc : c < 0
  · go_enter Tryd.func14, Tryd.ntmps14
    go_wp2
    go_ret
    exact ⟨retEq (intEq (by
      show -(c+1).tmod n = _
      unfold pickS absI; rw [if_pos hc, ← Int.neg_tmod, Int.tmod_eq_emod_of_nonneg (by omega)])), rfl⟩
  · go_enter Tryd.func14, Tryd.ntmps14
    go_wp2
    go_ret
    exact ⟨retEq (intEq (by
      show c % n = _
      unfold pickS absI; rw [if_neg (by omega)])), rfl⟩

def numL : List Int := [64, 128, 8192, 16384, 1073741824, 36028797018963968, 576460752303423488, 2]
def numT (k : Nat) : Int := numL.getD k 0
theorem numL_get (k : Nat) (h : k < 8) : [Value.int .i64 64, .int .i64 128, .int .i64 8192, .int .i64 16384, .int .i64 1073741824, .int .i64 36028797018963968, .int .i64 576460752303423488, .int .i64 2][k]'h = .int .i64 (numT k) := by
  have : ∀ k : Fin 8, [Value.int .i64 64, .int .i64 128, .int .i64 8192, .int .i64 16384, .int .i64 1073741824, .int .i64 36028797018963968, .int .i64 576460752303423488, .int .i64 2][k.val]'k.isLt = .int .i64 (numT k.val) := by
    intro k
    match k with
    | 0 => rfl
    | 1 => rfl
    | 2 => rfl
    | 3 => rfl
    | 4 => rfl
    | 5 => rfl
    | 6 => rfl
    | 7 => rfl
  exact this ⟨k, h⟩
theorem numL_bd (k : Nat) (h : k < 8) : 1 ≤ numT k ∧ numT k ≤ 576460752303423488 := by
  have : ∀ k : Fin 8, 1 ≤ numT k.val ∧ numT k.val ≤ 576460752303423488 := by decide
  exact this ⟨k, h⟩
def numberS (c : Int) : Int :=
  if 8 ≤ pickS c 16 then -pickS (pickS c 4611686018427387904 / 8) (numT (pickS c 8).toNat) else pickS (pickS c 4611686018427387904 / 8) (numT (pickS c 8).toNat)
theorem numberS_bd (c : Int) : -576460752303423488 < numberS c ∧ numberS c < 576460752303423488 := by
  have h8 := pickS_bd c 8 (by omega)
  have hb := numL_bd (pickS c 8).toNat (by omega)
  have := pickS_bd (pickS c 4611686018427387904 / 8) (numT (pickS c 8).toNat) hb.1
  unfold numberS; split <;> omega

set_option maxRecDepth 100000 in
theorem number_any (c : Int) (w : World) (h0 : -9223372036854775808 ≤ c) (h1 : c ≤ 9223372036854775807) :
    Calls Tryd.prog 11 #[.int .i64 c] w fun e w' => e = .returned (.int .i64 (numberS c)) ∧ Below w.heap.size w w' := by
  have b1 := pickS_bd c 4611686018427387904 (by omega)
  have b2 := pickS_bd c 8 (by omega)
  have b3 := pickS_bd c 16 (by omega)
  have hb := numL_bd (pickS c 8).toNat (by omega)
  have h5 := pickS_bd (pickS c 4611686018427387904 / 8) (numT (pickS c 8).toNat) hb.1
  by_cases h8 : 8 ≤ pickS c 16
  all_goals
    go_enter Tryd.func11, Tryd.ntmps11
    go_wp2_with fail
    refine (pick_any _ _ _ (by omega) (by omega) (by omega) (by omega)).mono ?_
    rintro e w' ⟨rfl, rfl⟩
    go_wp2_with fail
    refine (pick_any _ _ _ (by omega) (by omega) (by omega) (by omega)).mono ?_
    rintro e w' ⟨rfl, rfl⟩
    go_wp2_with fail
    rw [numL_get _ (by omega)]
    refine (pick_any _ _ _ (by omega) (by omega) (by omega) (by omega)).mono ?_
    rintro e w' ⟨rfl, rfl⟩
    go_wp2_with fail
    refine (pick_any _ _ _ (by omega) (by omega) (by omega) (by omega)).mono ?_
    rintro e w' ⟨rfl, rfl⟩
    go_wp2
    go_ret
    exact ⟨retEq (intEq (by unfold numberS; first | rw [if_pos (by omega)] | rw [if_neg (by omega)])), (Below.refl _ _).alloc (Nat.le_refl _) _⟩
end Go.Proofs.YtgjihgdomicijaaDoor

/- nadirref23.pick, nadirlaw23.pick. -/
import Derived.Test.YtblmpmapcdpaiaaOut
namespace Go.Proofs.Ytblmpmapcdpaiaa
open Go.RowKit Lib

def pickI (c n : Int) : Int := (if c < 0 then -(c + 1) else c) % n
def InR (c : Int) : Prop := -9223372036854775808 ≤ c ∧ c ≤ 9223372036854775807
theorem pickI_bd (c : Int) {n : Int} (hn : 0 < n) : 0 ≤ pickI c n ∧ pickI c n < n := ⟨Int.emod_nonneg _ (by omega), Int.emod_lt_of_pos _ hn⟩
set_option maxRecDepth 100000 in
theorem pick59 (c n : Int) (w : World) (hc : InR c) (hn : 0 < n) (hn2 : n ≤ 9223372036854775807) : Calls Try.prog 59 #[.int .i64 c, .int .i64 n] w fun e w' => e = .returned (.int .i64 (pickI c n)) ∧ w = w' := by
  have hp := pickI_bd c hn
  have hp' := Lib.hid hp
  obtain ⟨hc1, hc2⟩ := hc
  have hn0 : ¬ n = 0 := by omega
  by_cases h : c < 0
  · have hw1 : IntKind.i64.wrap (c + 1) = c + 1 := wrapS _ (by omega) (by omega)
    have hw2 : IntKind.i64.wrap (-(c + 1)) = -(c + 1) := wrapS _ (by omega) (by omega)
    have e : pickI c n = -(Int.tmod (c + 1) n) := by unfold pickI; rw [if_pos h, ← Int.neg_tmod]; exact (Int.tmod_eq_emod_of_nonneg (by omega)).symm
    rw [e] at hp
    have hw3 : IntKind.i64.wrap (-(Int.tmod (c + 1) n)) = -(Int.tmod (c + 1) n) := wrapS _ (by omega) (by omega)
    rw [e]
    clear hp e
    go_enter Try.func59, Try.ntmps59
    go_wp2
    go_ret
    exact ⟨rfl, rfl⟩
  · have e : pickI c n = c % n := by unfold pickI; rw [if_neg h]
    rw [e] at hp
    have hw3 : IntKind.i64.wrap (c % n) = c % n := wrapS _ (by omega) (by omega)
    rw [e]
    clear hp e
    go_enter Try.func59, Try.ntmps59
    go_wp2
    go_ret
    exact ⟨rfl, rfl⟩
set_option maxRecDepth 100000 in
theorem pick18 (c n : Int) (w : World) (hc : InR c) (hn : 0 < n) (hn2 : n ≤ 9223372036854775807) : Calls Try.prog 18 #[.int .i64 c, .int .i64 n] w fun e w' => e = .returned (.int .i64 (pickI c n)) ∧ w = w' := by
  have hp := pickI_bd c hn
  have hp' := Lib.hid hp
  obtain ⟨hc1, hc2⟩ := hc
  have hn0 : ¬ n = 0 := by omega
  by_cases h : c < 0
  · have hw1 : IntKind.i64.wrap (c + 1) = c + 1 := wrapS _ (by omega) (by omega)
    have hw2 : IntKind.i64.wrap (-(c + 1)) = -(c + 1) := wrapS _ (by omega) (by omega)
    have e : pickI c n = -(Int.tmod (c + 1) n) := by unfold pickI; rw [if_pos h, ← Int.neg_tmod]; exact (Int.tmod_eq_emod_of_nonneg (by omega)).symm
    rw [e] at hp
    have hw3 : IntKind.i64.wrap (-(Int.tmod (c + 1) n)) = -(Int.tmod (c + 1) n) := wrapS _ (by omega) (by omega)
    rw [e]
    clear hp e
    go_enter Try.func18, Try.ntmps18
    go_wp2
    go_ret
    exact ⟨rfl, rfl⟩
  · have e : pickI c n = c % n := by unfold pickI; rw [if_neg h]
    rw [e] at hp
    have hw3 : IntKind.i64.wrap (c % n) = c % n := wrapS _ (by omega) (by omega)
    rw [e]
    clear hp e
    go_enter Try.func18, Try.ntmps18
    go_wp2
    go_ret
    exact ⟨rfl, rfl⟩
end Go.Proofs.Ytblmpmapcdpaiaa

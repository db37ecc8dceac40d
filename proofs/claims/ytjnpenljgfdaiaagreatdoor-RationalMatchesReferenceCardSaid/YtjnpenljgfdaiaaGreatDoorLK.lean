/- package integer at integers: what each function answers, as the laws of chapter 03 use it. -/
import Derived.Test.YtjnpenljgfdaiaaGreatDoorE3
namespace Go.Proofs.YtjnpenljgfdaiaaGreatDoor
open Go.RowKit Go.Shelf Lib

theorem S_size {x : Int} (h : x.natAbs < N3.lim) : (N3.S x).size ≤ 300 := by
  have hk := N3.okS_S h
  obtain ⟨-, h2, -⟩ := okS_bare hk
  rw [Lib.size_eq]
  unfold N3.bare at h2
  split at h2
  · rw [List.length_tail] at h2; omega
  · omega
theorem S_zero : N3.S 0 = ⟨#[48]⟩ := by unfold N3.S; rw [N3.itoa_zero]
theorem S_one : N3.S 1 = ⟨#[49]⟩ := by
  have h := N3.S_iV (s := ⟨#[49]⟩) (by decide +kernel)
  rw [show N3.iV ⟨#[49]⟩ = 1 from by decide +kernel] at h
  exact h
theorem lim1 : (1 : Int).natAbs < N3.lim := by decide
theorem lim0 : (0 : Int).natAbs < N3.lim := by decide
section
variable {x y : Int} (hx : x.natAbs < N3.lim) (hy : y.natAbs < N3.lim)
include hx hy
theorem add_s (hr : (x + y).natAbs < N3.lim) (w : World) (he : EnvW w) :
    Calls Tryz.prog 34 #[.string (N3.S x), .string (N3.S y)] w fun e w' => e = .returned (.tuple #[.string (N3.S (x + y)), .int .i64 0]) ∧ Below w.heap.size w w' := by
  have h := add_f (N3.S x) (N3.S y) w (by have := S_size hx; omega) (by have := S_size hy; omega) he
  rw [N3.addO_S hx hy, N3.outS_some hr, N3.outE_some hr] at h
  exact h
theorem sub_s (hr : (x - y).natAbs < N3.lim) (w : World) (he : EnvW w) :
    Calls Tryz.prog 36 #[.string (N3.S x), .string (N3.S y)] w fun e w' => e = .returned (.tuple #[.string (N3.S (x - y)), .int .i64 0]) ∧ Below w.heap.size w w' := by
  have h := sub_f (N3.S x) (N3.S y) w (by have := S_size hx; omega) (by have := S_size hy; omega) he
  rw [N3.subO_S hx hy, N3.outS_some hr, N3.outE_some hr] at h
  exact h
theorem mul_s (hr : (x * y).natAbs < N3.lim) (w : World) (he : EnvW w) :
    Calls Tryz.prog 35 #[.string (N3.S x), .string (N3.S y)] w fun e w' => e = .returned (.tuple #[.string (N3.S (x * y)), .int .i64 0]) ∧ Below w.heap.size w w' := by
  have h := mul_f (N3.S x) (N3.S y) w (by have := S_size hx; omega) (by have := S_size hy; omega) he
  rw [N3.mulO_S hx hy, N3.outS_some hr, N3.outE_some hr] at h
  exact h
theorem add_big (hr : ¬ (x + y).natAbs < N3.lim) (w : World) (he : EnvW w) :
    Calls Tryz.prog 34 #[.string (N3.S x), .string (N3.S y)] w fun e w' => e = .returned (.tuple #[.string ⟨#[]⟩, .int .i64 30]) ∧ Below w.heap.size w w' := by
  have h := add_f (N3.S x) (N3.S y) w (by have := S_size hx; omega) (by have := S_size hy; omega) he
  rw [N3.addO_S hx hy, N3.outS_big hr, N3.outE_big hr] at h
  exact h
theorem sub_big (hr : ¬ (x - y).natAbs < N3.lim) (w : World) (he : EnvW w) :
    Calls Tryz.prog 36 #[.string (N3.S x), .string (N3.S y)] w fun e w' => e = .returned (.tuple #[.string ⟨#[]⟩, .int .i64 30]) ∧ Below w.heap.size w w' := by
  have h := sub_f (N3.S x) (N3.S y) w (by have := S_size hx; omega) (by have := S_size hy; omega) he
  rw [N3.subO_S hx hy, N3.outS_big hr, N3.outE_big hr] at h
  exact h
theorem mul_big (hr : ¬ (x * y).natAbs < N3.lim) (w : World) (he : EnvW w) :
    Calls Tryz.prog 35 #[.string (N3.S x), .string (N3.S y)] w fun e w' => e = .returned (.tuple #[.string ⟨#[]⟩, .int .i64 30]) ∧ Below w.heap.size w w' := by
  have h := mul_f (N3.S x) (N3.S y) w (by have := S_size hx; omega) (by have := S_size hy; omega) he
  rw [N3.mulO_S hx hy, N3.outS_big hr, N3.outE_big hr] at h
  exact h
theorem div_s (h0 : y ≠ 0) (w : World) (he : EnvW w) :
    Calls Tryz.prog 37 #[.string (N3.S x), .string (N3.S y)] w fun e w' => e = .returned (.tuple #[.string (N3.S (x / y)), .string (N3.S (x % y)), .int .i64 0]) ∧ Below w.heap.size w w' := by
  have h := div_f (N3.S x) (N3.S y) w (by have := S_size hx; omega) (by have := S_size hy; omega) he
  have h1 : (x / y).natAbs < N3.lim := Nat.lt_of_le_of_lt (N3.div_natAbs_le _ _) hx
  have h2 : (x % y).natAbs < N3.lim := Nat.lt_trans (N3.mod_natAbs_lt h0) hy
  rw [N3.quoO_S hx hy h0, N3.remO_S hx hy h0, N3.outS_some h1, N3.outS_some h2, N3.outE_some h1] at h
  exact h
theorem div_zero (h0 : y = 0) (w : World) (he : EnvW w) :
    Calls Tryz.prog 37 #[.string (N3.S x), .string (N3.S y)] w fun e w' => e = .returned (.tuple #[.string ⟨#[]⟩, .string ⟨#[]⟩, .int .i64 30]) ∧ Below w.heap.size w w' := by
  have h := div_f (N3.S x) (N3.S y) w (by have := S_size hx; omega) (by have := S_size hy; omega) he
  have hd : N3.okDiv (N3.S x) (N3.S y) = false := by unfold N3.okDiv; rw [N3.iV_S, h0]; simp
  have e1 : N3.quoO (N3.S x) (N3.S y) = none := by unfold N3.quoO; rw [hd]; rfl
  have e2 : N3.remO (N3.S x) (N3.S y) = none := by unfold N3.remO; rw [hd]; rfl
  rw [e1, e2] at h
  exact h
theorem gcd_s (w : World) (he : EnvW w) :
    Calls Tryz.prog 40 #[.string (N3.S x), .string (N3.S y)] w fun e w' => e = .returned (.tuple #[.string (N3.S (N3.gcdI x y)), .int .i64 0]) ∧ Below w.heap.size w w' := by
  have h := gcd_f (N3.S x) (N3.S y) w (by have := S_size hx; omega) (by have := S_size hy; omega) he
  have hr := N3.gcd_natAbs_lt hx hy
  rw [N3.gcdO_S hx hy, N3.outS_some hr, N3.outE_some hr] at h
  exact h
theorem compare_s (w : World) :
    Calls Tryz.prog 38 #[.string (N3.S x), .string (N3.S y)] w fun e w' => e = .returned (.int .i64 (N3.cmpI x y)) ∧ Below w.heap.size w w' := by
  have h := compare_f (N3.S x) (N3.S y) w (by have := S_size hx; omega) (by have := S_size hy; omega)
  rw [N3.cmpS_S hx hy] at h
  exact h
end
theorem valid_s {x : Int} (hx : x.natAbs < N3.lim) (w : World) :
    Calls Tryz.prog 39 #[.string (N3.S x)] w fun e w' => e = .returned (.bool true) ∧ Below w.heap.size w w' := by
  have h := valid_f (N3.S x) w (by have := S_size hx; omega)
  rw [N3.okS_S hx] at h
  exact h
theorem root_s {x : Int} (hx : x.natAbs < N3.lim) (h0 : 0 ≤ x) (w : World) (he : EnvW w) :
    Calls Tryz.prog 41 #[.string (N3.S x)] w fun e w' => e = .returned (.tuple #[.string (N3.S ((N3.rootN x.natAbs : Nat) : Int)), .int .i64 0]) ∧ Below w.heap.size w w' := by
  have h := root_f (N3.S x) w (by have := S_size hx; omega) he
  have hr := N3.root_lt hx
  rw [N3.rootO_S hx h0, N3.outS_some hr, N3.outE_some hr] at h
  exact h
theorem root_neg {x : Int} (hx : x.natAbs < N3.lim) (h0 : x < 0) (w : World) (he : EnvW w) :
    Calls Tryz.prog 41 #[.string (N3.S x)] w fun e w' => e = .returned (.tuple #[.string ⟨#[]⟩, .int .i64 30]) ∧ Below w.heap.size w w' := by
  have h := root_f (N3.S x) w (by have := S_size hx; omega) he
  have hr : N3.rootO (N3.S x) = none := by unfold N3.rootO; rw [N3.iV_S, decide_eq_false (by omega : ¬ 0 ≤ x)]; simp
  rw [hr] at h
  exact h
theorem toInt_s {x : Int} (h0 : -9223372036854775808 ≤ x) (h1 : x ≤ 9223372036854775807) (w : World) (he : EnvW w) :
    Calls Tryz.prog 51 #[.string (N3.S x)] w fun e w' => e = .returned (.tuple #[.int .i64 x, .int .i64 0]) ∧ Below w.heap.size w w' := by
  have hx : x.natAbs < N3.lim := by
    have : (9223372036854775808 : Nat) < N3.lim := by decide
    omega
  have h := toInt_f (N3.S x) w (by have := S_size hx; omega) he
  have hm : N3.inM x = true := by unfold N3.inM; simp; omega
  have e1 : N3.toM (N3.S x) = x := by unfold N3.toM; rw [N3.okS_S hx, N3.iV_S, hm]; rfl
  have e2 : N3.toE (N3.S x) = 0 := by unfold N3.toE; rw [N3.okS_S hx, N3.iV_S, hm]; rfl
  rw [e1, e2] at h
  exact h
end Go.Proofs.YtjnpenljgfdaiaaGreatDoor

/- Arrays of two and of four integers as arguments, opened. -/
import Derived.Test.YtjnpenljgfdaiaaGreatDoorRead
namespace Go.Proofs.YtjnpenljgfdaiaaGreatDoor
open Go.ChangeShapes Go.WideShapes Go.ChangeAt Go.RowKit
section
variable {H : Type} {enc : TypeId × Value → H} {P : Program}
theorem i64_bd4 {x : Int} (h : (Lit.int .i64 x).wf = true) : -9223372036854775808 ≤ x ∧ x ≤ 9223372036854775807 := by
  simp [Lit.wf, IntKind.min, IntKind.max, IntKind.signed, IntKind.bits] at h
  exact ⟨by omega, by omega⟩
theorem arr4 {w : World} {r : Reach} {b0 base : Nat} {spare : Nat → Bool} {held : Bool} {t e : TypeId} {v : Value} {d : DataW H} {p : List MemPlace}
    (ht : P.underlying t = some (.array 4 e)) (he : P.underlying e = some (.int .i64)) (hce : P.cellsOf e = 1) (hct : P.cellsOf t = 4)
    (hv : Value.okWide P w r b0 t v) (h : DataW.Trod enc P w base spare held t v d p) :
    ∃ a b c d : Int, v = .agg #[.int .i64 a, .int .i64 b, .int .i64 c, .int .i64 d] ∧ (-9223372036854775808 ≤ a ∧ a ≤ 9223372036854775807) ∧ (-9223372036854775808 ≤ b ∧ b ≤ 9223372036854775807) ∧ (-9223372036854775808 ≤ c ∧ c ≤ 9223372036854775807) ∧ (-9223372036854775808 ≤ d ∧ d ≤ 9223372036854775807) := by
  obtain ⟨l, rfl, hl, hr⟩ := arr_cells (Value.int .i64) (fun y => -9223372036854775808 ≤ y ∧ y ≤ 9223372036854775807) ht hce hct (fun m c x hx => by obtain ⟨y, e1, e2⟩ := inv_int he m c x hx; exact ⟨y, e1, i64_bd4 e2⟩) hv h
  match l, hl with
  | [a, b, c, d], _ => exact ⟨a, b, c, d, rfl, hr a (by simp), hr b (by simp), hr c (by simp), hr d (by simp)⟩
theorem arr2 {w : World} {r : Reach} {b0 base : Nat} {spare : Nat → Bool} {held : Bool} {t e : TypeId} {v : Value} {d : DataW H} {p : List MemPlace}
    (ht : P.underlying t = some (.array 2 e)) (he : P.underlying e = some (.int .i64)) (hce : P.cellsOf e = 1) (hct : P.cellsOf t = 2)
    (hv : Value.okWide P w r b0 t v) (h : DataW.Trod enc P w base spare held t v d p) :
    ∃ a b : Int, v = .agg #[.int .i64 a, .int .i64 b] ∧ (-9223372036854775808 ≤ a ∧ a ≤ 9223372036854775807) ∧ (-9223372036854775808 ≤ b ∧ b ≤ 9223372036854775807) := by
  obtain ⟨l, rfl, hl, hr⟩ := arr_cells (Value.int .i64) (fun y => -9223372036854775808 ≤ y ∧ y ≤ 9223372036854775807) ht hce hct (fun m c x hx => by obtain ⟨y, e1, e2⟩ := inv_int he m c x hx; exact ⟨y, e1, i64_bd4 e2⟩) hv h
  match l, hl with
  | [a, b], _ => exact ⟨a, b, rfl, hr a (by simp), hr b (by simp)⟩
end
end Go.Proofs.YtjnpenljgfdaiaaGreatDoor

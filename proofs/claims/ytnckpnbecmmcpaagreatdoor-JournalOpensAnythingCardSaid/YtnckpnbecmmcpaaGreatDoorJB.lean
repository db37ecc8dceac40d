/- errors.Is at the same error; package journal: check. -/
import Derived.Test.YtnckpnbecmmcpaaGreatDoorJA
import Derived.LaidEql
import Derived.WalkKit
namespace Go.Proofs.YtnckpnbecmmcpaaGreatDoor
open Go.RowKit Go.Extern
/-- The error that says that a disk is damaged. -/
def ErrD (W : World) : Prop := ∃ a, W.cell? ⟨0, 0, none⟩ = some (.iface 222 (.pointer (some a))) ∧ 0 < W.heap.size
theorem ErrD.below {W W' : World} {D : Nat} (h : ErrD W) (hD : 0 < D) (hb : Below D W W') : ErrD W' := by
  obtain ⟨a, h1, h2⟩ := h
  exact ⟨a, (hb.cell (p := ⟨0, 0, none⟩) hD).trans h1, Nat.lt_of_lt_of_le h2 hb.size⟩
theorem isTypeOf (v : Value) (w : World) : (Extern.ReflectliteType.typeOf #[.iface 222 v]).run Tryz.prog w = .ok (.iface 171 (.agg #[.pointer (some ⟨5, 222, none⟩)])) w := by kernel_rfl
def compX : Array Value → Sem Value := Extern.ReflectliteType.method fun t => do Go.Extern.Rtype.noPackHeld "Comparable" t; pure (.bool (← typeInfo t).comparable)
theorem isComparable (w : World) : (compX #[.agg #[.pointer (some ⟨5, 222, none⟩)]]).run Tryz.prog w = .ok (.bool true) w := by kernel_rfl
theorem isMethodComparable (v : Value) (w : World) : (Go.method 355 171 v "Comparable").run Tryz.prog w = .ok (171, v) w := by kernel_rfl
theorem isComp : (Tryz.prog.info? 222).map (·.comparable) = some true := by kernel_rfl
theorem isSize : (Tryz.prog.info? 244).map (·.size) = some 1 := by kernel_rfl
set_option maxRecDepth 100000 in
set_option maxHeartbeats 1000000 in
/-- errors.Is(x, x), x a pointer to an errors.errorString. -/
theorem is_same (a : Addr) (w : World) :
    Calls Tryz.prog 77 #[.iface 222 (.pointer (some a)), .iface 222 (.pointer (some a))] w fun e w' => e = .returned (.bool true) ∧ w' = w := by
  obtain ⟨i, hi, hcmp⟩ := Option.map_eq_some_iff.1 isComp
  obtain ⟨j, hj, hjs⟩ := Option.map_eq_some_iff.1 isSize
  have h8 := @run_callFunc_extern Tryz.prog 98 _ Extern.ReflectliteType.typeOf Tryz.func98 (by kernel_rfl) (by kernel_rfl) (by kernel_rfl) (by kernel_rfl)
  have h32 := @run_callFunc_extern Tryz.prog 171 _ compX Tryz.func171 (by kernel_rfl) (by kernel_rfl) (by kernel_rfl) (by kernel_rfl)
  have tT := isTypeOf
  have cT := isComparable
  have mR := isMethodComparable
  have heq := run_eql_iface_ptr_same (P := Tryz.prog) w a Tryz.underlying80 Tryz.underlying222 hi hcmp hj
  go_enter Tryz.func77, Tryz.ntmps77
  go_wp2
  refine wp_loop_rounds 1 ?_
  rw [rounds_succ]
  go_wp2
  go_ret
  exact ⟨rfl, rfl⟩
theorem check_ok (w : World) : Calls Tryz.prog 100 #[.bool true] w fun e w' => e = .returned (.tuple #[]) ∧ w' = w := by
  go_enter Tryz.func100, Tryz.ntmps100
  go_wp2
  exact ⟨rfl, _, results_none rfl _ _ _, rfl, rfl⟩
def dmg (a : Addr) : PanicEntry := { v := .iface 222 (.pointer (some a)), recovered := false }
theorem check_bad (a : Addr) (w : World) (h : w.cell? ⟨0, 0, none⟩ = some (.iface 222 (.pointer (some a)))) : Calls Tryz.prog 100 #[.bool false] w fun e w' => e = .panicked [dmg a] ∧ w' = w := by
  go_enter Tryz.func100, Tryz.ntmps100
  go_wp2
  exact ⟨rfl, rfl, rfl⟩
end Go.Proofs.YtnckpnbecmmcpaaGreatDoor

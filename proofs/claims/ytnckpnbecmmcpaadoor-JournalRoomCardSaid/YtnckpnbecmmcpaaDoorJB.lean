/- errors.Is at the same error; package journal: check. -/
import Derived.Test.YtnckpnbecmmcpaaDoorJA
import Derived.LaidEql
import Derived.WalkKit
namespace Go.Proofs.YtnckpnbecmmcpaaDoor
open Go.RowKit Go.Extern
/-- The error that says that a disk is damaged. -/
def ErrD (W : World) : Prop := ∃ a, W.cell? ⟨0, 0, none⟩ = some (.iface 155 (.pointer (some a))) ∧ 0 < W.heap.size
theorem ErrD.below {W W' : World} {D : Nat} (h : ErrD W) (hD : 0 < D) (hb : Below D W W') : ErrD W' := by
  obtain ⟨a, h1, h2⟩ := h
  exact ⟨a, (hb.cell (p := ⟨0, 0, none⟩) hD).trans h1, Nat.lt_of_lt_of_le h2 hb.size⟩
theorem isTypeOf (v : Value) (w : World) : (Extern.ReflectliteType.typeOf #[.iface 155 v]).run Tryd.prog w = .ok (.iface 112 (.agg #[.pointer (some ⟨5, 155, none⟩)])) w := by kernel_rfl
def compX : Array Value → Sem Value := Extern.ReflectliteType.method fun t => do Go.Extern.Rtype.noPackHeld "Comparable" t; pure (.bool (← typeInfo t).comparable)
theorem isComparable (w : World) : (compX #[.agg #[.pointer (some ⟨5, 155, none⟩)]]).run Tryd.prog w = .ok (.bool true) w := by kernel_rfl
theorem isMethodComparable (v : Value) (w : World) : (Go.method 288 112 v "Comparable").run Tryd.prog w = .ok (110, v) w := by kernel_rfl
theorem isComp : (Tryd.prog.info? 155).map (·.comparable) = some true := by kernel_rfl
theorem isSize : (Tryd.prog.info? 177).map (·.size) = some 1 := by kernel_rfl
set_option maxRecDepth 100000 in
set_option maxHeartbeats 1000000 in
/-- errors.Is(x, x), x a pointer to an errors.errorString. -/
theorem is_same (a : Addr) (w : World) :
    Calls Tryd.prog 39 #[.iface 155 (.pointer (some a)), .iface 155 (.pointer (some a))] w fun e w' => e = .returned (.bool true) ∧ w' = w := by
  obtain ⟨i, hi, hcmp⟩ := Option.map_eq_some_iff.1 isComp
  obtain ⟨j, hj, hjs⟩ := Option.map_eq_some_iff.1 isSize
  have h8 := @run_callFunc_extern Tryd.prog 55 _ Extern.ReflectliteType.typeOf Tryd.func55 (by kernel_rfl) (by kernel_rfl) (by kernel_rfl) (by kernel_rfl)
  have h32 := @run_callFunc_extern Tryd.prog 110 _ compX Tryd.func110 (by kernel_rfl) (by kernel_rfl) (by kernel_rfl) (by kernel_rfl)
  have tT := isTypeOf
  have cT := isComparable
  have mR := isMethodComparable
  have heq := run_eql_iface_ptr_same (P := Tryd.prog) w a Tryd.underlying69 Tryd.underlying155 hi hcmp hj
  go_enter Tryd.func39, Tryd.ntmps39
  go_wp2
  refine wp_loop_rounds 1 ?_
  rw [rounds_succ]
  go_wp2
  go_ret
  exact ⟨rfl, rfl⟩
theorem check_ok (w : World) : Calls Tryd.prog 57 #[.bool true] w fun e w' => e = .returned (.tuple #[]) ∧ w' = w := by
  go_enter Tryd.func57, Tryd.ntmps57
  go_wp2
  exact ⟨rfl, _, results_none rfl _ _ _, rfl, rfl⟩
def dmg (a : Addr) : PanicEntry := { v := .iface 155 (.pointer (some a)), recovered := false }
theorem check_bad (a : Addr) (w : World) (h : w.cell? ⟨0, 0, none⟩ = some (.iface 155 (.pointer (some a)))) : Calls Tryd.prog 57 #[.bool false] w fun e w' => e = .panicked [dmg a] ∧ w' = w := by
  go_enter Tryd.func57, Tryd.ntmps57
  go_wp2
  exact ⟨rfl, rfl, rfl⟩
end Go.Proofs.YtnckpnbecmmcpaaDoor

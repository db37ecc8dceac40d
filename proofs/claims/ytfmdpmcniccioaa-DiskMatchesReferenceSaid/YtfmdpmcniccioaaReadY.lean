/- Integers in range, read. -/
import Derived.Test.YtfmdpmcniccioaaRead
import Derived.Test.YtfmdpmcniccioaaPk
namespace Go.Proofs.Ytfmdpmcniccioaa
open Go.ChangeShapes Go.WideShapes Go.ChangeAt Go.RowKit
theorem inR_wf {y : Int} (h : (Lit.int .i64 y).wf = true) : InR y := by
  simp [Lit.wf, IntKind.min, IntKind.max, IntKind.signed, IntKind.bits] at h
  exact ⟨by omega, by omega⟩
end Go.Proofs.Ytfmdpmcniccioaa

/- Short lists, opened. -/
import Derived.Below
namespace Go.Proofs.Ytblmpmapcdpaiaa
theorem list2 {l : List Int} (h : l.length = 2) : ∃ a b, l = [a, b] := by
  match l, h with
  | [a, b], _ => exact ⟨_, _, rfl⟩
theorem list3 {l : List Int} (h : l.length = 3) : ∃ a b c, l = [a, b, c] := by
  match l, h with
  | [a, b, c], _ => exact ⟨_, _, _, rfl⟩
end Go.Proofs.Ytblmpmapcdpaiaa

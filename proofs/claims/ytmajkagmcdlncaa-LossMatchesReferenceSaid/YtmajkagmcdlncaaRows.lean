/-
  No cell of these rows narrows 'for every input' (looked for: loops, veiled, ifaces, maps, wideKeys, modest, calm, conditions, laid).
  DERIVED. THE GIVEN ROWS OF THIS SEAT. 7 by the template 'for every input the law returns true; each argument reads behind the call as it read before'; 0 by the template 'total and deterministic' (their statements: YtmajkagmcdlncaaTotals.lean).
  GIVEN WITH THE SEED: the statements are not yours to turn. If you find one false, say at which input.
  Laid BY PROGRAM, IN A SANDBOX (cutbox-rows.mjs): the forced cells as the released guide's own fill.sh prints them over the translation d90aec9a353fb106… (all of the seat's roots in one cut). By AI agents, Wed Nov 11 2026. No macro, syntax, notation, axiom, sorry.
-/
import Derived.Test.YtmajkagmcdlncaaChecked
import GoSem.Claim
import GoSem.ClaimJoined
import GoSem.ClaimMapViews
import Derived.JoinedTies
import Derived.KernelRfl
namespace Go.Proofs.Ytmajkagmcdlncaa
/- THE CELL 'sum', in the pinned program and in every row, IS THE sha256 OF THE DUMP (.gsa) THAT YtmajkagmcdlncaaProg.lean LOADS. Nothing in Lean hashes anything: it is a label: what it is worth is what the hold of that sum in a sandbox is worth. -/
noncomputable def Try.pinned : Pinned := { name := "ytmajkagmcdlncaa", sum := "d90aec9a353fb1061f41e752a98792baed70773a2d53d1f67227aa61c5d46501", checked := Try.checked }
namespace Rows
def none {H : Type} : Left H := { results := [], args := [] }

/-- 'nadirlaw18.LossMatchesReference': WHATEVER THE INPUT: true; the input reads as it did. -/
def lossMatchesReferenceSpec : ChangeSpec := { name := "lossMatchesReference", fn := fun _ => fun
  | [d1, d2, d3, d4, d5, d6, d7, d8] => { results := [.lit (.bool true)], args := [d1, d2, d3, d4, d5, d6, d7, d8] }
  | _ => none }
def lossMatchesReferenceRow : OpenClaim := { program := "ytmajkagmcdlncaa", sum := "d90aec9a353fb1061f41e752a98792baed70773a2d53d1f67227aa61c5d46501", func := "nadir/nadirlaw18.LossMatchesReference", spec := "lossMatchesReference", unfollowed := true, recurses := true, apart := false }
def LossMatchesReferenceSaid : Prop := lossMatchesReferenceRow.holds Try.pinned (OpenSpec.ofChange lossMatchesReferenceSpec)

/-- ITS FALSE NEIGHBOUR: 'it returns false'. Refute it at one input. -/
def lossMatchesReferenceWrong : ChangeSpec := { name := "lossMatchesReference", fn := fun _ => fun
  | [d1, d2, d3, d4, d5, d6, d7, d8] => { results := [.lit (.bool false)], args := [d1, d2, d3, d4, d5, d6, d7, d8] }
  | _ => none }
def LossMatchesReferenceWrongFalsely : Prop := lossMatchesReferenceRow.holds Try.pinned (OpenSpec.ofChange lossMatchesReferenceWrong)

/-- 'nadirlaw18.LossWorstMatchesReference': WHATEVER THE INPUT: true; the input reads as it did. -/
def lossWorstMatchesReferenceSpec : ChangeSpec := { name := "lossWorstMatchesReference", fn := fun _ => fun
  | [d1, d2, d3, d4] => { results := [.lit (.bool true)], args := [d1, d2, d3, d4] }
  | _ => none }
def lossWorstMatchesReferenceRow : OpenClaim := { program := "ytmajkagmcdlncaa", sum := "d90aec9a353fb1061f41e752a98792baed70773a2d53d1f67227aa61c5d46501", func := "nadir/nadirlaw18.LossWorstMatchesReference", spec := "lossWorstMatchesReference", unfollowed := true, recurses := true, apart := false }
def LossWorstMatchesReferenceSaid : Prop := lossWorstMatchesReferenceRow.holds Try.pinned (OpenSpec.ofChange lossWorstMatchesReferenceSpec)

/-- ITS FALSE NEIGHBOUR: 'it returns false'. Refute it at one input. -/
def lossWorstMatchesReferenceWrong : ChangeSpec := { name := "lossWorstMatchesReference", fn := fun _ => fun
  | [d1, d2, d3, d4] => { results := [.lit (.bool false)], args := [d1, d2, d3, d4] }
  | _ => none }
def LossWorstMatchesReferenceWrongFalsely : Prop := lossWorstMatchesReferenceRow.holds Try.pinned (OpenSpec.ofChange lossWorstMatchesReferenceWrong)

/-- 'nadirlaw18.LossSure': WHATEVER THE INPUT: true; the input reads as it did. -/
def lossSureSpec : ChangeSpec := { name := "lossSure", fn := fun _ => fun
  | [d1, d2, d3] => { results := [.lit (.bool true)], args := [d1, d2, d3] }
  | _ => none }
def lossSureRow : OpenClaim := { program := "ytmajkagmcdlncaa", sum := "d90aec9a353fb1061f41e752a98792baed70773a2d53d1f67227aa61c5d46501", func := "nadir/nadirlaw18.LossSure", spec := "lossSure", unfollowed := true, recurses := true, apart := false }
def LossSureSaid : Prop := lossSureRow.holds Try.pinned (OpenSpec.ofChange lossSureSpec)

/-- ITS FALSE NEIGHBOUR: 'it returns false'. Refute it at one input. -/
def lossSureWrong : ChangeSpec := { name := "lossSure", fn := fun _ => fun
  | [d1, d2, d3] => { results := [.lit (.bool false)], args := [d1, d2, d3] }
  | _ => none }
def LossSureWrongFalsely : Prop := lossSureRow.holds Try.pinned (OpenSpec.ofChange lossSureWrong)

/-- 'nadirlaw18.LossLatest': WHATEVER THE INPUT: true; the input reads as it did. -/
def lossLatestSpec : ChangeSpec := { name := "lossLatest", fn := fun _ => fun
  | [d1, d2, d3] => { results := [.lit (.bool true)], args := [d1, d2, d3] }
  | _ => none }
def lossLatestRow : OpenClaim := { program := "ytmajkagmcdlncaa", sum := "d90aec9a353fb1061f41e752a98792baed70773a2d53d1f67227aa61c5d46501", func := "nadir/nadirlaw18.LossLatest", spec := "lossLatest", unfollowed := true, recurses := true, apart := false }
def LossLatestSaid : Prop := lossLatestRow.holds Try.pinned (OpenSpec.ofChange lossLatestSpec)

/-- ITS FALSE NEIGHBOUR: 'it returns false'. Refute it at one input. -/
def lossLatestWrong : ChangeSpec := { name := "lossLatest", fn := fun _ => fun
  | [d1, d2, d3] => { results := [.lit (.bool false)], args := [d1, d2, d3] }
  | _ => none }
def LossLatestWrongFalsely : Prop := lossLatestRow.holds Try.pinned (OpenSpec.ofChange lossLatestWrong)

/-- 'nadirlaw18.LossMore': WHATEVER THE INPUT: true; the input reads as it did. -/
def lossMoreSpec : ChangeSpec := { name := "lossMore", fn := fun _ => fun
  | [d1, d2, d3, d4] => { results := [.lit (.bool true)], args := [d1, d2, d3, d4] }
  | _ => none }
def lossMoreRow : OpenClaim := { program := "ytmajkagmcdlncaa", sum := "d90aec9a353fb1061f41e752a98792baed70773a2d53d1f67227aa61c5d46501", func := "nadir/nadirlaw18.LossMore", spec := "lossMore", unfollowed := true, recurses := true, apart := false }
def LossMoreSaid : Prop := lossMoreRow.holds Try.pinned (OpenSpec.ofChange lossMoreSpec)

/-- ITS FALSE NEIGHBOUR: 'it returns false'. Refute it at one input. -/
def lossMoreWrong : ChangeSpec := { name := "lossMore", fn := fun _ => fun
  | [d1, d2, d3, d4] => { results := [.lit (.bool false)], args := [d1, d2, d3, d4] }
  | _ => none }
def LossMoreWrongFalsely : Prop := lossMoreRow.holds Try.pinned (OpenSpec.ofChange lossMoreWrong)

/-- 'nadirlaw18.LossWorst': WHATEVER THE INPUT: true; the input reads as it did. -/
def lossWorstSpec : ChangeSpec := { name := "lossWorst", fn := fun _ => fun
  | [d1, d2, d3, d4] => { results := [.lit (.bool true)], args := [d1, d2, d3, d4] }
  | _ => none }
def lossWorstRow : OpenClaim := { program := "ytmajkagmcdlncaa", sum := "d90aec9a353fb1061f41e752a98792baed70773a2d53d1f67227aa61c5d46501", func := "nadir/nadirlaw18.LossWorst", spec := "lossWorst", unfollowed := true, recurses := true, apart := false }
def LossWorstSaid : Prop := lossWorstRow.holds Try.pinned (OpenSpec.ofChange lossWorstSpec)

/-- ITS FALSE NEIGHBOUR: 'it returns false'. Refute it at one input. -/
def lossWorstWrong : ChangeSpec := { name := "lossWorst", fn := fun _ => fun
  | [d1, d2, d3, d4] => { results := [.lit (.bool false)], args := [d1, d2, d3, d4] }
  | _ => none }
def LossWorstWrongFalsely : Prop := lossWorstRow.holds Try.pinned (OpenSpec.ofChange lossWorstWrong)

/-- 'nadirlaw18.LossNeeded': WHATEVER THE INPUT: true; the input reads as it did. -/
def lossNeededSpec : ChangeSpec := { name := "lossNeeded", fn := fun _ => fun
  | [d1, d2, d3, d4] => { results := [.lit (.bool true)], args := [d1, d2, d3, d4] }
  | _ => none }
def lossNeededRow : OpenClaim := { program := "ytmajkagmcdlncaa", sum := "d90aec9a353fb1061f41e752a98792baed70773a2d53d1f67227aa61c5d46501", func := "nadir/nadirlaw18.LossNeeded", spec := "lossNeeded", unfollowed := true, recurses := true, apart := false }
def LossNeededSaid : Prop := lossNeededRow.holds Try.pinned (OpenSpec.ofChange lossNeededSpec)

/-- ITS FALSE NEIGHBOUR: 'it returns false'. Refute it at one input. -/
def lossNeededWrong : ChangeSpec := { name := "lossNeeded", fn := fun _ => fun
  | [d1, d2, d3, d4] => { results := [.lit (.bool false)], args := [d1, d2, d3, d4] }
  | _ => none }
def LossNeededWrongFalsely : Prop := lossNeededRow.holds Try.pinned (OpenSpec.ofChange lossNeededWrong)

/- THE SECOND FORM. 'bulk': how many values and letters a reading holds, each counted each time it is reached (what is shared counts as often as it is met; a slice's spare places count too). A statement '..UptoSaid' is the law's where the arguments, and the package variables that the reading takes, are together of bulk at most 1048576: NARROWER than '..Said'. Prove '..Said' where nothing that the law and all that it calls make is longer than what came in: it says more and counts as full. Else prove '..UptoSaid'. A law counts once. -/
mutual
def uptoBulk {H : Type} : DataW H → Nat
  | .lit (.string bytes) => bytes.length + 1
  | .lit _ => 1
  | .nil => 1
  | .ptr d => uptoBulk d + 1
  | .slice elems spare => uptoBulkAll elems + uptoBulkAll spare + 1
  | .agg parts => uptoBulkAll parts + 1
  | .iface _ d => uptoBulk d + 1
  | .map entries => uptoBulkEntries entries + 1
  | .held _ => 1
def uptoBulkAll {H : Type} : List (DataW H) → Nat
  | [] => 0
  | d :: r => uptoBulk d + uptoBulkAll r
def uptoBulkEntries {H : Type} : List (Lit × DataW H) → Nat
  | [] => 0
  | x :: r => uptoBulkEntry x + uptoBulkEntries r
def uptoBulkEntry {H : Type} : Lit × DataW H → Nat
  | (.string bytes, d) => bytes.length + uptoBulk d + 1
  | (_, d) => uptoBulk d + 1
 end
def uptoSmall : (H : Type) → List (DataW H) → Bool := fun _ ds => decide (uptoBulkAll ds ≤ 1048576)
def OpenSpec.upto (s : _root_.Go.ChangeSpec) : _root_.Go.OpenSpec := { _root_.Go.OpenSpec.ofChange s with cond := some uptoSmall }

/-- 'nadirlaw18.LossMatchesReference', WHERE WHAT IT READS IS OF BULK AT MOST 1048576: true; the input reads as it did. -/
def lossMatchesReferenceUptoRow : OpenClaim := { program := "ytmajkagmcdlncaa", sum := "d90aec9a353fb1061f41e752a98792baed70773a2d53d1f67227aa61c5d46501", func := "nadir/nadirlaw18.LossMatchesReference", spec := "lossMatchesReference", unfollowed := true, recurses := true, apart := false, narrowed := true }
def LossMatchesReferenceUptoSaid : Prop := lossMatchesReferenceUptoRow.holds Try.pinned (OpenSpec.upto lossMatchesReferenceSpec)

/-- 'nadirlaw18.LossWorstMatchesReference', WHERE WHAT IT READS IS OF BULK AT MOST 1048576: true; the input reads as it did. -/
def lossWorstMatchesReferenceUptoRow : OpenClaim := { program := "ytmajkagmcdlncaa", sum := "d90aec9a353fb1061f41e752a98792baed70773a2d53d1f67227aa61c5d46501", func := "nadir/nadirlaw18.LossWorstMatchesReference", spec := "lossWorstMatchesReference", unfollowed := true, recurses := true, apart := false, narrowed := true }
def LossWorstMatchesReferenceUptoSaid : Prop := lossWorstMatchesReferenceUptoRow.holds Try.pinned (OpenSpec.upto lossWorstMatchesReferenceSpec)

/-- 'nadirlaw18.LossSure', WHERE WHAT IT READS IS OF BULK AT MOST 1048576: true; the input reads as it did. -/
def lossSureUptoRow : OpenClaim := { program := "ytmajkagmcdlncaa", sum := "d90aec9a353fb1061f41e752a98792baed70773a2d53d1f67227aa61c5d46501", func := "nadir/nadirlaw18.LossSure", spec := "lossSure", unfollowed := true, recurses := true, apart := false, narrowed := true }
def LossSureUptoSaid : Prop := lossSureUptoRow.holds Try.pinned (OpenSpec.upto lossSureSpec)

/-- 'nadirlaw18.LossLatest', WHERE WHAT IT READS IS OF BULK AT MOST 1048576: true; the input reads as it did. -/
def lossLatestUptoRow : OpenClaim := { program := "ytmajkagmcdlncaa", sum := "d90aec9a353fb1061f41e752a98792baed70773a2d53d1f67227aa61c5d46501", func := "nadir/nadirlaw18.LossLatest", spec := "lossLatest", unfollowed := true, recurses := true, apart := false, narrowed := true }
def LossLatestUptoSaid : Prop := lossLatestUptoRow.holds Try.pinned (OpenSpec.upto lossLatestSpec)

/-- 'nadirlaw18.LossMore', WHERE WHAT IT READS IS OF BULK AT MOST 1048576: true; the input reads as it did. -/
def lossMoreUptoRow : OpenClaim := { program := "ytmajkagmcdlncaa", sum := "d90aec9a353fb1061f41e752a98792baed70773a2d53d1f67227aa61c5d46501", func := "nadir/nadirlaw18.LossMore", spec := "lossMore", unfollowed := true, recurses := true, apart := false, narrowed := true }
def LossMoreUptoSaid : Prop := lossMoreUptoRow.holds Try.pinned (OpenSpec.upto lossMoreSpec)

/-- 'nadirlaw18.LossWorst', WHERE WHAT IT READS IS OF BULK AT MOST 1048576: true; the input reads as it did. -/
def lossWorstUptoRow : OpenClaim := { program := "ytmajkagmcdlncaa", sum := "d90aec9a353fb1061f41e752a98792baed70773a2d53d1f67227aa61c5d46501", func := "nadir/nadirlaw18.LossWorst", spec := "lossWorst", unfollowed := true, recurses := true, apart := false, narrowed := true }
def LossWorstUptoSaid : Prop := lossWorstUptoRow.holds Try.pinned (OpenSpec.upto lossWorstSpec)

/-- 'nadirlaw18.LossNeeded', WHERE WHAT IT READS IS OF BULK AT MOST 1048576: true; the input reads as it did. -/
def lossNeededUptoRow : OpenClaim := { program := "ytmajkagmcdlncaa", sum := "d90aec9a353fb1061f41e752a98792baed70773a2d53d1f67227aa61c5d46501", func := "nadir/nadirlaw18.LossNeeded", spec := "lossNeeded", unfollowed := true, recurses := true, apart := false, narrowed := true }
def LossNeededUptoSaid : Prop := lossNeededUptoRow.holds Try.pinned (OpenSpec.upto lossNeededSpec)

end Rows
end Go.Proofs.Ytmajkagmcdlncaa

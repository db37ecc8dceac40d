/-
  No cell of these rows narrows 'for every input' (looked for: loops, veiled, ifaces, maps, wideKeys, modest, calm, conditions, laid).
  DERIVED. THE GIVEN ROWS OF THIS SEAT. 13 by the template 'for every input the law returns true; each argument reads behind the call as it read before'; 0 by the template 'total and deterministic' (their statements: YtblmpmapcdpaiaaTotals.lean).
  GIVEN WITH THE SEED: the statements are not yours to turn. If you find one false, say at which input.
  Laid BY PROGRAM, IN A SANDBOX (cutbox-rows.mjs): the forced cells as the released guide's own fill.sh prints them over the translation 712311938aa63de8… (all of the seat's roots in one cut). By AI agents, Wed Nov 11 2026. No macro, syntax, notation, axiom, sorry.
-/
import Derived.Test.YtblmpmapcdpaiaaChecked
import GoSem.Claim
import GoSem.ClaimJoined
import GoSem.ClaimMapViews
import Derived.JoinedTies
import Derived.KernelRfl
namespace Go.Proofs.Ytblmpmapcdpaiaa
/- THE CELL 'sum', in the pinned program and in every row, IS THE sha256 OF THE DUMP (.gsa) THAT YtblmpmapcdpaiaaProg.lean LOADS. Nothing in Lean hashes anything: it is a label: what it is worth is what the hold of that sum in a sandbox is worth. -/
noncomputable def Try.pinned : Pinned := { name := "ytblmpmapcdpaiaa", sum := "712311938aa63de83ac7f92e868732a17a58c2bed956f33d24cfd0ab714b4f76", checked := Try.checked }
namespace Rows
def none {H : Type} : Left H := { results := [], args := [] }

/-- 'nadirlaw23.ProgramMatchesReference': WHATEVER THE INPUT: true; the input reads as it did. -/
def programMatchesReferenceSpec : ChangeSpec := { name := "programMatchesReference", fn := fun _ => fun
  | [d1, d2, d3, d4, d5, d6, d7, d8, d9] => { results := [.lit (.bool true)], args := [d1, d2, d3, d4, d5, d6, d7, d8, d9] }
  | _ => none }
def programMatchesReferenceRow : OpenClaim := { program := "ytblmpmapcdpaiaa", sum := "712311938aa63de83ac7f92e868732a17a58c2bed956f33d24cfd0ab714b4f76", func := "nadir/nadirlaw23.ProgramMatchesReference", spec := "programMatchesReference", unfollowed := true, recurses := true, apart := false }
def ProgramMatchesReferenceSaid : Prop := programMatchesReferenceRow.holds Try.pinned (OpenSpec.ofChange programMatchesReferenceSpec)

/-- ITS FALSE NEIGHBOUR: 'it returns false'. Refute it at one input. -/
def programMatchesReferenceWrong : ChangeSpec := { name := "programMatchesReference", fn := fun _ => fun
  | [d1, d2, d3, d4, d5, d6, d7, d8, d9] => { results := [.lit (.bool false)], args := [d1, d2, d3, d4, d5, d6, d7, d8, d9] }
  | _ => none }
def ProgramMatchesReferenceWrongFalsely : Prop := programMatchesReferenceRow.holds Try.pinned (OpenSpec.ofChange programMatchesReferenceWrong)

/-- 'nadirlaw23.ProgramBest': WHATEVER THE INPUT: true; the input reads as it did. -/
def programBestSpec : ChangeSpec := { name := "programBest", fn := fun _ => fun
  | [d1, d2, d3] => { results := [.lit (.bool true)], args := [d1, d2, d3] }
  | _ => none }
def programBestRow : OpenClaim := { program := "ytblmpmapcdpaiaa", sum := "712311938aa63de83ac7f92e868732a17a58c2bed956f33d24cfd0ab714b4f76", func := "nadir/nadirlaw23.ProgramBest", spec := "programBest", unfollowed := true, recurses := true, apart := false }
def ProgramBestSaid : Prop := programBestRow.holds Try.pinned (OpenSpec.ofChange programBestSpec)

/-- ITS FALSE NEIGHBOUR: 'it returns false'. Refute it at one input. -/
def programBestWrong : ChangeSpec := { name := "programBest", fn := fun _ => fun
  | [d1, d2, d3] => { results := [.lit (.bool false)], args := [d1, d2, d3] }
  | _ => none }
def ProgramBestWrongFalsely : Prop := programBestRow.holds Try.pinned (OpenSpec.ofChange programBestWrong)

/-- 'nadirlaw23.ProgramProof': WHATEVER THE INPUT: true; the input reads as it did. -/
def programProofSpec : ChangeSpec := { name := "programProof", fn := fun _ => fun
  | [d1, d2, d3] => { results := [.lit (.bool true)], args := [d1, d2, d3] }
  | _ => none }
def programProofRow : OpenClaim := { program := "ytblmpmapcdpaiaa", sum := "712311938aa63de83ac7f92e868732a17a58c2bed956f33d24cfd0ab714b4f76", func := "nadir/nadirlaw23.ProgramProof", spec := "programProof", unfollowed := true, recurses := true, apart := false }
def ProgramProofSaid : Prop := programProofRow.holds Try.pinned (OpenSpec.ofChange programProofSpec)

/-- ITS FALSE NEIGHBOUR: 'it returns false'. Refute it at one input. -/
def programProofWrong : ChangeSpec := { name := "programProof", fn := fun _ => fun
  | [d1, d2, d3] => { results := [.lit (.bool false)], args := [d1, d2, d3] }
  | _ => none }
def ProgramProofWrongFalsely : Prop := programProofRow.holds Try.pinned (OpenSpec.ofChange programProofWrong)

/-- 'nadirlaw23.ProgramMore': WHATEVER THE INPUT: true; the input reads as it did. -/
def programMoreSpec : ChangeSpec := { name := "programMore", fn := fun _ => fun
  | [d1, d2, d3, d4, d5] => { results := [.lit (.bool true)], args := [d1, d2, d3, d4, d5] }
  | _ => none }
def programMoreRow : OpenClaim := { program := "ytblmpmapcdpaiaa", sum := "712311938aa63de83ac7f92e868732a17a58c2bed956f33d24cfd0ab714b4f76", func := "nadir/nadirlaw23.ProgramMore", spec := "programMore", unfollowed := true, recurses := true, apart := false }
def ProgramMoreSaid : Prop := programMoreRow.holds Try.pinned (OpenSpec.ofChange programMoreSpec)

/-- ITS FALSE NEIGHBOUR: 'it returns false'. Refute it at one input. -/
def programMoreWrong : ChangeSpec := { name := "programMore", fn := fun _ => fun
  | [d1, d2, d3, d4, d5] => { results := [.lit (.bool false)], args := [d1, d2, d3, d4, d5] }
  | _ => none }
def ProgramMoreWrongFalsely : Prop := programMoreRow.holds Try.pinned (OpenSpec.ofChange programMoreWrong)

/-- 'nadirlaw23.ProgramOrder': WHATEVER THE INPUT: true; the input reads as it did. -/
def programOrderSpec : ChangeSpec := { name := "programOrder", fn := fun _ => fun
  | [d1, d2, d3, d4, d5] => { results := [.lit (.bool true)], args := [d1, d2, d3, d4, d5] }
  | _ => none }
def programOrderRow : OpenClaim := { program := "ytblmpmapcdpaiaa", sum := "712311938aa63de83ac7f92e868732a17a58c2bed956f33d24cfd0ab714b4f76", func := "nadir/nadirlaw23.ProgramOrder", spec := "programOrder", unfollowed := true, recurses := true, apart := false }
def ProgramOrderSaid : Prop := programOrderRow.holds Try.pinned (OpenSpec.ofChange programOrderSpec)

/-- ITS FALSE NEIGHBOUR: 'it returns false'. Refute it at one input. -/
def programOrderWrong : ChangeSpec := { name := "programOrder", fn := fun _ => fun
  | [d1, d2, d3, d4, d5] => { results := [.lit (.bool false)], args := [d1, d2, d3, d4, d5] }
  | _ => none }
def ProgramOrderWrongFalsely : Prop := programOrderRow.holds Try.pinned (OpenSpec.ofChange programOrderWrong)

/-- 'nadirlaw23.ProgramSums': WHATEVER THE INPUT: true; the input reads as it did. -/
def programSumsSpec : ChangeSpec := { name := "programSums", fn := fun _ => fun
  | [d1, d2, d3, d4, d5] => { results := [.lit (.bool true)], args := [d1, d2, d3, d4, d5] }
  | _ => none }
def programSumsRow : OpenClaim := { program := "ytblmpmapcdpaiaa", sum := "712311938aa63de83ac7f92e868732a17a58c2bed956f33d24cfd0ab714b4f76", func := "nadir/nadirlaw23.ProgramSums", spec := "programSums", unfollowed := true, recurses := true, apart := false }
def ProgramSumsSaid : Prop := programSumsRow.holds Try.pinned (OpenSpec.ofChange programSumsSpec)

/-- ITS FALSE NEIGHBOUR: 'it returns false'. Refute it at one input. -/
def programSumsWrong : ChangeSpec := { name := "programSums", fn := fun _ => fun
  | [d1, d2, d3, d4, d5] => { results := [.lit (.bool false)], args := [d1, d2, d3, d4, d5] }
  | _ => none }
def ProgramSumsWrongFalsely : Prop := programSumsRow.holds Try.pinned (OpenSpec.ofChange programSumsWrong)

/-- 'nadirlaw23.ProgramAdds': WHATEVER THE INPUT: true; the input reads as it did. -/
def programAddsSpec : ChangeSpec := { name := "programAdds", fn := fun _ => fun
  | [d1, d2, d3, d4, d5] => { results := [.lit (.bool true)], args := [d1, d2, d3, d4, d5] }
  | _ => none }
def programAddsRow : OpenClaim := { program := "ytblmpmapcdpaiaa", sum := "712311938aa63de83ac7f92e868732a17a58c2bed956f33d24cfd0ab714b4f76", func := "nadir/nadirlaw23.ProgramAdds", spec := "programAdds", unfollowed := true, recurses := true, apart := false }
def ProgramAddsSaid : Prop := programAddsRow.holds Try.pinned (OpenSpec.ofChange programAddsSpec)

/-- ITS FALSE NEIGHBOUR: 'it returns false'. Refute it at one input. -/
def programAddsWrong : ChangeSpec := { name := "programAdds", fn := fun _ => fun
  | [d1, d2, d3, d4, d5] => { results := [.lit (.bool false)], args := [d1, d2, d3, d4, d5] }
  | _ => none }
def ProgramAddsWrongFalsely : Prop := programAddsRow.holds Try.pinned (OpenSpec.ofChange programAddsWrong)

/-- 'nadirlaw26.ProofMatchesReference': WHATEVER THE INPUT: true; the input reads as it did. -/
def proofMatchesReferenceSpec : ChangeSpec := { name := "proofMatchesReference", fn := fun _ => fun
  | [d1, d2, d3, d4, d5, d6, d7] => { results := [.lit (.bool true)], args := [d1, d2, d3, d4, d5, d6, d7] }
  | _ => none }
def proofMatchesReferenceRow : OpenClaim := { program := "ytblmpmapcdpaiaa", sum := "712311938aa63de83ac7f92e868732a17a58c2bed956f33d24cfd0ab714b4f76", func := "nadir/nadirlaw26.ProofMatchesReference", spec := "proofMatchesReference", unfollowed := true, recurses := true, apart := false }
def ProofMatchesReferenceSaid : Prop := proofMatchesReferenceRow.holds Try.pinned (OpenSpec.ofChange proofMatchesReferenceSpec)

/-- ITS FALSE NEIGHBOUR: 'it returns false'. Refute it at one input. -/
def proofMatchesReferenceWrong : ChangeSpec := { name := "proofMatchesReference", fn := fun _ => fun
  | [d1, d2, d3, d4, d5, d6, d7] => { results := [.lit (.bool false)], args := [d1, d2, d3, d4, d5, d6, d7] }
  | _ => none }
def ProofMatchesReferenceWrongFalsely : Prop := proofMatchesReferenceRow.holds Try.pinned (OpenSpec.ofChange proofMatchesReferenceWrong)

/-- 'nadirlaw26.ProofWeights': WHATEVER THE INPUT: true; the input reads as it did. -/
def proofWeightsSpec : ChangeSpec := { name := "proofWeights", fn := fun _ => fun
  | [d1, d2, d3, d4, d5, d6, d7] => { results := [.lit (.bool true)], args := [d1, d2, d3, d4, d5, d6, d7] }
  | _ => none }
def proofWeightsRow : OpenClaim := { program := "ytblmpmapcdpaiaa", sum := "712311938aa63de83ac7f92e868732a17a58c2bed956f33d24cfd0ab714b4f76", func := "nadir/nadirlaw26.ProofWeights", spec := "proofWeights", unfollowed := true, recurses := true, apart := false }
def ProofWeightsSaid : Prop := proofWeightsRow.holds Try.pinned (OpenSpec.ofChange proofWeightsSpec)

/-- ITS FALSE NEIGHBOUR: 'it returns false'. Refute it at one input. -/
def proofWeightsWrong : ChangeSpec := { name := "proofWeights", fn := fun _ => fun
  | [d1, d2, d3, d4, d5, d6, d7] => { results := [.lit (.bool false)], args := [d1, d2, d3, d4, d5, d6, d7] }
  | _ => none }
def ProofWeightsWrongFalsely : Prop := proofWeightsRow.holds Try.pinned (OpenSpec.ofChange proofWeightsWrong)

/-- 'nadirlaw26.ProofSound': WHATEVER THE INPUT: true; the input reads as it did. -/
def proofSoundSpec : ChangeSpec := { name := "proofSound", fn := fun _ => fun
  | [d1, d2, d3, d4, d5, d6, d7] => { results := [.lit (.bool true)], args := [d1, d2, d3, d4, d5, d6, d7] }
  | _ => none }
def proofSoundRow : OpenClaim := { program := "ytblmpmapcdpaiaa", sum := "712311938aa63de83ac7f92e868732a17a58c2bed956f33d24cfd0ab714b4f76", func := "nadir/nadirlaw26.ProofSound", spec := "proofSound", unfollowed := true, recurses := true, apart := false }
def ProofSoundSaid : Prop := proofSoundRow.holds Try.pinned (OpenSpec.ofChange proofSoundSpec)

/-- ITS FALSE NEIGHBOUR: 'it returns false'. Refute it at one input. -/
def proofSoundWrong : ChangeSpec := { name := "proofSound", fn := fun _ => fun
  | [d1, d2, d3, d4, d5, d6, d7] => { results := [.lit (.bool false)], args := [d1, d2, d3, d4, d5, d6, d7] }
  | _ => none }
def ProofSoundWrongFalsely : Prop := proofSoundRow.holds Try.pinned (OpenSpec.ofChange proofSoundWrong)

/-- 'nadirlaw26.ProofComplete': WHATEVER THE INPUT: true; the input reads as it did. -/
def proofCompleteSpec : ChangeSpec := { name := "proofComplete", fn := fun _ => fun
  | [d1, d2, d3, d4] => { results := [.lit (.bool true)], args := [d1, d2, d3, d4] }
  | _ => none }
def proofCompleteRow : OpenClaim := { program := "ytblmpmapcdpaiaa", sum := "712311938aa63de83ac7f92e868732a17a58c2bed956f33d24cfd0ab714b4f76", func := "nadir/nadirlaw26.ProofComplete", spec := "proofComplete", unfollowed := true, recurses := true, apart := false }
def ProofCompleteSaid : Prop := proofCompleteRow.holds Try.pinned (OpenSpec.ofChange proofCompleteSpec)

/-- ITS FALSE NEIGHBOUR: 'it returns false'. Refute it at one input. -/
def proofCompleteWrong : ChangeSpec := { name := "proofComplete", fn := fun _ => fun
  | [d1, d2, d3, d4] => { results := [.lit (.bool false)], args := [d1, d2, d3, d4] }
  | _ => none }
def ProofCompleteWrongFalsely : Prop := proofCompleteRow.holds Try.pinned (OpenSpec.ofChange proofCompleteWrong)

/-- 'nadirlaw26.ProofMore': WHATEVER THE INPUT: true; the input reads as it did. -/
def proofMoreSpec : ChangeSpec := { name := "proofMore", fn := fun _ => fun
  | [d1, d2, d3, d4, d5] => { results := [.lit (.bool true)], args := [d1, d2, d3, d4, d5] }
  | _ => none }
def proofMoreRow : OpenClaim := { program := "ytblmpmapcdpaiaa", sum := "712311938aa63de83ac7f92e868732a17a58c2bed956f33d24cfd0ab714b4f76", func := "nadir/nadirlaw26.ProofMore", spec := "proofMore", unfollowed := true, recurses := true, apart := false }
def ProofMoreSaid : Prop := proofMoreRow.holds Try.pinned (OpenSpec.ofChange proofMoreSpec)

/-- ITS FALSE NEIGHBOUR: 'it returns false'. Refute it at one input. -/
def proofMoreWrong : ChangeSpec := { name := "proofMore", fn := fun _ => fun
  | [d1, d2, d3, d4, d5] => { results := [.lit (.bool false)], args := [d1, d2, d3, d4, d5] }
  | _ => none }
def ProofMoreWrongFalsely : Prop := proofMoreRow.holds Try.pinned (OpenSpec.ofChange proofMoreWrong)

/-- 'nadirlaw26.ProofUsed': WHATEVER THE INPUT: true; the input reads as it did. -/
def proofUsedSpec : ChangeSpec := { name := "proofUsed", fn := fun _ => fun
  | [d1, d2, d3, d4] => { results := [.lit (.bool true)], args := [d1, d2, d3, d4] }
  | _ => none }
def proofUsedRow : OpenClaim := { program := "ytblmpmapcdpaiaa", sum := "712311938aa63de83ac7f92e868732a17a58c2bed956f33d24cfd0ab714b4f76", func := "nadir/nadirlaw26.ProofUsed", spec := "proofUsed", unfollowed := true, recurses := true, apart := false }
def ProofUsedSaid : Prop := proofUsedRow.holds Try.pinned (OpenSpec.ofChange proofUsedSpec)

/-- ITS FALSE NEIGHBOUR: 'it returns false'. Refute it at one input. -/
def proofUsedWrong : ChangeSpec := { name := "proofUsed", fn := fun _ => fun
  | [d1, d2, d3, d4] => { results := [.lit (.bool false)], args := [d1, d2, d3, d4] }
  | _ => none }
def ProofUsedWrongFalsely : Prop := proofUsedRow.holds Try.pinned (OpenSpec.ofChange proofUsedWrong)

/- THE SECOND FORM. 'bulk': how many values and letters a reading holds, each counted each time it is reached (what is shared counts as often as it is met; a slice's spare places count too). A statement '..UptoSaid' is the law's where the arguments, and the package variables that the reading takes, are together of bulk at most 1048576: NARROWER than '..Said'. Prove '..Said' where nothing that the law and all that it calls make is longer than what came in: it says more and counts as full. Else prove '..UptoSaid'. A law counts once. -/
mutual
def uptoBulk {H : Type} : DataW H → Nat
  | .lit (.string bytes) => bytes.length + 1
  | .lit _ => 1
  | .nil => 1
  | .ptr d => uptoBulk d + 1
  | .slice elems spare => uptoBulkAll elems + uptoBulkAll spare + 1
  | .agg parts => uptoBulkAll parts + 1
  | .iface _ d => uptoBulk d + 1
  | .map entries => uptoBulkEntries entries + 1
  | .held _ => 1
def uptoBulkAll {H : Type} : List (DataW H) → Nat
  | [] => 0
  | d :: r => uptoBulk d + uptoBulkAll r
def uptoBulkEntries {H : Type} : List (Lit × DataW H) → Nat
  | [] => 0
  | x :: r => uptoBulkEntry x + uptoBulkEntries r
def uptoBulkEntry {H : Type} : Lit × DataW H → Nat
  | (.string bytes, d) => bytes.length + uptoBulk d + 1
  | (_, d) => uptoBulk d + 1
 end
def uptoSmall : (H : Type) → List (DataW H) → Bool := fun _ ds => decide (uptoBulkAll ds ≤ 1048576)
def OpenSpec.upto (s : _root_.Go.ChangeSpec) : _root_.Go.OpenSpec := { _root_.Go.OpenSpec.ofChange s with cond := some uptoSmall }

/-- 'nadirlaw23.ProgramMatchesReference', WHERE WHAT IT READS IS OF BULK AT MOST 1048576: true; the input reads as it did. -/
def programMatchesReferenceUptoRow : OpenClaim := { program := "ytblmpmapcdpaiaa", sum := "712311938aa63de83ac7f92e868732a17a58c2bed956f33d24cfd0ab714b4f76", func := "nadir/nadirlaw23.ProgramMatchesReference", spec := "programMatchesReference", unfollowed := true, recurses := true, apart := false, narrowed := true }
def ProgramMatchesReferenceUptoSaid : Prop := programMatchesReferenceUptoRow.holds Try.pinned (OpenSpec.upto programMatchesReferenceSpec)

/-- 'nadirlaw23.ProgramBest', WHERE WHAT IT READS IS OF BULK AT MOST 1048576: true; the input reads as it did. -/
def programBestUptoRow : OpenClaim := { program := "ytblmpmapcdpaiaa", sum := "712311938aa63de83ac7f92e868732a17a58c2bed956f33d24cfd0ab714b4f76", func := "nadir/nadirlaw23.ProgramBest", spec := "programBest", unfollowed := true, recurses := true, apart := false, narrowed := true }
def ProgramBestUptoSaid : Prop := programBestUptoRow.holds Try.pinned (OpenSpec.upto programBestSpec)

/-- 'nadirlaw23.ProgramProof', WHERE WHAT IT READS IS OF BULK AT MOST 1048576: true; the input reads as it did. -/
def programProofUptoRow : OpenClaim := { program := "ytblmpmapcdpaiaa", sum := "712311938aa63de83ac7f92e868732a17a58c2bed956f33d24cfd0ab714b4f76", func := "nadir/nadirlaw23.ProgramProof", spec := "programProof", unfollowed := true, recurses := true, apart := false, narrowed := true }
def ProgramProofUptoSaid : Prop := programProofUptoRow.holds Try.pinned (OpenSpec.upto programProofSpec)

/-- 'nadirlaw23.ProgramMore', WHERE WHAT IT READS IS OF BULK AT MOST 1048576: true; the input reads as it did. -/
def programMoreUptoRow : OpenClaim := { program := "ytblmpmapcdpaiaa", sum := "712311938aa63de83ac7f92e868732a17a58c2bed956f33d24cfd0ab714b4f76", func := "nadir/nadirlaw23.ProgramMore", spec := "programMore", unfollowed := true, recurses := true, apart := false, narrowed := true }
def ProgramMoreUptoSaid : Prop := programMoreUptoRow.holds Try.pinned (OpenSpec.upto programMoreSpec)

/-- 'nadirlaw23.ProgramOrder', WHERE WHAT IT READS IS OF BULK AT MOST 1048576: true; the input reads as it did. -/
def programOrderUptoRow : OpenClaim := { program := "ytblmpmapcdpaiaa", sum := "712311938aa63de83ac7f92e868732a17a58c2bed956f33d24cfd0ab714b4f76", func := "nadir/nadirlaw23.ProgramOrder", spec := "programOrder", unfollowed := true, recurses := true, apart := false, narrowed := true }
def ProgramOrderUptoSaid : Prop := programOrderUptoRow.holds Try.pinned (OpenSpec.upto programOrderSpec)

/-- 'nadirlaw23.ProgramSums', WHERE WHAT IT READS IS OF BULK AT MOST 1048576: true; the input reads as it did. -/
def programSumsUptoRow : OpenClaim := { program := "ytblmpmapcdpaiaa", sum := "712311938aa63de83ac7f92e868732a17a58c2bed956f33d24cfd0ab714b4f76", func := "nadir/nadirlaw23.ProgramSums", spec := "programSums", unfollowed := true, recurses := true, apart := false, narrowed := true }
def ProgramSumsUptoSaid : Prop := programSumsUptoRow.holds Try.pinned (OpenSpec.upto programSumsSpec)

/-- 'nadirlaw23.ProgramAdds', WHERE WHAT IT READS IS OF BULK AT MOST 1048576: true; the input reads as it did. -/
def programAddsUptoRow : OpenClaim := { program := "ytblmpmapcdpaiaa", sum := "712311938aa63de83ac7f92e868732a17a58c2bed956f33d24cfd0ab714b4f76", func := "nadir/nadirlaw23.ProgramAdds", spec := "programAdds", unfollowed := true, recurses := true, apart := false, narrowed := true }
def ProgramAddsUptoSaid : Prop := programAddsUptoRow.holds Try.pinned (OpenSpec.upto programAddsSpec)

/-- 'nadirlaw26.ProofMatchesReference', WHERE WHAT IT READS IS OF BULK AT MOST 1048576: true; the input reads as it did. -/
def proofMatchesReferenceUptoRow : OpenClaim := { program := "ytblmpmapcdpaiaa", sum := "712311938aa63de83ac7f92e868732a17a58c2bed956f33d24cfd0ab714b4f76", func := "nadir/nadirlaw26.ProofMatchesReference", spec := "proofMatchesReference", unfollowed := true, recurses := true, apart := false, narrowed := true }
def ProofMatchesReferenceUptoSaid : Prop := proofMatchesReferenceUptoRow.holds Try.pinned (OpenSpec.upto proofMatchesReferenceSpec)

/-- 'nadirlaw26.ProofWeights', WHERE WHAT IT READS IS OF BULK AT MOST 1048576: true; the input reads as it did. -/
def proofWeightsUptoRow : OpenClaim := { program := "ytblmpmapcdpaiaa", sum := "712311938aa63de83ac7f92e868732a17a58c2bed956f33d24cfd0ab714b4f76", func := "nadir/nadirlaw26.ProofWeights", spec := "proofWeights", unfollowed := true, recurses := true, apart := false, narrowed := true }
def ProofWeightsUptoSaid : Prop := proofWeightsUptoRow.holds Try.pinned (OpenSpec.upto proofWeightsSpec)

/-- 'nadirlaw26.ProofSound', WHERE WHAT IT READS IS OF BULK AT MOST 1048576: true; the input reads as it did. -/
def proofSoundUptoRow : OpenClaim := { program := "ytblmpmapcdpaiaa", sum := "712311938aa63de83ac7f92e868732a17a58c2bed956f33d24cfd0ab714b4f76", func := "nadir/nadirlaw26.ProofSound", spec := "proofSound", unfollowed := true, recurses := true, apart := false, narrowed := true }
def ProofSoundUptoSaid : Prop := proofSoundUptoRow.holds Try.pinned (OpenSpec.upto proofSoundSpec)

/-- 'nadirlaw26.ProofComplete', WHERE WHAT IT READS IS OF BULK AT MOST 1048576: true; the input reads as it did. -/
def proofCompleteUptoRow : OpenClaim := { program := "ytblmpmapcdpaiaa", sum := "712311938aa63de83ac7f92e868732a17a58c2bed956f33d24cfd0ab714b4f76", func := "nadir/nadirlaw26.ProofComplete", spec := "proofComplete", unfollowed := true, recurses := true, apart := false, narrowed := true }
def ProofCompleteUptoSaid : Prop := proofCompleteUptoRow.holds Try.pinned (OpenSpec.upto proofCompleteSpec)

/-- 'nadirlaw26.ProofMore', WHERE WHAT IT READS IS OF BULK AT MOST 1048576: true; the input reads as it did. -/
def proofMoreUptoRow : OpenClaim := { program := "ytblmpmapcdpaiaa", sum := "712311938aa63de83ac7f92e868732a17a58c2bed956f33d24cfd0ab714b4f76", func := "nadir/nadirlaw26.ProofMore", spec := "proofMore", unfollowed := true, recurses := true, apart := false, narrowed := true }
def ProofMoreUptoSaid : Prop := proofMoreUptoRow.holds Try.pinned (OpenSpec.upto proofMoreSpec)

/-- 'nadirlaw26.ProofUsed', WHERE WHAT IT READS IS OF BULK AT MOST 1048576: true; the input reads as it did. -/
def proofUsedUptoRow : OpenClaim := { program := "ytblmpmapcdpaiaa", sum := "712311938aa63de83ac7f92e868732a17a58c2bed956f33d24cfd0ab714b4f76", func := "nadir/nadirlaw26.ProofUsed", spec := "proofUsed", unfollowed := true, recurses := true, apart := false, narrowed := true }
def ProofUsedUptoSaid : Prop := proofUsedUptoRow.holds Try.pinned (OpenSpec.upto proofUsedSpec)

end Rows
end Go.Proofs.Ytblmpmapcdpaiaa

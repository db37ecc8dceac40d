/-
  DERIVED. GIVEN WITH THE SEED: THE CARDS: each row of YtjnpenljgfdaiaaGreatDoorRows.lean that lists a variable, with what it lists TIED to the program's text (the seventh form; the later family's looks); each row that meets fmt, with fmt's text TOLD by the authors' own Lean function (tested against real Go, not proved from fmt's source: count such statements apart). THE CARD IS WHAT COUNTS. Prove the row's statement (the work); the ties are given (YtjnpenljgfdaiaaGreatDoorTie.lean); close each card by the builder's one call (the guide's Derived/Test/ToyasCard.lean, 'card_holds'). Laid BY PROGRAM, IN A SANDBOX (cutbox-door.mjs). By AI agents, Wed Nov 11 2026. No macro, syntax, notation, axiom, sorry.
-/
import Derived.Test.YtjnpenljgfdaiaaGreatDoorRows
import GoSem.ClaimSeven
namespace Go.Proofs.YtjnpenljgfdaiaaGreatDoor
namespace Rows

/-- THE TIED CARD OF 'nadirlaw04.RationalOrder'. -/
def rationalOrderCard : Claim7 := { stood := { row := rationalOrderRow, standIns := [], harness := (true, "3090ffd765b5be0cf608177b399fbbc05c60fa18b0374e06a1f656a060694a31"), looks := true }, kinds := [], alts := [], laidByText := true, laidKinds := [.data, .data, .data, .data, .sentinel, .sentinel, .pinned], laidTests := true, laidLooks := .later }
def RationalOrderCardSaid : Prop := Claim7.holds Tryz.pinned (.plain (OpenSpec.ofChange rationalOrderSpec)) rationalOrderCard

/-- THE TIED CARD OF 'nadirlaw04.RationalGrid'. -/
def rationalGridCard : Claim7 := { stood := { row := rationalGridRow, standIns := [], harness := (true, "3090ffd765b5be0cf608177b399fbbc05c60fa18b0374e06a1f656a060694a31"), looks := true }, kinds := [], alts := [], laidByText := true, laidKinds := [.data, .data, .data, .data, .sentinel, .sentinel, .pinned], laidTests := true, laidLooks := .later }
def RationalGridCardSaid : Prop := Claim7.holds Tryz.pinned (.plain (OpenSpec.ofChange rationalGridSpec)) rationalGridCard

/-- THE TIED CARD OF 'nadirlaw03.IntegerRing'. -/
def integerRingCard : Claim7 := { stood := { row := integerRingRow, standIns := [], harness := (true, "3090ffd765b5be0cf608177b399fbbc05c60fa18b0374e06a1f656a060694a31"), looks := true }, kinds := [], alts := [], laidByText := true, laidKinds := [.data, .data, .data, .data, .sentinel, .sentinel, .pinned], laidTests := true, laidLooks := .later }
def IntegerRingCardSaid : Prop := Claim7.holds Tryz.pinned (.plain (OpenSpec.ofChange integerRingSpec)) integerRingCard

/-- THE TIED CARD OF 'nadirlaw03.IntegerDivided'. -/
def integerDividedCard : Claim7 := { stood := { row := integerDividedRow, standIns := [], harness := (true, "3090ffd765b5be0cf608177b399fbbc05c60fa18b0374e06a1f656a060694a31"), looks := true }, kinds := [], alts := [], laidByText := true, laidKinds := [.data, .data, .data, .data, .sentinel, .sentinel, .pinned], laidTests := true, laidLooks := .later }
def IntegerDividedCardSaid : Prop := Claim7.holds Tryz.pinned (.plain (OpenSpec.ofChange integerDividedSpec)) integerDividedCard

/-- THE TIED CARD OF 'nadirlaw03.IntegerCommon'. -/
def integerCommonCard : Claim7 := { stood := { row := integerCommonRow, standIns := [], harness := (true, "3090ffd765b5be0cf608177b399fbbc05c60fa18b0374e06a1f656a060694a31"), looks := true }, kinds := [], alts := [], laidByText := true, laidKinds := [.data, .data, .data, .data, .sentinel, .sentinel, .pinned], laidTests := true, laidLooks := .later }
def IntegerCommonCardSaid : Prop := Claim7.holds Tryz.pinned (.plain (OpenSpec.ofChange integerCommonSpec)) integerCommonCard

/-- THE TIED CARD OF 'nadirlaw03.IntegerRoot'. -/
def integerRootCard : Claim7 := { stood := { row := integerRootRow, standIns := [], harness := (true, "3090ffd765b5be0cf608177b399fbbc05c60fa18b0374e06a1f656a060694a31"), looks := true }, kinds := [], alts := [], laidByText := true, laidKinds := [.data, .data, .data, .data, .sentinel, .sentinel, .pinned], laidTests := true, laidLooks := .later }
def IntegerRootCardSaid : Prop := Claim7.holds Tryz.pinned (.plain (OpenSpec.ofChange integerRootSpec)) integerRootCard

/-- THE TIED CARD OF 'nadirlaw03.IntegerOrder'. -/
def integerOrderCard : Claim7 := { stood := { row := integerOrderRow, standIns := [], harness := (true, "3090ffd765b5be0cf608177b399fbbc05c60fa18b0374e06a1f656a060694a31"), looks := true }, kinds := [], alts := [], laidByText := true, laidKinds := [.data, .data, .data, .data, .sentinel, .sentinel, .pinned], laidTests := true, laidLooks := .later }
def IntegerOrderCardSaid : Prop := Claim7.holds Tryz.pinned (.plain (OpenSpec.ofChange integerOrderSpec)) integerOrderCard

/-- THE TIED CARD OF 'nadirlaw03.IntegerLimits'. -/
def integerLimitsCard : Claim7 := { stood := { row := integerLimitsRow, standIns := [], harness := (true, "3090ffd765b5be0cf608177b399fbbc05c60fa18b0374e06a1f656a060694a31"), looks := true }, kinds := [], alts := [], laidByText := true, laidKinds := [.data, .data, .data, .data, .sentinel, .sentinel, .pinned], laidTests := true, laidLooks := .later }
def IntegerLimitsCardSaid : Prop := Claim7.holds Tryz.pinned (.plain (OpenSpec.ofChange integerLimitsSpec)) integerLimitsCard

/-- THE TIED CARD OF 'nadirlaw03.IntegerMatchesReference'. -/
def integerMatchesReferenceCard : Claim7 := { stood := { row := integerMatchesReferenceRow, standIns := [], harness := (true, "3090ffd765b5be0cf608177b399fbbc05c60fa18b0374e06a1f656a060694a31"), looks := true }, kinds := [], alts := [], laidByText := true, laidKinds := [.data, .data, .data, .data, .sentinel, .sentinel, .pinned], laidTests := true, laidLooks := .later }
def IntegerMatchesReferenceCardSaid : Prop := Claim7.holds Tryz.pinned (.plain (OpenSpec.ofChange integerMatchesReferenceSpec)) integerMatchesReferenceCard

/-- THE TIED CARD OF 'nadirlaw03.IntegerMachine'. -/
def integerMachineCard : Claim7 := { stood := { row := integerMachineRow, standIns := [], harness := (true, "3090ffd765b5be0cf608177b399fbbc05c60fa18b0374e06a1f656a060694a31"), looks := true }, kinds := [], alts := [], laidByText := true, laidKinds := [.data, .data, .data, .data, .sentinel, .sentinel, .pinned], laidTests := true, laidLooks := .later }
def IntegerMachineCardSaid : Prop := Claim7.holds Tryz.pinned (.plain (OpenSpec.ofChange integerMachineSpec)) integerMachineCard

/-- THE TIED CARD OF 'nadirlaw03.IntegerText'. -/
def integerTextCard : Claim7 := { stood := { row := integerTextRow, standIns := [], harness := (true, "3090ffd765b5be0cf608177b399fbbc05c60fa18b0374e06a1f656a060694a31"), looks := true }, kinds := [], alts := [], laidByText := true, laidKinds := [.data, .data, .data, .data, .sentinel, .sentinel, .pinned], laidTests := true, laidLooks := .later }
def IntegerTextCardSaid : Prop := Claim7.holds Tryz.pinned (.plain (OpenSpec.ofChange integerTextSpec)) integerTextCard

/-- THE TIED CARD OF 'nadirlaw04.RationalTextMatchesReference'. -/
def rationalTextMatchesReferenceCard : Claim7 := { stood := { row := rationalTextMatchesReferenceRow, standIns := [], harness := (true, "3090ffd765b5be0cf608177b399fbbc05c60fa18b0374e06a1f656a060694a31"), looks := true }, kinds := [], alts := [], laidByText := true, laidKinds := [.data, .data, .data, .data, .sentinel, .sentinel, .pinned], laidTests := true, laidLooks := .later }
def RationalTextMatchesReferenceCardSaid : Prop := Claim7.holds Tryz.pinned (.plain (OpenSpec.ofChange rationalTextMatchesReferenceSpec)) rationalTextMatchesReferenceCard

/-- THE TIED CARD OF 'nadirlaw04.RationalLowest'. -/
def rationalLowestCard : Claim7 := { stood := { row := rationalLowestRow, standIns := [], harness := (true, "3090ffd765b5be0cf608177b399fbbc05c60fa18b0374e06a1f656a060694a31"), looks := true }, kinds := [], alts := [], laidByText := true, laidKinds := [.data, .data, .data, .data, .sentinel, .sentinel, .pinned], laidTests := true, laidLooks := .later }
def RationalLowestCardSaid : Prop := Claim7.holds Tryz.pinned (.plain (OpenSpec.ofChange rationalLowestSpec)) rationalLowestCard

/-- THE TIED CARD OF 'nadirlaw04.RationalLimits'. -/
def rationalLimitsCard : Claim7 := { stood := { row := rationalLimitsRow, standIns := [], harness := (true, "3090ffd765b5be0cf608177b399fbbc05c60fa18b0374e06a1f656a060694a31"), looks := true }, kinds := [], alts := [], laidByText := true, laidKinds := [.data, .data, .data, .data, .sentinel, .sentinel, .pinned], laidTests := true, laidLooks := .later }
def RationalLimitsCardSaid : Prop := Claim7.holds Tryz.pinned (.plain (OpenSpec.ofChange rationalLimitsSpec)) rationalLimitsCard

/-- THE TIED CARD OF 'nadirlaw04.RationalMatchesReference'. -/
def rationalMatchesReferenceCard : Claim7 := { stood := { row := rationalMatchesReferenceRow, standIns := [], harness := (true, "3090ffd765b5be0cf608177b399fbbc05c60fa18b0374e06a1f656a060694a31"), looks := true }, kinds := [], alts := [], laidByText := true, laidKinds := [.data, .data, .data, .data, .sentinel, .sentinel, .pinned], laidTests := true, laidLooks := .later }
def RationalMatchesReferenceCardSaid : Prop := Claim7.holds Tryz.pinned (.plain (OpenSpec.ofChange rationalMatchesReferenceSpec)) rationalMatchesReferenceCard

/-- THE TIED CARD OF 'nadirlaw04.RationalMachine'. -/
def rationalMachineCard : Claim7 := { stood := { row := rationalMachineRow, standIns := [], harness := (true, "3090ffd765b5be0cf608177b399fbbc05c60fa18b0374e06a1f656a060694a31"), looks := true }, kinds := [], alts := [], laidByText := true, laidKinds := [.data, .data, .data, .data, .sentinel, .sentinel, .pinned], laidTests := true, laidLooks := .later }
def RationalMachineCardSaid : Prop := Claim7.holds Tryz.pinned (.plain (OpenSpec.ofChange rationalMachineSpec)) rationalMachineCard

/-- THE TIED CARD OF 'nadirlaw04.RationalField'. -/
def rationalFieldCard : Claim7 := { stood := { row := rationalFieldRow, standIns := [], harness := (true, "3090ffd765b5be0cf608177b399fbbc05c60fa18b0374e06a1f656a060694a31"), looks := true }, kinds := [], alts := [], laidByText := true, laidKinds := [.data, .data, .data, .data, .sentinel, .sentinel, .pinned], laidTests := true, laidLooks := .later }
def RationalFieldCardSaid : Prop := Claim7.holds Tryz.pinned (.plain (OpenSpec.ofChange rationalFieldSpec)) rationalFieldCard

/-- THE SECOND FORM's CARD OF 'nadirlaw04.RationalOrder'. -/
def rationalOrderUptoCard : Claim7 := { stood := { row := rationalOrderUptoRow, standIns := [], harness := (true, "3090ffd765b5be0cf608177b399fbbc05c60fa18b0374e06a1f656a060694a31"), looks := true }, kinds := [], alts := [], laidByText := true, laidKinds := [.data, .data, .data, .data, .sentinel, .sentinel, .pinned], laidTests := true, laidLooks := .later }
def RationalOrderUptoCardSaid : Prop := Claim7.holds Tryz.pinned (.plain (OpenSpec.upto rationalOrderSpec)) rationalOrderUptoCard

/-- THE SECOND FORM's CARD OF 'nadirlaw04.RationalGrid'. -/
def rationalGridUptoCard : Claim7 := { stood := { row := rationalGridUptoRow, standIns := [], harness := (true, "3090ffd765b5be0cf608177b399fbbc05c60fa18b0374e06a1f656a060694a31"), looks := true }, kinds := [], alts := [], laidByText := true, laidKinds := [.data, .data, .data, .data, .sentinel, .sentinel, .pinned], laidTests := true, laidLooks := .later }
def RationalGridUptoCardSaid : Prop := Claim7.holds Tryz.pinned (.plain (OpenSpec.upto rationalGridSpec)) rationalGridUptoCard

/-- THE SECOND FORM's CARD OF 'nadirlaw03.IntegerRing'. -/
def integerRingUptoCard : Claim7 := { stood := { row := integerRingUptoRow, standIns := [], harness := (true, "3090ffd765b5be0cf608177b399fbbc05c60fa18b0374e06a1f656a060694a31"), looks := true }, kinds := [], alts := [], laidByText := true, laidKinds := [.data, .data, .data, .data, .sentinel, .sentinel, .pinned], laidTests := true, laidLooks := .later }
def IntegerRingUptoCardSaid : Prop := Claim7.holds Tryz.pinned (.plain (OpenSpec.upto integerRingSpec)) integerRingUptoCard

/-- THE SECOND FORM's CARD OF 'nadirlaw03.IntegerDivided'. -/
def integerDividedUptoCard : Claim7 := { stood := { row := integerDividedUptoRow, standIns := [], harness := (true, "3090ffd765b5be0cf608177b399fbbc05c60fa18b0374e06a1f656a060694a31"), looks := true }, kinds := [], alts := [], laidByText := true, laidKinds := [.data, .data, .data, .data, .sentinel, .sentinel, .pinned], laidTests := true, laidLooks := .later }
def IntegerDividedUptoCardSaid : Prop := Claim7.holds Tryz.pinned (.plain (OpenSpec.upto integerDividedSpec)) integerDividedUptoCard

/-- THE SECOND FORM's CARD OF 'nadirlaw03.IntegerCommon'. -/
def integerCommonUptoCard : Claim7 := { stood := { row := integerCommonUptoRow, standIns := [], harness := (true, "3090ffd765b5be0cf608177b399fbbc05c60fa18b0374e06a1f656a060694a31"), looks := true }, kinds := [], alts := [], laidByText := true, laidKinds := [.data, .data, .data, .data, .sentinel, .sentinel, .pinned], laidTests := true, laidLooks := .later }
def IntegerCommonUptoCardSaid : Prop := Claim7.holds Tryz.pinned (.plain (OpenSpec.upto integerCommonSpec)) integerCommonUptoCard

/-- THE SECOND FORM's CARD OF 'nadirlaw03.IntegerRoot'. -/
def integerRootUptoCard : Claim7 := { stood := { row := integerRootUptoRow, standIns := [], harness := (true, "3090ffd765b5be0cf608177b399fbbc05c60fa18b0374e06a1f656a060694a31"), looks := true }, kinds := [], alts := [], laidByText := true, laidKinds := [.data, .data, .data, .data, .sentinel, .sentinel, .pinned], laidTests := true, laidLooks := .later }
def IntegerRootUptoCardSaid : Prop := Claim7.holds Tryz.pinned (.plain (OpenSpec.upto integerRootSpec)) integerRootUptoCard

/-- THE SECOND FORM's CARD OF 'nadirlaw03.IntegerOrder'. -/
def integerOrderUptoCard : Claim7 := { stood := { row := integerOrderUptoRow, standIns := [], harness := (true, "3090ffd765b5be0cf608177b399fbbc05c60fa18b0374e06a1f656a060694a31"), looks := true }, kinds := [], alts := [], laidByText := true, laidKinds := [.data, .data, .data, .data, .sentinel, .sentinel, .pinned], laidTests := true, laidLooks := .later }
def IntegerOrderUptoCardSaid : Prop := Claim7.holds Tryz.pinned (.plain (OpenSpec.upto integerOrderSpec)) integerOrderUptoCard

/-- THE SECOND FORM's CARD OF 'nadirlaw03.IntegerLimits'. -/
def integerLimitsUptoCard : Claim7 := { stood := { row := integerLimitsUptoRow, standIns := [], harness := (true, "3090ffd765b5be0cf608177b399fbbc05c60fa18b0374e06a1f656a060694a31"), looks := true }, kinds := [], alts := [], laidByText := true, laidKinds := [.data, .data, .data, .data, .sentinel, .sentinel, .pinned], laidTests := true, laidLooks := .later }
def IntegerLimitsUptoCardSaid : Prop := Claim7.holds Tryz.pinned (.plain (OpenSpec.upto integerLimitsSpec)) integerLimitsUptoCard

/-- THE SECOND FORM's CARD OF 'nadirlaw03.IntegerMatchesReference'. -/
def integerMatchesReferenceUptoCard : Claim7 := { stood := { row := integerMatchesReferenceUptoRow, standIns := [], harness := (true, "3090ffd765b5be0cf608177b399fbbc05c60fa18b0374e06a1f656a060694a31"), looks := true }, kinds := [], alts := [], laidByText := true, laidKinds := [.data, .data, .data, .data, .sentinel, .sentinel, .pinned], laidTests := true, laidLooks := .later }
def IntegerMatchesReferenceUptoCardSaid : Prop := Claim7.holds Tryz.pinned (.plain (OpenSpec.upto integerMatchesReferenceSpec)) integerMatchesReferenceUptoCard

/-- THE SECOND FORM's CARD OF 'nadirlaw03.IntegerMachine'. -/
def integerMachineUptoCard : Claim7 := { stood := { row := integerMachineUptoRow, standIns := [], harness := (true, "3090ffd765b5be0cf608177b399fbbc05c60fa18b0374e06a1f656a060694a31"), looks := true }, kinds := [], alts := [], laidByText := true, laidKinds := [.data, .data, .data, .data, .sentinel, .sentinel, .pinned], laidTests := true, laidLooks := .later }
def IntegerMachineUptoCardSaid : Prop := Claim7.holds Tryz.pinned (.plain (OpenSpec.upto integerMachineSpec)) integerMachineUptoCard

/-- THE SECOND FORM's CARD OF 'nadirlaw03.IntegerText'. -/
def integerTextUptoCard : Claim7 := { stood := { row := integerTextUptoRow, standIns := [], harness := (true, "3090ffd765b5be0cf608177b399fbbc05c60fa18b0374e06a1f656a060694a31"), looks := true }, kinds := [], alts := [], laidByText := true, laidKinds := [.data, .data, .data, .data, .sentinel, .sentinel, .pinned], laidTests := true, laidLooks := .later }
def IntegerTextUptoCardSaid : Prop := Claim7.holds Tryz.pinned (.plain (OpenSpec.upto integerTextSpec)) integerTextUptoCard

/-- THE SECOND FORM's CARD OF 'nadirlaw04.RationalTextMatchesReference'. -/
def rationalTextMatchesReferenceUptoCard : Claim7 := { stood := { row := rationalTextMatchesReferenceUptoRow, standIns := [], harness := (true, "3090ffd765b5be0cf608177b399fbbc05c60fa18b0374e06a1f656a060694a31"), looks := true }, kinds := [], alts := [], laidByText := true, laidKinds := [.data, .data, .data, .data, .sentinel, .sentinel, .pinned], laidTests := true, laidLooks := .later }
def RationalTextMatchesReferenceUptoCardSaid : Prop := Claim7.holds Tryz.pinned (.plain (OpenSpec.upto rationalTextMatchesReferenceSpec)) rationalTextMatchesReferenceUptoCard

/-- THE SECOND FORM's CARD OF 'nadirlaw04.RationalLowest'. -/
def rationalLowestUptoCard : Claim7 := { stood := { row := rationalLowestUptoRow, standIns := [], harness := (true, "3090ffd765b5be0cf608177b399fbbc05c60fa18b0374e06a1f656a060694a31"), looks := true }, kinds := [], alts := [], laidByText := true, laidKinds := [.data, .data, .data, .data, .sentinel, .sentinel, .pinned], laidTests := true, laidLooks := .later }
def RationalLowestUptoCardSaid : Prop := Claim7.holds Tryz.pinned (.plain (OpenSpec.upto rationalLowestSpec)) rationalLowestUptoCard

/-- THE SECOND FORM's CARD OF 'nadirlaw04.RationalLimits'. -/
def rationalLimitsUptoCard : Claim7 := { stood := { row := rationalLimitsUptoRow, standIns := [], harness := (true, "3090ffd765b5be0cf608177b399fbbc05c60fa18b0374e06a1f656a060694a31"), looks := true }, kinds := [], alts := [], laidByText := true, laidKinds := [.data, .data, .data, .data, .sentinel, .sentinel, .pinned], laidTests := true, laidLooks := .later }
def RationalLimitsUptoCardSaid : Prop := Claim7.holds Tryz.pinned (.plain (OpenSpec.upto rationalLimitsSpec)) rationalLimitsUptoCard

/-- THE SECOND FORM's CARD OF 'nadirlaw04.RationalMatchesReference'. -/
def rationalMatchesReferenceUptoCard : Claim7 := { stood := { row := rationalMatchesReferenceUptoRow, standIns := [], harness := (true, "3090ffd765b5be0cf608177b399fbbc05c60fa18b0374e06a1f656a060694a31"), looks := true }, kinds := [], alts := [], laidByText := true, laidKinds := [.data, .data, .data, .data, .sentinel, .sentinel, .pinned], laidTests := true, laidLooks := .later }
def RationalMatchesReferenceUptoCardSaid : Prop := Claim7.holds Tryz.pinned (.plain (OpenSpec.upto rationalMatchesReferenceSpec)) rationalMatchesReferenceUptoCard

/-- THE SECOND FORM's CARD OF 'nadirlaw04.RationalMachine'. -/
def rationalMachineUptoCard : Claim7 := { stood := { row := rationalMachineUptoRow, standIns := [], harness := (true, "3090ffd765b5be0cf608177b399fbbc05c60fa18b0374e06a1f656a060694a31"), looks := true }, kinds := [], alts := [], laidByText := true, laidKinds := [.data, .data, .data, .data, .sentinel, .sentinel, .pinned], laidTests := true, laidLooks := .later }
def RationalMachineUptoCardSaid : Prop := Claim7.holds Tryz.pinned (.plain (OpenSpec.upto rationalMachineSpec)) rationalMachineUptoCard

/-- THE SECOND FORM's CARD OF 'nadirlaw04.RationalField'. -/
def rationalFieldUptoCard : Claim7 := { stood := { row := rationalFieldUptoRow, standIns := [], harness := (true, "3090ffd765b5be0cf608177b399fbbc05c60fa18b0374e06a1f656a060694a31"), looks := true }, kinds := [], alts := [], laidByText := true, laidKinds := [.data, .data, .data, .data, .sentinel, .sentinel, .pinned], laidTests := true, laidLooks := .later }
def RationalFieldUptoCardSaid : Prop := Claim7.holds Tryz.pinned (.plain (OpenSpec.upto rationalFieldSpec)) rationalFieldUptoCard
end Rows
end Go.Proofs.YtjnpenljgfdaiaaGreatDoor

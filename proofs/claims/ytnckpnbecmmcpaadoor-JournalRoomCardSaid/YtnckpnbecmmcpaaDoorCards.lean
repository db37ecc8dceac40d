/-
  DERIVED. GIVEN WITH THE SEED: THE CARDS: each row of YtnckpnbecmmcpaaDoorRows.lean that lists a variable, with what it lists TIED to the program's text (the seventh form; the later family's looks); each row that meets fmt, with fmt's text TOLD by the authors' own Lean function (tested against real Go, not proved from fmt's source: count such statements apart). THE CARD IS WHAT COUNTS. Prove the row's statement (the work); the ties are given (YtnckpnbecmmcpaaDoorTie.lean); close each card by the builder's one call (the guide's Derived/Test/ToyasCard.lean, 'card_holds'). Laid BY PROGRAM, IN A SANDBOX (cutbox-door.mjs). By AI agents, Wed Nov 11 2026. No macro, syntax, notation, axiom, sorry.
-/
import Derived.Test.YtnckpnbecmmcpaaDoorRows
import GoSem.ClaimSeven
namespace Go.Proofs.YtnckpnbecmmcpaaDoor
namespace Rows

/-- THE TIED CARD OF 'nadirlaw34.JournalRoom'. -/
def journalRoomCard : Claim7 := { stood := { row := journalRoomRow, standIns := [], harness := (true, "67500545442e35722b5672fe5a3fe06dca04f30a8a2ec053c74de73ef2de6ae4"), looks := true }, kinds := [], alts := [], laidByText := true, laidKinds := [.data, .data, .sentinel, .pinned], laidTests := true, laidLooks := .later }
def JournalRoomCardSaid : Prop := Claim7.holds Tryd.pinned (.plain (OpenSpec.ofChange journalRoomSpec)) journalRoomCard

/-- THE TIED CARD OF 'nadirlaw34.JournalReopens'. -/
def journalReopensCard : Claim7 := { stood := { row := journalReopensRow, standIns := [], harness := (true, "67500545442e35722b5672fe5a3fe06dca04f30a8a2ec053c74de73ef2de6ae4"), looks := true }, kinds := [], alts := [], laidByText := true, laidKinds := [.data, .data, .sentinel, .pinned], laidTests := true, laidLooks := .later }
def JournalReopensCardSaid : Prop := Claim7.holds Tryd.pinned (.plain (OpenSpec.ofChange journalReopensSpec)) journalReopensCard

/-- THE SECOND FORM's CARD OF 'nadirlaw34.JournalRoom'. -/
def journalRoomUptoCard : Claim7 := { stood := { row := journalRoomUptoRow, standIns := [], harness := (true, "67500545442e35722b5672fe5a3fe06dca04f30a8a2ec053c74de73ef2de6ae4"), looks := true }, kinds := [], alts := [], laidByText := true, laidKinds := [.data, .data, .sentinel, .pinned], laidTests := true, laidLooks := .later }
def JournalRoomUptoCardSaid : Prop := Claim7.holds Tryd.pinned (.plain (OpenSpec.upto journalRoomSpec)) journalRoomUptoCard

/-- THE SECOND FORM's CARD OF 'nadirlaw34.JournalReopens'. -/
def journalReopensUptoCard : Claim7 := { stood := { row := journalReopensUptoRow, standIns := [], harness := (true, "67500545442e35722b5672fe5a3fe06dca04f30a8a2ec053c74de73ef2de6ae4"), looks := true }, kinds := [], alts := [], laidByText := true, laidKinds := [.data, .data, .sentinel, .pinned], laidTests := true, laidLooks := .later }
def JournalReopensUptoCardSaid : Prop := Claim7.holds Tryd.pinned (.plain (OpenSpec.upto journalReopensSpec)) journalReopensUptoCard
end Rows
end Go.Proofs.YtnckpnbecmmcpaaDoor

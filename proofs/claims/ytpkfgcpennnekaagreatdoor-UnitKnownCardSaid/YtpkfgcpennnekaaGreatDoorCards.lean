/-
  DERIVED. GIVEN WITH THE SEED: THE CARDS: each row of YtpkfgcpennnekaaGreatDoorRows.lean that lists a variable, with what it lists TIED to the program's text (the seventh form; the later family's looks); each row that meets fmt, with fmt's text TOLD by the authors' own Lean function (tested against real Go, not proved from fmt's source: count such statements apart). THE CARD IS WHAT COUNTS. Prove the row's statement (the work); the ties are given (YtpkfgcpennnekaaGreatDoorTie.lean); close each card by the builder's one call (the guide's Derived/Test/ToyasCard.lean, 'card_holds'). Laid BY PROGRAM, IN A SANDBOX (cutbox-door.mjs). By AI agents, Wed Nov 11 2026. No macro, syntax, notation, axiom, sorry.
-/
import Derived.Test.YtpkfgcpennnekaaGreatDoorRows
import GoSem.ClaimSeven
namespace Go.Proofs.YtpkfgcpennnekaaGreatDoor
namespace Rows

/-- THE TIED CARD OF 'cubitlaw10.UnitKnown'. -/
def unitKnownCard : Claim7 := { stood := { row := unitKnownRow, standIns := [], harness := (true, "c6be1356d1ed5b83a82d5dbcc28ba3e9d67723ca1443099e4b4254588493db6a"), looks := true }, kinds := [], alts := [], laidByText := true, laidKinds := [.data, .data, .data, .data, .sentinel, .sentinel, .pinned], laidTests := true, laidLooks := .later }
def UnitKnownCardSaid : Prop := Claim7.holds Tryz.pinned (.plain (OpenSpec.ofChange unitKnownSpec)) unitKnownCard

/-- THE TIED CARD OF 'cubitlaw10.UnitOrder'. -/
def unitOrderCard : Claim7 := { stood := { row := unitOrderRow, standIns := [], harness := (true, "c6be1356d1ed5b83a82d5dbcc28ba3e9d67723ca1443099e4b4254588493db6a"), looks := true }, kinds := [], alts := [], laidByText := true, laidKinds := [.data, .data, .data, .data, .sentinel, .sentinel, .pinned], laidTests := true, laidLooks := .later }
def UnitOrderCardSaid : Prop := Claim7.holds Tryz.pinned (.plain (OpenSpec.ofChange unitOrderSpec)) unitOrderCard

/-- THE SECOND FORM's CARD OF 'cubitlaw10.UnitKnown'. -/
def unitKnownUptoCard : Claim7 := { stood := { row := unitKnownUptoRow, standIns := [], harness := (true, "c6be1356d1ed5b83a82d5dbcc28ba3e9d67723ca1443099e4b4254588493db6a"), looks := true }, kinds := [], alts := [], laidByText := true, laidKinds := [.data, .data, .data, .data, .sentinel, .sentinel, .pinned], laidTests := true, laidLooks := .later }
def UnitKnownUptoCardSaid : Prop := Claim7.holds Tryz.pinned (.plain (OpenSpec.upto unitKnownSpec)) unitKnownUptoCard

/-- THE SECOND FORM's CARD OF 'cubitlaw10.UnitOrder'. -/
def unitOrderUptoCard : Claim7 := { stood := { row := unitOrderUptoRow, standIns := [], harness := (true, "c6be1356d1ed5b83a82d5dbcc28ba3e9d67723ca1443099e4b4254588493db6a"), looks := true }, kinds := [], alts := [], laidByText := true, laidKinds := [.data, .data, .data, .data, .sentinel, .sentinel, .pinned], laidTests := true, laidLooks := .later }
def UnitOrderUptoCardSaid : Prop := Claim7.holds Tryz.pinned (.plain (OpenSpec.upto unitOrderSpec)) unitOrderUptoCard
end Rows
end Go.Proofs.YtpkfgcpennnekaaGreatDoor

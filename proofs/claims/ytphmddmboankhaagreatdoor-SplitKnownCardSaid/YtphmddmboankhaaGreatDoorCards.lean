/-
  DERIVED. GIVEN WITH THE SEED: THE CARDS: each row of YtphmddmboankhaaGreatDoorRows.lean that lists a variable, with what it lists TIED to the program's text (the seventh form; the later family's looks); each row that meets fmt, with fmt's text TOLD by the authors' own Lean function (tested against real Go, not proved from fmt's source: count such statements apart). THE CARD IS WHAT COUNTS. Prove the row's statement (the work); the ties are given (YtphmddmboankhaaGreatDoorTie.lean); close each card by the builder's one call (the guide's Derived/Test/ToyasCard.lean, 'card_holds'). Laid BY PROGRAM, IN A SANDBOX (cutbox-door.mjs). By AI agents, Wed Nov 11 2026. No macro, syntax, notation, axiom, sorry.
-/
import Derived.Test.YtphmddmboankhaaGreatDoorRows
import GoSem.ClaimSeven
namespace Go.Proofs.YtphmddmboankhaaGreatDoor
namespace Rows

/-- THE TIED CARD OF 'cubitlaw17.SplitKnown'. -/
def splitKnownCard : Claim7 := { stood := { row := splitKnownRow, standIns := [], harness := (true, "5b168cadf11174a3dc988e8f0df3cfaec0af7b82af926af9ab9c941d5649f950"), looks := true }, kinds := [], alts := [], laidByText := true, laidKinds := [.data, .data, .data, .data, .sentinel, .sentinel, .pinned], laidTests := true, laidLooks := .later }
def SplitKnownCardSaid : Prop := Claim7.holds Tryz.pinned (.plain (OpenSpec.ofChange splitKnownSpec)) splitKnownCard

/-- THE TIED CARD OF 'cubitlaw17.SplitOne'. -/
def splitOneCard : Claim7 := { stood := { row := splitOneRow, standIns := [], harness := (true, "5b168cadf11174a3dc988e8f0df3cfaec0af7b82af926af9ab9c941d5649f950"), looks := true }, kinds := [], alts := [], laidByText := true, laidKinds := [.data, .data, .data, .data, .sentinel, .sentinel, .pinned], laidTests := true, laidLooks := .later }
def SplitOneCardSaid : Prop := Claim7.holds Tryz.pinned (.plain (OpenSpec.ofChange splitOneSpec)) splitOneCard

/-- THE SECOND FORM's CARD OF 'cubitlaw17.SplitKnown'. -/
def splitKnownUptoCard : Claim7 := { stood := { row := splitKnownUptoRow, standIns := [], harness := (true, "5b168cadf11174a3dc988e8f0df3cfaec0af7b82af926af9ab9c941d5649f950"), looks := true }, kinds := [], alts := [], laidByText := true, laidKinds := [.data, .data, .data, .data, .sentinel, .sentinel, .pinned], laidTests := true, laidLooks := .later }
def SplitKnownUptoCardSaid : Prop := Claim7.holds Tryz.pinned (.plain (OpenSpec.upto splitKnownSpec)) splitKnownUptoCard

/-- THE SECOND FORM's CARD OF 'cubitlaw17.SplitOne'. -/
def splitOneUptoCard : Claim7 := { stood := { row := splitOneUptoRow, standIns := [], harness := (true, "5b168cadf11174a3dc988e8f0df3cfaec0af7b82af926af9ab9c941d5649f950"), looks := true }, kinds := [], alts := [], laidByText := true, laidKinds := [.data, .data, .data, .data, .sentinel, .sentinel, .pinned], laidTests := true, laidLooks := .later }
def SplitOneUptoCardSaid : Prop := Claim7.holds Tryz.pinned (.plain (OpenSpec.upto splitOneSpec)) splitOneUptoCard
end Rows
end Go.Proofs.YtphmddmboankhaaGreatDoor

/-
  DERIVED. GIVEN WITH THE SEED: THE CARDS: each row of YtnlldmaaiegihaaGreatDoorRows.lean that lists a variable, with what it lists TIED to the program's text (the seventh form; the later family's looks); each row that meets fmt, with fmt's text TOLD by the authors' own Lean function (tested against real Go, not proved from fmt's source: count such statements apart). THE CARD IS WHAT COUNTS. Prove the row's statement (the work); the ties are given (YtnlldmaaiegihaaGreatDoorTie.lean); close each card by the builder's one call (the guide's Derived/Test/ToyasCard.lean, 'card_holds'). Laid BY PROGRAM, IN A SANDBOX (cutbox-door.mjs). By AI agents, Wed Nov 11 2026. No macro, syntax, notation, axiom, sorry.
-/
import Derived.Test.YtnlldmaaiegihaaGreatDoorRows
import GoSem.ClaimSeven
namespace Go.Proofs.YtnlldmaaiegihaaGreatDoor
namespace Rows

/-- THE TIED CARD OF 'cubitlaw11.TableTwice'. -/
def tableTwiceCard : Claim7 := { stood := { row := tableTwiceRow, standIns := [], harness := (true, "a25d2b01880f3403dddc90d78cb573d7483dca8fa071f591e785c3f71f72097f"), looks := true }, kinds := [], alts := [], laidByText := true, laidKinds := [.data, .data, .data, .data, .sentinel, .sentinel, .pinned], laidTests := true, laidLooks := .later }
def TableTwiceCardSaid : Prop := Claim7.holds Tryz.pinned (.plain (OpenSpec.ofChange tableTwiceSpec)) tableTwiceCard

/-- THE TIED CARD OF 'cubitlaw11.TableAlias'. -/
def tableAliasCard : Claim7 := { stood := { row := tableAliasRow, standIns := [], harness := (true, "a25d2b01880f3403dddc90d78cb573d7483dca8fa071f591e785c3f71f72097f"), looks := true }, kinds := [], alts := [], laidByText := true, laidKinds := [.data, .data, .data, .data, .sentinel, .sentinel, .pinned], laidTests := true, laidLooks := .later }
def TableAliasCardSaid : Prop := Claim7.holds Tryz.pinned (.plain (OpenSpec.ofChange tableAliasSpec)) tableAliasCard

/-- THE TIED CARD OF 'cubitlaw11.TableKnown'. -/
def tableKnownCard : Claim7 := { stood := { row := tableKnownRow, standIns := [], harness := (true, "a25d2b01880f3403dddc90d78cb573d7483dca8fa071f591e785c3f71f72097f"), looks := true }, kinds := [], alts := [], laidByText := true, laidKinds := [.data, .data, .data, .data, .sentinel, .sentinel, .pinned], laidTests := true, laidLooks := .later }
def TableKnownCardSaid : Prop := Claim7.holds Tryz.pinned (.plain (OpenSpec.ofChange tableKnownSpec)) tableKnownCard

/-- THE SECOND FORM's CARD OF 'cubitlaw11.TableTwice'. -/
def tableTwiceUptoCard : Claim7 := { stood := { row := tableTwiceUptoRow, standIns := [], harness := (true, "a25d2b01880f3403dddc90d78cb573d7483dca8fa071f591e785c3f71f72097f"), looks := true }, kinds := [], alts := [], laidByText := true, laidKinds := [.data, .data, .data, .data, .sentinel, .sentinel, .pinned], laidTests := true, laidLooks := .later }
def TableTwiceUptoCardSaid : Prop := Claim7.holds Tryz.pinned (.plain (OpenSpec.upto tableTwiceSpec)) tableTwiceUptoCard

/-- THE SECOND FORM's CARD OF 'cubitlaw11.TableAlias'. -/
def tableAliasUptoCard : Claim7 := { stood := { row := tableAliasUptoRow, standIns := [], harness := (true, "a25d2b01880f3403dddc90d78cb573d7483dca8fa071f591e785c3f71f72097f"), looks := true }, kinds := [], alts := [], laidByText := true, laidKinds := [.data, .data, .data, .data, .sentinel, .sentinel, .pinned], laidTests := true, laidLooks := .later }
def TableAliasUptoCardSaid : Prop := Claim7.holds Tryz.pinned (.plain (OpenSpec.upto tableAliasSpec)) tableAliasUptoCard

/-- THE SECOND FORM's CARD OF 'cubitlaw11.TableKnown'. -/
def tableKnownUptoCard : Claim7 := { stood := { row := tableKnownUptoRow, standIns := [], harness := (true, "a25d2b01880f3403dddc90d78cb573d7483dca8fa071f591e785c3f71f72097f"), looks := true }, kinds := [], alts := [], laidByText := true, laidKinds := [.data, .data, .data, .data, .sentinel, .sentinel, .pinned], laidTests := true, laidLooks := .later }
def TableKnownUptoCardSaid : Prop := Claim7.holds Tryz.pinned (.plain (OpenSpec.upto tableKnownSpec)) tableKnownUptoCard
end Rows
end Go.Proofs.YtnlldmaaiegihaaGreatDoor

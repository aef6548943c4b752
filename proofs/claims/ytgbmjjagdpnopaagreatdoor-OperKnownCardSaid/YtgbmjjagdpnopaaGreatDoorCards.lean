/-
  DERIVED. GIVEN WITH THE SEED: THE CARDS: each row of YtgbmjjagdpnopaaGreatDoorRows.lean that lists a variable, with what it lists TIED to the program's text (the seventh form; the later family's looks); each row that meets fmt, with fmt's text TOLD by the authors' own Lean function (tested against real Go, not proved from fmt's source: count such statements apart). THE CARD IS WHAT COUNTS. Prove the row's statement (the work); the ties are given (YtgbmjjagdpnopaaGreatDoorTie.lean); close each card by the builder's one call (the guide's Derived/Test/ToyasCard.lean, 'card_holds'). Laid BY PROGRAM, IN A SANDBOX (cutbox-door.mjs). By AI agents, Wed Nov 11 2026. No macro, syntax, notation, axiom, sorry.
-/
import Derived.Test.YtgbmjjagdpnopaaGreatDoorRows
import GoSem.ClaimSeven
namespace Go.Proofs.YtgbmjjagdpnopaaGreatDoor
namespace Rows

/-- THE TIED CARD OF 'cubitlaw18.OperKnown'. -/
def operKnownCard : Claim7 := { stood := { row := operKnownRow, standIns := [], harness := (true, "2a16ab5024798f9ab825ef6bb3d9ac6dcc35bda773b6be6455331ba04111c7e5"), looks := true }, kinds := [], alts := [], laidByText := true, laidKinds := [.data, .data, .data, .data, .sentinel, .sentinel, .pinned], laidTests := true, laidLooks := .later }
def OperKnownCardSaid : Prop := Claim7.holds Tryz.pinned (.plain (OpenSpec.ofChange operKnownSpec)) operKnownCard

/-- THE TIED CARD OF 'cubitlaw18.OperSays'. -/
def operSaysCard : Claim7 := { stood := { row := operSaysRow, standIns := [], harness := (true, "2a16ab5024798f9ab825ef6bb3d9ac6dcc35bda773b6be6455331ba04111c7e5"), looks := true }, kinds := [], alts := [], laidByText := true, laidKinds := [.data, .data, .data, .data, .sentinel, .sentinel, .pinned], laidTests := true, laidLooks := .later }
def OperSaysCardSaid : Prop := Claim7.holds Tryz.pinned (.plain (OpenSpec.ofChange operSaysSpec)) operSaysCard

/-- THE TIED CARD OF 'cubitlaw4.DecBack'. -/
def decBackCard : Claim7 := { stood := { row := decBackRow, standIns := [], harness := (true, "2a16ab5024798f9ab825ef6bb3d9ac6dcc35bda773b6be6455331ba04111c7e5"), looks := true }, kinds := [], alts := [], laidByText := true, laidKinds := [.data, .data, .data, .data, .sentinel, .sentinel, .pinned], laidTests := true, laidLooks := .later }
def DecBackCardSaid : Prop := Claim7.holds Tryz.pinned (.plain (OpenSpec.ofChange decBackSpec)) decBackCard

/-- THE TIED CARD OF 'cubitlaw18.OperSums'. -/
def operSumsCard : Claim7 := { stood := { row := operSumsRow, standIns := [], harness := (true, "2a16ab5024798f9ab825ef6bb3d9ac6dcc35bda773b6be6455331ba04111c7e5"), looks := true }, kinds := [], alts := [], laidByText := true, laidKinds := [.data, .data, .data, .data, .sentinel, .sentinel, .pinned], laidTests := true, laidLooks := .later }
def OperSumsCardSaid : Prop := Claim7.holds Tryz.pinned (.plain (OpenSpec.ofChange operSumsSpec)) operSumsCard

/-- THE TIED CARD OF 'cubitlaw18.OperWhole'. -/
def operWholeCard : Claim7 := { stood := { row := operWholeRow, standIns := [], harness := (true, "2a16ab5024798f9ab825ef6bb3d9ac6dcc35bda773b6be6455331ba04111c7e5"), looks := true }, kinds := [], alts := [], laidByText := true, laidKinds := [.data, .data, .data, .data, .sentinel, .sentinel, .pinned], laidTests := true, laidLooks := .later }
def OperWholeCardSaid : Prop := Claim7.holds Tryz.pinned (.plain (OpenSpec.ofChange operWholeSpec)) operWholeCard

/-- THE SECOND FORM's CARD OF 'cubitlaw18.OperKnown'. -/
def operKnownUptoCard : Claim7 := { stood := { row := operKnownUptoRow, standIns := [], harness := (true, "2a16ab5024798f9ab825ef6bb3d9ac6dcc35bda773b6be6455331ba04111c7e5"), looks := true }, kinds := [], alts := [], laidByText := true, laidKinds := [.data, .data, .data, .data, .sentinel, .sentinel, .pinned], laidTests := true, laidLooks := .later }
def OperKnownUptoCardSaid : Prop := Claim7.holds Tryz.pinned (.plain (OpenSpec.upto operKnownSpec)) operKnownUptoCard

/-- THE SECOND FORM's CARD OF 'cubitlaw18.OperSays'. -/
def operSaysUptoCard : Claim7 := { stood := { row := operSaysUptoRow, standIns := [], harness := (true, "2a16ab5024798f9ab825ef6bb3d9ac6dcc35bda773b6be6455331ba04111c7e5"), looks := true }, kinds := [], alts := [], laidByText := true, laidKinds := [.data, .data, .data, .data, .sentinel, .sentinel, .pinned], laidTests := true, laidLooks := .later }
def OperSaysUptoCardSaid : Prop := Claim7.holds Tryz.pinned (.plain (OpenSpec.upto operSaysSpec)) operSaysUptoCard

/-- THE SECOND FORM's CARD OF 'cubitlaw4.DecBack'. -/
def decBackUptoCard : Claim7 := { stood := { row := decBackUptoRow, standIns := [], harness := (true, "2a16ab5024798f9ab825ef6bb3d9ac6dcc35bda773b6be6455331ba04111c7e5"), looks := true }, kinds := [], alts := [], laidByText := true, laidKinds := [.data, .data, .data, .data, .sentinel, .sentinel, .pinned], laidTests := true, laidLooks := .later }
def DecBackUptoCardSaid : Prop := Claim7.holds Tryz.pinned (.plain (OpenSpec.upto decBackSpec)) decBackUptoCard

/-- THE SECOND FORM's CARD OF 'cubitlaw18.OperSums'. -/
def operSumsUptoCard : Claim7 := { stood := { row := operSumsUptoRow, standIns := [], harness := (true, "2a16ab5024798f9ab825ef6bb3d9ac6dcc35bda773b6be6455331ba04111c7e5"), looks := true }, kinds := [], alts := [], laidByText := true, laidKinds := [.data, .data, .data, .data, .sentinel, .sentinel, .pinned], laidTests := true, laidLooks := .later }
def OperSumsUptoCardSaid : Prop := Claim7.holds Tryz.pinned (.plain (OpenSpec.upto operSumsSpec)) operSumsUptoCard

/-- THE SECOND FORM's CARD OF 'cubitlaw18.OperWhole'. -/
def operWholeUptoCard : Claim7 := { stood := { row := operWholeUptoRow, standIns := [], harness := (true, "2a16ab5024798f9ab825ef6bb3d9ac6dcc35bda773b6be6455331ba04111c7e5"), looks := true }, kinds := [], alts := [], laidByText := true, laidKinds := [.data, .data, .data, .data, .sentinel, .sentinel, .pinned], laidTests := true, laidLooks := .later }
def OperWholeUptoCardSaid : Prop := Claim7.holds Tryz.pinned (.plain (OpenSpec.upto operWholeSpec)) operWholeUptoCard
end Rows
end Go.Proofs.YtgbmjjagdpnopaaGreatDoor

/-
  DERIVED. GIVEN WITH THE SEED: THE CARDS: each row of YtnlhbkaieoogfaaGreatDoorRows.lean that lists a variable, with what it lists TIED to the program's text (the seventh form; the later family's looks); each row that meets fmt, with fmt's text TOLD by the authors' own Lean function (tested against real Go, not proved from fmt's source: count such statements apart). THE CARD IS WHAT COUNTS. Prove the row's statement (the work); the ties are given (YtnlhbkaieoogfaaGreatDoorTie.lean); close each card by the builder's one call (the guide's Derived/Test/ToyasCard.lean, 'card_holds'). Laid BY PROGRAM, IN A SANDBOX (cutbox-door.mjs). By AI agents, Wed Nov 11 2026. No macro, syntax, notation, axiom, sorry.
-/
import Derived.Test.YtnlhbkaieoogfaaGreatDoorRows
import GoSem.ClaimSeven
namespace Go.Proofs.YtnlhbkaieoogfaaGreatDoor
namespace Rows

/-- THE TIED CARD OF 'ropewalklaw18.WireForms'. -/
def wireFormsCard : Claim7 := { stood := { row := wireFormsRow, standIns := [], harness := (true, "364a9b393f59e3b51f87c3889f5ffb9d9dd121e6a5d71a689a9faa0a97c85034"), looks := false }, kinds := [], alts := [], laidByText := true, laidKinds := [.data, .pinned], laidTests := true, laidLooks := .later }
def WireFormsCardSaid : Prop := Claim7.holds Tryz.pinned (.plain (OpenSpec.ofChange wireFormsSpec)) wireFormsCard

/-- THE TIED CARD OF 'ropewalklaw18.WireTexts'. -/
def wireTextsCard : Claim7 := { stood := { row := wireTextsRow, standIns := [], harness := (true, "364a9b393f59e3b51f87c3889f5ffb9d9dd121e6a5d71a689a9faa0a97c85034"), looks := false }, kinds := [], alts := [], laidByText := true, laidKinds := [.data, .pinned], laidTests := true, laidLooks := .later }
def WireTextsCardSaid : Prop := Claim7.holds Tryz.pinned (.plain (OpenSpec.ofChange wireTextsSpec)) wireTextsCard

/-- THE SECOND FORM's CARD OF 'ropewalklaw18.WireForms'. -/
def wireFormsUptoCard : Claim7 := { stood := { row := wireFormsUptoRow, standIns := [], harness := (true, "364a9b393f59e3b51f87c3889f5ffb9d9dd121e6a5d71a689a9faa0a97c85034"), looks := false }, kinds := [], alts := [], laidByText := true, laidKinds := [.data, .pinned], laidTests := true, laidLooks := .later }
def WireFormsUptoCardSaid : Prop := Claim7.holds Tryz.pinned (.plain (OpenSpec.upto wireFormsSpec)) wireFormsUptoCard

/-- THE SECOND FORM's CARD OF 'ropewalklaw18.WireTexts'. -/
def wireTextsUptoCard : Claim7 := { stood := { row := wireTextsUptoRow, standIns := [], harness := (true, "364a9b393f59e3b51f87c3889f5ffb9d9dd121e6a5d71a689a9faa0a97c85034"), looks := false }, kinds := [], alts := [], laidByText := true, laidKinds := [.data, .pinned], laidTests := true, laidLooks := .later }
def WireTextsUptoCardSaid : Prop := Claim7.holds Tryz.pinned (.plain (OpenSpec.upto wireTextsSpec)) wireTextsUptoCard
end Rows
end Go.Proofs.YtnlhbkaieoogfaaGreatDoor

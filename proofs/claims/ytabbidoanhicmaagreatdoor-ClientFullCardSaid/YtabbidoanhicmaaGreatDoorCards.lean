/-
  DERIVED. GIVEN WITH THE SEED: THE CARDS: each row of YtabbidoanhicmaaGreatDoorRows.lean that lists a variable, with what it lists TIED to the program's text (the seventh form; the later family's looks); each row that meets fmt, with fmt's text TOLD by the authors' own Lean function (tested against real Go, not proved from fmt's source: count such statements apart). THE CARD IS WHAT COUNTS. Prove the row's statement (the work); the ties are given (YtabbidoanhicmaaGreatDoorTie.lean); close each card by the builder's one call (the guide's Derived/Test/ToyasCard.lean, 'card_holds'). Laid BY PROGRAM, IN A SANDBOX (cutbox-door.mjs). By AI agents, Wed Nov 11 2026. No macro, syntax, notation, axiom, sorry.
-/
import Derived.Test.YtabbidoanhicmaaGreatDoorRows
import GoSem.ClaimSeven
namespace Go.Proofs.YtabbidoanhicmaaGreatDoor
namespace Rows

/-- THE TIED CARD OF 'ropewalklaw23.ClientFull'. -/
def clientFullCard : Claim7 := { stood := { row := clientFullRow, standIns := [], harness := (true, "33d0cee3a632678c2c908be8a7802faff167d3e9686b3d18acf96fcd60f4a9ca"), looks := true }, kinds := [], alts := [], laidByText := true, laidKinds := [.data, .pinned], laidTests := true, laidLooks := .later }
def ClientFullCardSaid : Prop := Claim7.holds Tryz.pinned (.plain (OpenSpec.ofChange clientFullSpec)) clientFullCard

/-- THE SECOND FORM's CARD OF 'ropewalklaw23.ClientFull'. -/
def clientFullUptoCard : Claim7 := { stood := { row := clientFullUptoRow, standIns := [], harness := (true, "33d0cee3a632678c2c908be8a7802faff167d3e9686b3d18acf96fcd60f4a9ca"), looks := true }, kinds := [], alts := [], laidByText := true, laidKinds := [.data, .pinned], laidTests := true, laidLooks := .later }
def ClientFullUptoCardSaid : Prop := Claim7.holds Tryz.pinned (.plain (OpenSpec.upto clientFullSpec)) clientFullUptoCard
end Rows
end Go.Proofs.YtabbidoanhicmaaGreatDoor

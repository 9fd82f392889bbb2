/-
  DERIVED. GIVEN WITH THE SEED: THE CARDS: each row of YtkbbnpjbjakpcaaGreatDoorRows.lean that lists a variable, with what it lists TIED to the program's text (the seventh form; the later family's looks); each row that meets fmt, with fmt's text TOLD by the authors' own Lean function (tested against real Go, not proved from fmt's source: count such statements apart). THE CARD IS WHAT COUNTS. Prove the row's statement (the work); the ties are given (YtkbbnpjbjakpcaaGreatDoorTie.lean); close each card by the builder's one call (the guide's Derived/Test/ToyasCard.lean, 'card_holds'). Laid BY PROGRAM, IN A SANDBOX (cutbox-door.mjs). By AI agents, Wed Nov 11 2026. No macro, syntax, notation, axiom, sorry.
-/
import Derived.Test.YtkbbnpjbjakpcaaGreatDoorRows
import GoSem.ClaimSeven
namespace Go.Proofs.YtkbbnpjbjakpcaaGreatDoor
namespace Rows

/-- THE TIED CARD OF 'ropewalklaw23.ClientSends'. -/
def clientSendsCard : Claim7 := { stood := { row := clientSendsRow, standIns := [], harness := (true, "bbfb995994a1d45ae35d268a2472903881a249c372668a0ac91f5131d6000867"), looks := true }, kinds := [], alts := [], laidByText := true, laidKinds := [.data, .pinned], laidTests := true, laidLooks := .later }
def ClientSendsCardSaid : Prop := Claim7.holds Tryz.pinned (.plain (OpenSpec.ofChange clientSendsSpec)) clientSendsCard

/-- THE TIED CARD OF 'ropewalklaw23.ClientSnapshot'. -/
def clientSnapshotCard : Claim7 := { stood := { row := clientSnapshotRow, standIns := [], harness := (true, "bbfb995994a1d45ae35d268a2472903881a249c372668a0ac91f5131d6000867"), looks := true }, kinds := [], alts := [], laidByText := true, laidKinds := [.data, .pinned], laidTests := true, laidLooks := .later }
def ClientSnapshotCardSaid : Prop := Claim7.holds Tryz.pinned (.plain (OpenSpec.ofChange clientSnapshotSpec)) clientSnapshotCard

/-- THE SECOND FORM's CARD OF 'ropewalklaw23.ClientSends'. -/
def clientSendsUptoCard : Claim7 := { stood := { row := clientSendsUptoRow, standIns := [], harness := (true, "bbfb995994a1d45ae35d268a2472903881a249c372668a0ac91f5131d6000867"), looks := true }, kinds := [], alts := [], laidByText := true, laidKinds := [.data, .pinned], laidTests := true, laidLooks := .later }
def ClientSendsUptoCardSaid : Prop := Claim7.holds Tryz.pinned (.plain (OpenSpec.upto clientSendsSpec)) clientSendsUptoCard

/-- THE SECOND FORM's CARD OF 'ropewalklaw23.ClientSnapshot'. -/
def clientSnapshotUptoCard : Claim7 := { stood := { row := clientSnapshotUptoRow, standIns := [], harness := (true, "bbfb995994a1d45ae35d268a2472903881a249c372668a0ac91f5131d6000867"), looks := true }, kinds := [], alts := [], laidByText := true, laidKinds := [.data, .pinned], laidTests := true, laidLooks := .later }
def ClientSnapshotUptoCardSaid : Prop := Claim7.holds Tryz.pinned (.plain (OpenSpec.upto clientSnapshotSpec)) clientSnapshotUptoCard
end Rows
end Go.Proofs.YtkbbnpjbjakpcaaGreatDoor

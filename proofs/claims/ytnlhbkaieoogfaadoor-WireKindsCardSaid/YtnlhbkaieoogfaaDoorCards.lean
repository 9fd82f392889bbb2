/-
  DERIVED. GIVEN WITH THE SEED: THE CARDS: each row of YtnlhbkaieoogfaaDoorRows.lean that lists a variable, with what it lists TIED to the program's text (the seventh form; the later family's looks); each row that meets fmt, with fmt's text TOLD by the authors' own Lean function (tested against real Go, not proved from fmt's source: count such statements apart). THE CARD IS WHAT COUNTS. Prove the row's statement (the work); the ties are given (YtnlhbkaieoogfaaDoorTie.lean); close each card by the builder's one call (the guide's Derived/Test/ToyasCard.lean, 'card_holds'). Laid BY PROGRAM, IN A SANDBOX (cutbox-door.mjs). By AI agents, Wed Nov 11 2026. No macro, syntax, notation, axiom, sorry.
-/
import Derived.Test.YtnlhbkaieoogfaaDoorRows
import GoSem.ClaimSeven
namespace Go.Proofs.YtnlhbkaieoogfaaDoor
namespace Rows

/-- THE TIED CARD OF 'ropewalklaw18.WireBack'. -/
def wireBackCard : Claim7 := { stood := { row := wireBackRow, standIns := [], harness := (true, "e4bc568cf593c68cc60f5729f24037735d7369eb77f7cc830ee1e2f7f47ade81"), looks := false }, kinds := [], alts := [], laidByText := true, laidKinds := [.data, .pinned], laidTests := true, laidLooks := .later }
def WireBackCardSaid : Prop := Claim7.holds Tryd.pinned (.plain (OpenSpec.ofChange wireBackSpec)) wireBackCard

/-- THE TIED CARD OF 'ropewalklaw18.WireLimits'. -/
def wireLimitsCard : Claim7 := { stood := { row := wireLimitsRow, standIns := [], harness := (true, "e4bc568cf593c68cc60f5729f24037735d7369eb77f7cc830ee1e2f7f47ade81"), looks := false }, kinds := [], alts := [], laidByText := true, laidKinds := [.data, .pinned], laidTests := true, laidLooks := .later }
def WireLimitsCardSaid : Prop := Claim7.holds Tryd.pinned (.plain (OpenSpec.ofChange wireLimitsSpec)) wireLimitsCard

/-- THE TIED CARD OF 'ropewalklaw18.WireKinds'. -/
def wireKindsCard : Claim7 := { stood := { row := wireKindsRow, standIns := [], harness := (true, "e4bc568cf593c68cc60f5729f24037735d7369eb77f7cc830ee1e2f7f47ade81"), looks := false }, kinds := [], alts := [], laidByText := true, laidKinds := [.data, .pinned], laidTests := true, laidLooks := .later }
def WireKindsCardSaid : Prop := Claim7.holds Tryd.pinned (.plain (OpenSpec.ofChange wireKindsSpec)) wireKindsCard

/-- THE SECOND FORM's CARD OF 'ropewalklaw18.WireBack'. -/
def wireBackUptoCard : Claim7 := { stood := { row := wireBackUptoRow, standIns := [], harness := (true, "e4bc568cf593c68cc60f5729f24037735d7369eb77f7cc830ee1e2f7f47ade81"), looks := false }, kinds := [], alts := [], laidByText := true, laidKinds := [.data, .pinned], laidTests := true, laidLooks := .later }
def WireBackUptoCardSaid : Prop := Claim7.holds Tryd.pinned (.plain (OpenSpec.upto wireBackSpec)) wireBackUptoCard

/-- THE SECOND FORM's CARD OF 'ropewalklaw18.WireLimits'. -/
def wireLimitsUptoCard : Claim7 := { stood := { row := wireLimitsUptoRow, standIns := [], harness := (true, "e4bc568cf593c68cc60f5729f24037735d7369eb77f7cc830ee1e2f7f47ade81"), looks := false }, kinds := [], alts := [], laidByText := true, laidKinds := [.data, .pinned], laidTests := true, laidLooks := .later }
def WireLimitsUptoCardSaid : Prop := Claim7.holds Tryd.pinned (.plain (OpenSpec.upto wireLimitsSpec)) wireLimitsUptoCard

/-- THE SECOND FORM's CARD OF 'ropewalklaw18.WireKinds'. -/
def wireKindsUptoCard : Claim7 := { stood := { row := wireKindsUptoRow, standIns := [], harness := (true, "e4bc568cf593c68cc60f5729f24037735d7369eb77f7cc830ee1e2f7f47ade81"), looks := false }, kinds := [], alts := [], laidByText := true, laidKinds := [.data, .pinned], laidTests := true, laidLooks := .later }
def WireKindsUptoCardSaid : Prop := Claim7.holds Tryd.pinned (.plain (OpenSpec.upto wireKindsSpec)) wireKindsUptoCard
end Rows
end Go.Proofs.YtnlhbkaieoogfaaDoor

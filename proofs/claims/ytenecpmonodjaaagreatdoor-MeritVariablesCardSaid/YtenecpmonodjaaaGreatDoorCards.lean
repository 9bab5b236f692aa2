/-
  DERIVED. GIVEN WITH THE SEED: THE CARDS: each row of YtenecpmonodjaaaGreatDoorRows.lean that lists a variable, with what it lists TIED to the program's text (the seventh form; the later family's looks); each row that meets fmt, with fmt's text TOLD by the authors' own Lean function (tested against real Go, not proved from fmt's source: count such statements apart). THE CARD IS WHAT COUNTS. Prove the row's statement (the work); the ties are given (YtenecpmonodjaaaGreatDoorTie.lean); close each card by the builder's one call (the guide's Derived/Test/ToyasCard.lean, 'card_holds'). Laid BY PROGRAM, IN A SANDBOX (cutbox-door.mjs). By AI agents, Wed Nov 11 2026. No macro, syntax, notation, axiom, sorry.
-/
import Derived.Test.YtenecpmonodjaaaGreatDoorRows
import GoSem.ClaimSeven
namespace Go.Proofs.YtenecpmonodjaaaGreatDoor
namespace Rows

/-- THE TIED CARD OF 'observatorylaw23.MeritMatchesReference'. -/
def meritMatchesReferenceCard : Claim7 := { stood := { row := meritMatchesReferenceRow, standIns := [], harness := (true, "9a89f14fc412d98f3b9cfdcb08a91be18c68bc4e4cf1956e2852d09ea96a59b1"), looks := true }, kinds := [], alts := [], laidByText := true, laidKinds := [.data, .data, .data, .sentinel, .sentinel], laidTests := true, laidLooks := .later }
def MeritMatchesReferenceCardSaid : Prop := Claim7.holds Tryz.pinned (.plain (OpenSpec.ofChange meritMatchesReferenceSpec)) meritMatchesReferenceCard

/-- THE TIED CARD OF 'observatorylaw23.MeritBounds'. -/
def meritBoundsCard : Claim7 := { stood := { row := meritBoundsRow, standIns := [], harness := (true, "9a89f14fc412d98f3b9cfdcb08a91be18c68bc4e4cf1956e2852d09ea96a59b1"), looks := true }, kinds := [], alts := [], laidByText := true, laidKinds := [.data, .data, .data, .sentinel, .sentinel], laidTests := true, laidLooks := .later }
def MeritBoundsCardSaid : Prop := Claim7.holds Tryz.pinned (.plain (OpenSpec.ofChange meritBoundsSpec)) meritBoundsCard

/-- THE TIED CARD OF 'observatorylaw23.MeritVariables'. -/
def meritVariablesCard : Claim7 := { stood := { row := meritVariablesRow, standIns := [], harness := (true, "9a89f14fc412d98f3b9cfdcb08a91be18c68bc4e4cf1956e2852d09ea96a59b1"), looks := true }, kinds := [], alts := [], laidByText := true, laidKinds := [.data, .data, .data, .sentinel, .sentinel], laidTests := true, laidLooks := .later }
def MeritVariablesCardSaid : Prop := Claim7.holds Tryz.pinned (.plain (OpenSpec.ofChange meritVariablesSpec)) meritVariablesCard

/-- THE SECOND FORM's CARD OF 'observatorylaw23.MeritMatchesReference'. -/
def meritMatchesReferenceUptoCard : Claim7 := { stood := { row := meritMatchesReferenceUptoRow, standIns := [], harness := (true, "9a89f14fc412d98f3b9cfdcb08a91be18c68bc4e4cf1956e2852d09ea96a59b1"), looks := true }, kinds := [], alts := [], laidByText := true, laidKinds := [.data, .data, .data, .sentinel, .sentinel], laidTests := true, laidLooks := .later }
def MeritMatchesReferenceUptoCardSaid : Prop := Claim7.holds Tryz.pinned (.plain (OpenSpec.upto meritMatchesReferenceSpec)) meritMatchesReferenceUptoCard

/-- THE SECOND FORM's CARD OF 'observatorylaw23.MeritBounds'. -/
def meritBoundsUptoCard : Claim7 := { stood := { row := meritBoundsUptoRow, standIns := [], harness := (true, "9a89f14fc412d98f3b9cfdcb08a91be18c68bc4e4cf1956e2852d09ea96a59b1"), looks := true }, kinds := [], alts := [], laidByText := true, laidKinds := [.data, .data, .data, .sentinel, .sentinel], laidTests := true, laidLooks := .later }
def MeritBoundsUptoCardSaid : Prop := Claim7.holds Tryz.pinned (.plain (OpenSpec.upto meritBoundsSpec)) meritBoundsUptoCard

/-- THE SECOND FORM's CARD OF 'observatorylaw23.MeritVariables'. -/
def meritVariablesUptoCard : Claim7 := { stood := { row := meritVariablesUptoRow, standIns := [], harness := (true, "9a89f14fc412d98f3b9cfdcb08a91be18c68bc4e4cf1956e2852d09ea96a59b1"), looks := true }, kinds := [], alts := [], laidByText := true, laidKinds := [.data, .data, .data, .sentinel, .sentinel], laidTests := true, laidLooks := .later }
def MeritVariablesUptoCardSaid : Prop := Claim7.holds Tryz.pinned (.plain (OpenSpec.upto meritVariablesSpec)) meritVariablesUptoCard
end Rows
end Go.Proofs.YtenecpmonodjaaaGreatDoor

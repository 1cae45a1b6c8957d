/-
  DERIVED. GIVEN WITH THE SEED: THE CARDS: each row of YtdkmenianpdoiaaGreatDoorRows.lean that lists a variable, with what it lists TIED to the program's text (the seventh form; the later family's looks); each row that meets fmt, with fmt's text TOLD by the authors' own Lean function (tested against real Go, not proved from fmt's source: count such statements apart). THE CARD IS WHAT COUNTS. Prove the row's statement (the work); the ties are given (YtdkmenianpdoiaaGreatDoorTie.lean); close each card by the builder's one call (the guide's Derived/Test/ToyasCard.lean, 'card_holds'). Laid BY PROGRAM, IN A SANDBOX (cutbox-door.mjs). By AI agents, Wed Nov 11 2026. No macro, syntax, notation, axiom, sorry.
-/
import Derived.Test.YtdkmenianpdoiaaGreatDoorRows
import GoSem.ClaimSeven
namespace Go.Proofs.YtdkmenianpdoiaaGreatDoor
namespace Rows

/-- THE TIED CARD OF 'pentimentolaw22.ImageKnown'. -/
def imageKnownCard : Claim7 := { stood := { row := imageKnownRow, standIns := [], harness := (true, "c634568bd84961c146f99ed000f52bb47f28fc4e800842d592fb1829ef12f957"), looks := true }, kinds := [], alts := [], laidByText := true, laidKinds := [.data, .pinned], laidTests := true, laidLooks := .later }
def ImageKnownCardSaid : Prop := Claim7.holds Tryz.pinned (.plain (OpenSpec.ofChange imageKnownSpec)) imageKnownCard

/-- THE SECOND FORM's CARD OF 'pentimentolaw22.ImageKnown'. -/
def imageKnownUptoCard : Claim7 := { stood := { row := imageKnownUptoRow, standIns := [], harness := (true, "c634568bd84961c146f99ed000f52bb47f28fc4e800842d592fb1829ef12f957"), looks := true }, kinds := [], alts := [], laidByText := true, laidKinds := [.data, .pinned], laidTests := true, laidLooks := .later }
def ImageKnownUptoCardSaid : Prop := Claim7.holds Tryz.pinned (.plain (OpenSpec.upto imageKnownSpec)) imageKnownUptoCard
end Rows
end Go.Proofs.YtdkmenianpdoiaaGreatDoor

/-
  DERIVED. GIVEN WITH THE SEED: THE CARDS: each row of YtopjnbmggagloaaGreatDoorRows.lean that lists a variable, with what it lists TIED to the program's text (the seventh form; the later family's looks); each row that meets fmt, with fmt's text TOLD by the authors' own Lean function (tested against real Go, not proved from fmt's source: count such statements apart). THE CARD IS WHAT COUNTS. Prove the row's statement (the work); the ties are given (YtopjnbmggagloaaGreatDoorTie.lean); close each card by the builder's one call (the guide's Derived/Test/ToyasCard.lean, 'card_holds'). Laid BY PROGRAM, IN A SANDBOX (cutbox-door.mjs). By AI agents, Wed Nov 11 2026. No macro, syntax, notation, axiom, sorry.
-/
import Derived.Test.YtopjnbmggagloaaGreatDoorRows
import GoSem.ClaimSeven
namespace Go.Proofs.YtopjnbmggagloaaGreatDoor
namespace Rows

/-- THE TIED CARD OF 'pentimentolaw23.FsKnown'. -/
def fsKnownCard : Claim7 := { stood := { row := fsKnownRow, standIns := [], harness := (true, "b9cf42a14061542a3081f2284e39fe23d8e0b70f12a3e517d1d391553a997e1f"), looks := true }, kinds := [], alts := [], laidByText := true, laidKinds := [.data, .pinned], laidTests := true, laidLooks := .later }
def FsKnownCardSaid : Prop := Claim7.holds Tryz.pinned (.plain (OpenSpec.ofChange fsKnownSpec)) fsKnownCard

/-- THE SECOND FORM's CARD OF 'pentimentolaw23.FsKnown'. -/
def fsKnownUptoCard : Claim7 := { stood := { row := fsKnownUptoRow, standIns := [], harness := (true, "b9cf42a14061542a3081f2284e39fe23d8e0b70f12a3e517d1d391553a997e1f"), looks := true }, kinds := [], alts := [], laidByText := true, laidKinds := [.data, .pinned], laidTests := true, laidLooks := .later }
def FsKnownUptoCardSaid : Prop := Claim7.holds Tryz.pinned (.plain (OpenSpec.upto fsKnownSpec)) fsKnownUptoCard
end Rows
end Go.Proofs.YtopjnbmggagloaaGreatDoor

/-
  DERIVED. GIVEN WITH THE SEED: THE CARDS: each row of YtppjhnepmolboaaDoorRows.lean that lists a variable, with what it lists TIED to the program's text (the seventh form; the later family's looks); each row that meets fmt, with fmt's text TOLD by the authors' own Lean function (tested against real Go, not proved from fmt's source: count such statements apart). THE CARD IS WHAT COUNTS. Prove the row's statement (the work); the ties are given (YtppjhnepmolboaaDoorTie.lean); close each card by the builder's one call (the guide's Derived/Test/ToyasCard.lean, 'card_holds'). Laid BY PROGRAM, IN A SANDBOX (cutbox-door.mjs). By AI agents, Wed Nov 11 2026. No macro, syntax, notation, axiom, sorry.
-/
import Derived.Test.YtppjhnepmolboaaDoorRows
import GoSem.ClaimSeven
namespace Go.Proofs.YtppjhnepmolboaaDoor
namespace Rows

/-- THE TIED CARD OF 'pentimentolaw2.NumTexts'. -/
def numTextsCard : Claim7 := { stood := { row := numTextsRow, standIns := [], harness := (true, "2133537e21665346ce24aa8e954e7c4527ae82e249f86d197f948e14f32c84b8"), looks := true }, kinds := [], alts := [], laidByText := true, laidKinds := [.data, .data, .data, .sentinel, .sentinel], laidTests := true, laidLooks := .later }
def NumTextsCardSaid : Prop := Claim7.holds Tryd.pinned (.plain (OpenSpec.ofChange numTextsSpec)) numTextsCard

/-- THE TIED CARD OF 'pentimentolaw2.NumOrders'. -/
def numOrdersCard : Claim7 := { stood := { row := numOrdersRow, standIns := [], harness := (true, "2133537e21665346ce24aa8e954e7c4527ae82e249f86d197f948e14f32c84b8"), looks := true }, kinds := [], alts := [], laidByText := true, laidKinds := [.data, .data, .data, .sentinel, .sentinel], laidTests := true, laidLooks := .later }
def NumOrdersCardSaid : Prop := Claim7.holds Tryd.pinned (.plain (OpenSpec.ofChange numOrdersSpec)) numOrdersCard

/-- THE TIED CARD OF 'pentimentolaw2.NumKnown'. -/
def numKnownCard : Claim7 := { stood := { row := numKnownRow, standIns := [], harness := (true, "2133537e21665346ce24aa8e954e7c4527ae82e249f86d197f948e14f32c84b8"), looks := true }, kinds := [], alts := [], laidByText := true, laidKinds := [.data, .data, .data, .sentinel, .sentinel], laidTests := true, laidLooks := .later }
def NumKnownCardSaid : Prop := Claim7.holds Tryd.pinned (.plain (OpenSpec.ofChange numKnownSpec)) numKnownCard

/-- THE SECOND FORM's CARD OF 'pentimentolaw2.NumTexts'. -/
def numTextsUptoCard : Claim7 := { stood := { row := numTextsUptoRow, standIns := [], harness := (true, "2133537e21665346ce24aa8e954e7c4527ae82e249f86d197f948e14f32c84b8"), looks := true }, kinds := [], alts := [], laidByText := true, laidKinds := [.data, .data, .data, .sentinel, .sentinel], laidTests := true, laidLooks := .later }
def NumTextsUptoCardSaid : Prop := Claim7.holds Tryd.pinned (.plain (OpenSpec.upto numTextsSpec)) numTextsUptoCard

/-- THE SECOND FORM's CARD OF 'pentimentolaw2.NumOrders'. -/
def numOrdersUptoCard : Claim7 := { stood := { row := numOrdersUptoRow, standIns := [], harness := (true, "2133537e21665346ce24aa8e954e7c4527ae82e249f86d197f948e14f32c84b8"), looks := true }, kinds := [], alts := [], laidByText := true, laidKinds := [.data, .data, .data, .sentinel, .sentinel], laidTests := true, laidLooks := .later }
def NumOrdersUptoCardSaid : Prop := Claim7.holds Tryd.pinned (.plain (OpenSpec.upto numOrdersSpec)) numOrdersUptoCard

/-- THE SECOND FORM's CARD OF 'pentimentolaw2.NumKnown'. -/
def numKnownUptoCard : Claim7 := { stood := { row := numKnownUptoRow, standIns := [], harness := (true, "2133537e21665346ce24aa8e954e7c4527ae82e249f86d197f948e14f32c84b8"), looks := true }, kinds := [], alts := [], laidByText := true, laidKinds := [.data, .data, .data, .sentinel, .sentinel], laidTests := true, laidLooks := .later }
def NumKnownUptoCardSaid : Prop := Claim7.holds Tryd.pinned (.plain (OpenSpec.upto numKnownSpec)) numKnownUptoCard
end Rows
end Go.Proofs.YtppjhnepmolboaaDoor

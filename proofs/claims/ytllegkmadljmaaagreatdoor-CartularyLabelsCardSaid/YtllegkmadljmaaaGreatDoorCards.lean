/-
  DERIVED. GIVEN WITH THE SEED: THE CARDS: each row of YtllegkmadljmaaaGreatDoorRows.lean that lists a variable, with what it lists TIED to the program's text (the seventh form; the later family's looks); each row that meets fmt, with fmt's text TOLD by the authors' own Lean function (tested against real Go, not proved from fmt's source: count such statements apart). THE CARD IS WHAT COUNTS. Prove the row's statement (the work); the ties are given (YtllegkmadljmaaaGreatDoorTie.lean); close each card by the builder's one call (the guide's Derived/Test/ToyasCard.lean, 'card_holds'). Laid BY PROGRAM, IN A SANDBOX (cutbox-door.mjs). By AI agents, Wed Nov 11 2026. No macro, syntax, notation, axiom, sorry.
-/
import Derived.Test.YtllegkmadljmaaaGreatDoorRows
import GoSem.ClaimSeven
namespace Go.Proofs.YtllegkmadljmaaaGreatDoor
namespace Rows

/-- THE TIED CARD OF 'cartularytop.CartularyLabels'. -/
def cartularyLabelsCard : Claim7 := { stood := { row := cartularyLabelsRow, standIns := [], harness := (true, "2f08fc4eda01d7c9ad8efe724a74205f6acb5d5e8fcea40d050df8a18419e03c"), looks := true }, kinds := [], alts := [], laidByText := true, laidKinds := [.data, .data, .data, .data, .sentinel, .sentinel, .pinned], laidTests := true, laidLooks := .later }
def CartularyLabelsCardSaid : Prop := Claim7.holds Tryz.pinned (.plain (OpenSpec.ofChange cartularyLabelsSpec)) cartularyLabelsCard

/-- THE SECOND FORM's CARD OF 'cartularytop.CartularyLabels'. -/
def cartularyLabelsUptoCard : Claim7 := { stood := { row := cartularyLabelsUptoRow, standIns := [], harness := (true, "2f08fc4eda01d7c9ad8efe724a74205f6acb5d5e8fcea40d050df8a18419e03c"), looks := true }, kinds := [], alts := [], laidByText := true, laidKinds := [.data, .data, .data, .data, .sentinel, .sentinel, .pinned], laidTests := true, laidLooks := .later }
def CartularyLabelsUptoCardSaid : Prop := Claim7.holds Tryz.pinned (.plain (OpenSpec.upto cartularyLabelsSpec)) cartularyLabelsUptoCard
end Rows
end Go.Proofs.YtllegkmadljmaaaGreatDoor

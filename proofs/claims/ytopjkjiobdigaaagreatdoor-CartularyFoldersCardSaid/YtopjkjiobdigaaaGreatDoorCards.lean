/-
  DERIVED. GIVEN WITH THE SEED: THE CARDS: each row of YtopjkjiobdigaaaGreatDoorRows.lean that lists a variable, with what it lists TIED to the program's text (the seventh form; the later family's looks); each row that meets fmt, with fmt's text TOLD by the authors' own Lean function (tested against real Go, not proved from fmt's source: count such statements apart). THE CARD IS WHAT COUNTS. Prove the row's statement (the work); the ties are given (YtopjkjiobdigaaaGreatDoorTie.lean); close each card by the builder's one call (the guide's Derived/Test/ToyasCard.lean, 'card_holds'). Laid BY PROGRAM, IN A SANDBOX (cutbox-door.mjs). By AI agents, Wed Nov 11 2026. No macro, syntax, notation, axiom, sorry.
-/
import Derived.Test.YtopjkjiobdigaaaGreatDoorRows
import GoSem.ClaimSeven
namespace Go.Proofs.YtopjkjiobdigaaaGreatDoor
namespace Rows

/-- THE TIED CARD OF 'cartularytop.CartularyFolders'. -/
def cartularyFoldersCard : Claim7 := { stood := { row := cartularyFoldersRow, standIns := [], harness := (true, "8b9285c7afae342476d9246445aae83e71282f3af9f98fdd33d686ae86285250"), looks := true }, kinds := [], alts := [], laidByText := true, laidKinds := [.data, .data, .data, .data, .sentinel, .sentinel, .data, .data, .pinned, .pinned], laidTests := true, laidLooks := .later }
def CartularyFoldersCardSaid : Prop := Claim7.holds Tryz.pinned (.plain (OpenSpec.ofChange cartularyFoldersSpec)) cartularyFoldersCard

/-- THE SECOND FORM's CARD OF 'cartularytop.CartularyFolders'. -/
def cartularyFoldersUptoCard : Claim7 := { stood := { row := cartularyFoldersUptoRow, standIns := [], harness := (true, "8b9285c7afae342476d9246445aae83e71282f3af9f98fdd33d686ae86285250"), looks := true }, kinds := [], alts := [], laidByText := true, laidKinds := [.data, .data, .data, .data, .sentinel, .sentinel, .data, .data, .pinned, .pinned], laidTests := true, laidLooks := .later }
def CartularyFoldersUptoCardSaid : Prop := Claim7.holds Tryz.pinned (.plain (OpenSpec.upto cartularyFoldersSpec)) cartularyFoldersUptoCard
end Rows
end Go.Proofs.YtopjkjiobdigaaaGreatDoor

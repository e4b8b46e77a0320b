/-
  DERIVED. GIVEN WITH THE SEED: THE CARDS: each row of YtlohadencnpdgaaDoorRows.lean that lists a variable, with what it lists TIED to the program's text (the seventh form; the later family's looks); each row that meets fmt, with fmt's text TOLD by the authors' own Lean function (tested against real Go, not proved from fmt's source: count such statements apart). THE CARD IS WHAT COUNTS. Prove the row's statement (the work); the ties are given (YtlohadencnpdgaaDoorTie.lean); close each card by the builder's one call (the guide's Derived/Test/ToyasCard.lean, 'card_holds'). Laid BY PROGRAM, IN A SANDBOX (cutbox-door.mjs). By AI agents, Wed Nov 11 2026. No macro, syntax, notation, axiom, sorry.
-/
import Derived.Test.YtlohadencnpdgaaDoorRows
import GoSem.ClaimSeven
namespace Go.Proofs.YtlohadencnpdgaaDoor
namespace Rows

/-- THE TIED CARD OF 'cartularylaw23.ZipOne'. -/
def zipOneCard : Claim7 := { stood := { row := zipOneRow, standIns := [], harness := (true, "f1dda196c6d496e181b94712ce3de63389bbd96c3189ac6e92dc0a8c668f4aa2"), looks := true }, kinds := [], alts := [], laidByText := true, laidKinds := [.data, .pinned], laidTests := true, laidLooks := .later }
def ZipOneCardSaid : Prop := Claim7.holds Tryd.pinned (.plain (OpenSpec.ofChange zipOneSpec)) zipOneCard

/-- THE TIED CARD OF 'cartularylaw23.ZipSpoils'. -/
def zipSpoilsCard : Claim7 := { stood := { row := zipSpoilsRow, standIns := [], harness := (true, "f1dda196c6d496e181b94712ce3de63389bbd96c3189ac6e92dc0a8c668f4aa2"), looks := true }, kinds := [], alts := [], laidByText := true, laidKinds := [.data, .pinned], laidTests := true, laidLooks := .later }
def ZipSpoilsCardSaid : Prop := Claim7.holds Tryd.pinned (.plain (OpenSpec.ofChange zipSpoilsSpec)) zipSpoilsCard

/-- THE SECOND FORM's CARD OF 'cartularylaw23.ZipOne'. -/
def zipOneUptoCard : Claim7 := { stood := { row := zipOneUptoRow, standIns := [], harness := (true, "f1dda196c6d496e181b94712ce3de63389bbd96c3189ac6e92dc0a8c668f4aa2"), looks := true }, kinds := [], alts := [], laidByText := true, laidKinds := [.data, .pinned], laidTests := true, laidLooks := .later }
def ZipOneUptoCardSaid : Prop := Claim7.holds Tryd.pinned (.plain (OpenSpec.upto zipOneSpec)) zipOneUptoCard

/-- THE SECOND FORM's CARD OF 'cartularylaw23.ZipSpoils'. -/
def zipSpoilsUptoCard : Claim7 := { stood := { row := zipSpoilsUptoRow, standIns := [], harness := (true, "f1dda196c6d496e181b94712ce3de63389bbd96c3189ac6e92dc0a8c668f4aa2"), looks := true }, kinds := [], alts := [], laidByText := true, laidKinds := [.data, .pinned], laidTests := true, laidLooks := .later }
def ZipSpoilsUptoCardSaid : Prop := Claim7.holds Tryd.pinned (.plain (OpenSpec.upto zipSpoilsSpec)) zipSpoilsUptoCard
end Rows
end Go.Proofs.YtlohadencnpdgaaDoor

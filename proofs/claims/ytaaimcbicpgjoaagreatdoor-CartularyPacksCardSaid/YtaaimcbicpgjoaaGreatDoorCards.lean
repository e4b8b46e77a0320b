/-
  DERIVED. GIVEN WITH THE SEED: THE CARDS: each row of YtaaimcbicpgjoaaGreatDoorRows.lean that lists a variable, with what it lists TIED to the program's text (the seventh form; the later family's looks); each row that meets fmt, with fmt's text TOLD by the authors' own Lean function (tested against real Go, not proved from fmt's source: count such statements apart). THE CARD IS WHAT COUNTS. Prove the row's statement (the work); the ties are given (YtaaimcbicpgjoaaGreatDoorTie.lean); close each card by the builder's one call (the guide's Derived/Test/ToyasCard.lean, 'card_holds'). Laid BY PROGRAM, IN A SANDBOX (cutbox-door.mjs). By AI agents, Wed Nov 11 2026. No macro, syntax, notation, axiom, sorry.
-/
import Derived.Test.YtaaimcbicpgjoaaGreatDoorRows
import GoSem.ClaimSeven
namespace Go.Proofs.YtaaimcbicpgjoaaGreatDoor
namespace Rows

/-- THE TIED CARD OF 'cartularytop.CartularyPacks'. -/
def cartularyPacksCard : Claim7 := { stood := { row := cartularyPacksRow, standIns := [], harness := (true, "1fc9396254ab947761bb601f2c217d1123b78a85786e53a52af55e1114cf552c"), looks := true }, kinds := [], alts := [], laidByText := true, laidKinds := [.data, .data, .data], laidTests := true, laidLooks := .later }
def CartularyPacksCardSaid : Prop := Claim7.holds Tryz.pinned (.plain (OpenSpec.ofChange cartularyPacksSpec)) cartularyPacksCard

/-- THE SECOND FORM's CARD OF 'cartularytop.CartularyPacks'. -/
def cartularyPacksUptoCard : Claim7 := { stood := { row := cartularyPacksUptoRow, standIns := [], harness := (true, "1fc9396254ab947761bb601f2c217d1123b78a85786e53a52af55e1114cf552c"), looks := true }, kinds := [], alts := [], laidByText := true, laidKinds := [.data, .data, .data], laidTests := true, laidLooks := .later }
def CartularyPacksUptoCardSaid : Prop := Claim7.holds Tryz.pinned (.plain (OpenSpec.upto cartularyPacksSpec)) cartularyPacksUptoCard
end Rows
end Go.Proofs.YtaaimcbicpgjoaaGreatDoor

/-
  DERIVED. GIVEN WITH THE SEED: THE CARDS: each row of YtcnpekohkbjnnaaGreatDoorRows.lean that lists a variable, with what it lists TIED to the program's text (the seventh form; the later family's looks); each row that meets fmt, with fmt's text TOLD by the authors' own Lean function (tested against real Go, not proved from fmt's source: count such statements apart). THE CARD IS WHAT COUNTS. Prove the row's statement (the work); the ties are given (YtcnpekohkbjnnaaGreatDoorTie.lean); close each card by the builder's one call (the guide's Derived/Test/ToyasCard.lean, 'card_holds'). Laid BY PROGRAM, IN A SANDBOX (cutbox-door.mjs). By AI agents, Wed Nov 11 2026. No macro, syntax, notation, axiom, sorry.
-/
import Derived.Test.YtcnpekohkbjnnaaGreatDoorRows
import GoSem.ClaimSeven
namespace Go.Proofs.YtcnpekohkbjnnaaGreatDoor
namespace Rows

/-- THE TIED CARD OF 'cartularytop.CartularyTold'. -/
def cartularyToldCard : Claim7 := { stood := { row := cartularyToldRow, standIns := [], harness := (true, "bcec61a6c92227703205dc6e4a92e406c2104afa61c8df6dfdf65e8e356c4ae5"), looks := true }, kinds := [], alts := [], laidByText := true, laidKinds := [.data, .data, .data, .data, .sentinel, .sentinel, .pinned], laidTests := true, laidLooks := .later }
def CartularyToldCardSaid : Prop := Claim7.holds Tryz.pinned (.plain (OpenSpec.ofChange cartularyToldSpec)) cartularyToldCard

/-- THE SECOND FORM's CARD OF 'cartularytop.CartularyTold'. -/
def cartularyToldUptoCard : Claim7 := { stood := { row := cartularyToldUptoRow, standIns := [], harness := (true, "bcec61a6c92227703205dc6e4a92e406c2104afa61c8df6dfdf65e8e356c4ae5"), looks := true }, kinds := [], alts := [], laidByText := true, laidKinds := [.data, .data, .data, .data, .sentinel, .sentinel, .pinned], laidTests := true, laidLooks := .later }
def CartularyToldUptoCardSaid : Prop := Claim7.holds Tryz.pinned (.plain (OpenSpec.upto cartularyToldSpec)) cartularyToldUptoCard
end Rows
end Go.Proofs.YtcnpekohkbjnnaaGreatDoor

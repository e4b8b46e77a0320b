/-
  DERIVED. GIVEN WITH THE SEED: THE CARDS: each row of YtfoeooddnmppnaaGreatDoorRows.lean that lists a variable, with what it lists TIED to the program's text (the seventh form; the later family's looks); each row that meets fmt, with fmt's text TOLD by the authors' own Lean function (tested against real Go, not proved from fmt's source: count such statements apart). THE CARD IS WHAT COUNTS. Prove the row's statement (the work); the ties are given (YtfoeooddnmppnaaGreatDoorTie.lean); close each card by the builder's one call (the guide's Derived/Test/ToyasCard.lean, 'card_holds'). Laid BY PROGRAM, IN A SANDBOX (cutbox-door.mjs). By AI agents, Wed Nov 11 2026. No macro, syntax, notation, axiom, sorry.
-/
import Derived.Test.YtfoeooddnmppnaaGreatDoorRows
import GoSem.ClaimSeven
namespace Go.Proofs.YtfoeooddnmppnaaGreatDoor
namespace Rows

/-- THE TIED CARD OF 'cartularytop.CartularyArchives'. -/
def cartularyArchivesCard : Claim7 := { stood := { row := cartularyArchivesRow, standIns := [], harness := (true, "14840a003f4b3c9e698547d8dcaf20e24adb78195f613e470e6a842cc068edcd"), looks := true }, kinds := [], alts := [], laidByText := true, laidKinds := [.data, .pinned], laidTests := true, laidLooks := .later }
def CartularyArchivesCardSaid : Prop := Claim7.holds Tryz.pinned (.plain (OpenSpec.ofChange cartularyArchivesSpec)) cartularyArchivesCard

/-- THE SECOND FORM's CARD OF 'cartularytop.CartularyArchives'. -/
def cartularyArchivesUptoCard : Claim7 := { stood := { row := cartularyArchivesUptoRow, standIns := [], harness := (true, "14840a003f4b3c9e698547d8dcaf20e24adb78195f613e470e6a842cc068edcd"), looks := true }, kinds := [], alts := [], laidByText := true, laidKinds := [.data, .pinned], laidTests := true, laidLooks := .later }
def CartularyArchivesUptoCardSaid : Prop := Claim7.holds Tryz.pinned (.plain (OpenSpec.upto cartularyArchivesSpec)) cartularyArchivesUptoCard
end Rows
end Go.Proofs.YtfoeooddnmppnaaGreatDoor

/-
  DERIVED. GIVEN WITH THE SEED: THE CARDS: each row of YtmhlmdnhpfhoeaaGreatDoorRows.lean that lists a variable, with what it lists TIED to the program's text (the seventh form; the later family's looks); each row that meets fmt, with fmt's text TOLD by the authors' own Lean function (tested against real Go, not proved from fmt's source: count such statements apart). THE CARD IS WHAT COUNTS. Prove the row's statement (the work); the ties are given (YtmhlmdnhpfhoeaaGreatDoorTie.lean); close each card by the builder's one call (the guide's Derived/Test/ToyasCard.lean, 'card_holds'). Laid BY PROGRAM, IN A SANDBOX (cutbox-door.mjs). By AI agents, Wed Nov 11 2026. No macro, syntax, notation, axiom, sorry.
-/
import Derived.Test.YtmhlmdnhpfhoeaaGreatDoorRows
import GoSem.ClaimSeven
namespace Go.Proofs.YtmhlmdnhpfhoeaaGreatDoor
namespace Rows

/-- THE TIED CARD OF 'cartularylaw16.RefsReads'. -/
def refsReadsCard : Claim7 := { stood := { row := refsReadsRow, standIns := [], harness := (true, "c950d8fc9b7993bb5fc8e55330db26b4225540e74f4666edeec4f423a3ed60f1"), looks := false }, kinds := [], alts := [], laidByText := true, laidKinds := [.data, .pinned], laidTests := true, laidLooks := .later }
def RefsReadsCardSaid : Prop := Claim7.holds Tryz.pinned (.plain (OpenSpec.ofChange refsReadsSpec)) refsReadsCard

/-- THE TIED CARD OF 'cartularylaw16.RefsShadow'. -/
def refsShadowCard : Claim7 := { stood := { row := refsShadowRow, standIns := [], harness := (true, "c950d8fc9b7993bb5fc8e55330db26b4225540e74f4666edeec4f423a3ed60f1"), looks := false }, kinds := [], alts := [], laidByText := true, laidKinds := [.data, .pinned], laidTests := true, laidLooks := .later }
def RefsShadowCardSaid : Prop := Claim7.holds Tryz.pinned (.plain (OpenSpec.ofChange refsShadowSpec)) refsShadowCard

/-- THE SECOND FORM's CARD OF 'cartularylaw16.RefsReads'. -/
def refsReadsUptoCard : Claim7 := { stood := { row := refsReadsUptoRow, standIns := [], harness := (true, "c950d8fc9b7993bb5fc8e55330db26b4225540e74f4666edeec4f423a3ed60f1"), looks := false }, kinds := [], alts := [], laidByText := true, laidKinds := [.data, .pinned], laidTests := true, laidLooks := .later }
def RefsReadsUptoCardSaid : Prop := Claim7.holds Tryz.pinned (.plain (OpenSpec.upto refsReadsSpec)) refsReadsUptoCard

/-- THE SECOND FORM's CARD OF 'cartularylaw16.RefsShadow'. -/
def refsShadowUptoCard : Claim7 := { stood := { row := refsShadowUptoRow, standIns := [], harness := (true, "c950d8fc9b7993bb5fc8e55330db26b4225540e74f4666edeec4f423a3ed60f1"), looks := false }, kinds := [], alts := [], laidByText := true, laidKinds := [.data, .pinned], laidTests := true, laidLooks := .later }
def RefsShadowUptoCardSaid : Prop := Claim7.holds Tryz.pinned (.plain (OpenSpec.upto refsShadowSpec)) refsShadowUptoCard
end Rows
end Go.Proofs.YtmhlmdnhpfhoeaaGreatDoor

/-
  DERIVED. GIVEN WITH THE SEED: THE CARDS: each row of YtoagdpjickippaaDoorRows.lean that lists a variable, with what it lists TIED to the program's text (the seventh form; the later family's looks); each row that meets fmt, with fmt's text TOLD by the authors' own Lean function (tested against real Go, not proved from fmt's source: count such statements apart). THE CARD IS WHAT COUNTS. Prove the row's statement (the work); the ties are given (YtoagdpjickippaaDoorTie.lean); close each card by the builder's one call (the guide's Derived/Test/ToyasCard.lean, 'card_holds'). Laid BY PROGRAM, IN A SANDBOX (cutbox-door.mjs). By AI agents, Wed Nov 11 2026. No macro, syntax, notation, axiom, sorry.
-/
import Derived.Test.YtoagdpjickippaaDoorRows
import GoSem.ClaimSeven
namespace Go.Proofs.YtoagdpjickippaaDoor
namespace Rows

/-- THE TIED CARD OF 'cartularytop.CartularyNames'. -/
def cartularyNamesCard : Claim7 := { stood := { row := cartularyNamesRow, standIns := [], harness := (true, "23c1084967f1417313ddaa3d1da8de7a5913dec438e2b64413d2ca9beb2d4318"), looks := true }, kinds := [], alts := [], laidByText := true, laidKinds := [.data, .data, .data, .data, .sentinel, .sentinel, .pinned], laidTests := true, laidLooks := .later }
def CartularyNamesCardSaid : Prop := Claim7.holds Tryd.pinned (.plain (OpenSpec.ofChange cartularyNamesSpec)) cartularyNamesCard

/-- THE SECOND FORM's CARD OF 'cartularytop.CartularyNames'. -/
def cartularyNamesUptoCard : Claim7 := { stood := { row := cartularyNamesUptoRow, standIns := [], harness := (true, "23c1084967f1417313ddaa3d1da8de7a5913dec438e2b64413d2ca9beb2d4318"), looks := true }, kinds := [], alts := [], laidByText := true, laidKinds := [.data, .data, .data, .data, .sentinel, .sentinel, .pinned], laidTests := true, laidLooks := .later }
def CartularyNamesUptoCardSaid : Prop := Claim7.holds Tryd.pinned (.plain (OpenSpec.upto cartularyNamesSpec)) cartularyNamesUptoCard
end Rows
end Go.Proofs.YtoagdpjickippaaDoor

/-
  DERIVED. GIVEN WITH THE SEED: THE CARDS: each row of YtmhlmdnhpfhoeaaDoorRows.lean that lists a variable, with what it lists TIED to the program's text (the seventh form; the later family's looks); each row that meets fmt, with fmt's text TOLD by the authors' own Lean function (tested against real Go, not proved from fmt's source: count such statements apart). THE CARD IS WHAT COUNTS. Prove the row's statement (the work); the ties are given (YtmhlmdnhpfhoeaaDoorTie.lean); close each card by the builder's one call (the guide's Derived/Test/ToyasCard.lean, 'card_holds'). Laid BY PROGRAM, IN A SANDBOX (cutbox-door.mjs). By AI agents, Wed Nov 11 2026. No macro, syntax, notation, axiom, sorry.
-/
import Derived.Test.YtmhlmdnhpfhoeaaDoorRows
import GoSem.ClaimSeven
namespace Go.Proofs.YtmhlmdnhpfhoeaaDoor
namespace Rows

/-- THE TIED CARD OF 'cartularylaw22.ModfileJoins'. -/
def modfileJoinsCard : Claim7 := { stood := { row := modfileJoinsRow, standIns := [], harness := (true, "5f19afc6bae87da7cab868d460e43b1fa109f936505741024e3aee05f68483ef"), looks := false }, kinds := [], alts := [], laidByText := true, laidKinds := [.data, .pinned], laidTests := true, laidLooks := .later }
def ModfileJoinsCardSaid : Prop := Claim7.holds Tryd.pinned (.plain (OpenSpec.ofChange modfileJoinsSpec)) modfileJoinsCard

/-- THE TIED CARD OF 'cartularylaw22.ModfileParents'. -/
def modfileParentsCard : Claim7 := { stood := { row := modfileParentsRow, standIns := [], harness := (true, "5f19afc6bae87da7cab868d460e43b1fa109f936505741024e3aee05f68483ef"), looks := false }, kinds := [], alts := [], laidByText := true, laidKinds := [.data, .pinned], laidTests := true, laidLooks := .later }
def ModfileParentsCardSaid : Prop := Claim7.holds Tryd.pinned (.plain (OpenSpec.ofChange modfileParentsSpec)) modfileParentsCard

/-- THE TIED CARD OF 'cartularylaw22.ModfilePaths'. -/
def modfilePathsCard : Claim7 := { stood := { row := modfilePathsRow, standIns := [], harness := (true, "5f19afc6bae87da7cab868d460e43b1fa109f936505741024e3aee05f68483ef"), looks := false }, kinds := [], alts := [], laidByText := true, laidKinds := [.data, .pinned], laidTests := true, laidLooks := .later }
def ModfilePathsCardSaid : Prop := Claim7.holds Tryd.pinned (.plain (OpenSpec.ofChange modfilePathsSpec)) modfilePathsCard

/-- THE TIED CARD OF 'cartularylaw16.RefsHops'. -/
def refsHopsCard : Claim7 := { stood := { row := refsHopsRow, standIns := [], harness := (true, "5f19afc6bae87da7cab868d460e43b1fa109f936505741024e3aee05f68483ef"), looks := false }, kinds := [], alts := [], laidByText := true, laidKinds := [.data, .pinned], laidTests := true, laidLooks := .later }
def RefsHopsCardSaid : Prop := Claim7.holds Tryd.pinned (.plain (OpenSpec.ofChange refsHopsSpec)) refsHopsCard

/-- THE TIED CARD OF 'cartularylaw16.RefsNames'. -/
def refsNamesCard : Claim7 := { stood := { row := refsNamesRow, standIns := [], harness := (true, "5f19afc6bae87da7cab868d460e43b1fa109f936505741024e3aee05f68483ef"), looks := false }, kinds := [], alts := [], laidByText := true, laidKinds := [.data, .pinned], laidTests := true, laidLooks := .later }
def RefsNamesCardSaid : Prop := Claim7.holds Tryd.pinned (.plain (OpenSpec.ofChange refsNamesSpec)) refsNamesCard

/-- THE TIED CARD OF 'cartularylaw16.RefsListed'. -/
def refsListedCard : Claim7 := { stood := { row := refsListedRow, standIns := [], harness := (true, "5f19afc6bae87da7cab868d460e43b1fa109f936505741024e3aee05f68483ef"), looks := false }, kinds := [], alts := [], laidByText := true, laidKinds := [.data, .pinned], laidTests := true, laidLooks := .later }
def RefsListedCardSaid : Prop := Claim7.holds Tryd.pinned (.plain (OpenSpec.ofChange refsListedSpec)) refsListedCard

/-- THE SECOND FORM's CARD OF 'cartularylaw22.ModfileJoins'. -/
def modfileJoinsUptoCard : Claim7 := { stood := { row := modfileJoinsUptoRow, standIns := [], harness := (true, "5f19afc6bae87da7cab868d460e43b1fa109f936505741024e3aee05f68483ef"), looks := false }, kinds := [], alts := [], laidByText := true, laidKinds := [.data, .pinned], laidTests := true, laidLooks := .later }
def ModfileJoinsUptoCardSaid : Prop := Claim7.holds Tryd.pinned (.plain (OpenSpec.upto modfileJoinsSpec)) modfileJoinsUptoCard

/-- THE SECOND FORM's CARD OF 'cartularylaw22.ModfileParents'. -/
def modfileParentsUptoCard : Claim7 := { stood := { row := modfileParentsUptoRow, standIns := [], harness := (true, "5f19afc6bae87da7cab868d460e43b1fa109f936505741024e3aee05f68483ef"), looks := false }, kinds := [], alts := [], laidByText := true, laidKinds := [.data, .pinned], laidTests := true, laidLooks := .later }
def ModfileParentsUptoCardSaid : Prop := Claim7.holds Tryd.pinned (.plain (OpenSpec.upto modfileParentsSpec)) modfileParentsUptoCard

/-- THE SECOND FORM's CARD OF 'cartularylaw22.ModfilePaths'. -/
def modfilePathsUptoCard : Claim7 := { stood := { row := modfilePathsUptoRow, standIns := [], harness := (true, "5f19afc6bae87da7cab868d460e43b1fa109f936505741024e3aee05f68483ef"), looks := false }, kinds := [], alts := [], laidByText := true, laidKinds := [.data, .pinned], laidTests := true, laidLooks := .later }
def ModfilePathsUptoCardSaid : Prop := Claim7.holds Tryd.pinned (.plain (OpenSpec.upto modfilePathsSpec)) modfilePathsUptoCard

/-- THE SECOND FORM's CARD OF 'cartularylaw16.RefsHops'. -/
def refsHopsUptoCard : Claim7 := { stood := { row := refsHopsUptoRow, standIns := [], harness := (true, "5f19afc6bae87da7cab868d460e43b1fa109f936505741024e3aee05f68483ef"), looks := false }, kinds := [], alts := [], laidByText := true, laidKinds := [.data, .pinned], laidTests := true, laidLooks := .later }
def RefsHopsUptoCardSaid : Prop := Claim7.holds Tryd.pinned (.plain (OpenSpec.upto refsHopsSpec)) refsHopsUptoCard

/-- THE SECOND FORM's CARD OF 'cartularylaw16.RefsNames'. -/
def refsNamesUptoCard : Claim7 := { stood := { row := refsNamesUptoRow, standIns := [], harness := (true, "5f19afc6bae87da7cab868d460e43b1fa109f936505741024e3aee05f68483ef"), looks := false }, kinds := [], alts := [], laidByText := true, laidKinds := [.data, .pinned], laidTests := true, laidLooks := .later }
def RefsNamesUptoCardSaid : Prop := Claim7.holds Tryd.pinned (.plain (OpenSpec.upto refsNamesSpec)) refsNamesUptoCard

/-- THE SECOND FORM's CARD OF 'cartularylaw16.RefsListed'. -/
def refsListedUptoCard : Claim7 := { stood := { row := refsListedUptoRow, standIns := [], harness := (true, "5f19afc6bae87da7cab868d460e43b1fa109f936505741024e3aee05f68483ef"), looks := false }, kinds := [], alts := [], laidByText := true, laidKinds := [.data, .pinned], laidTests := true, laidLooks := .later }
def RefsListedUptoCardSaid : Prop := Claim7.holds Tryd.pinned (.plain (OpenSpec.upto refsListedSpec)) refsListedUptoCard
end Rows
end Go.Proofs.YtmhlmdnhpfhoeaaDoor

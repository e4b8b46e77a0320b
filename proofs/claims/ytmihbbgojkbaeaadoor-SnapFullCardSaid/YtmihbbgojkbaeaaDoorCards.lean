/-
  DERIVED. GIVEN WITH THE SEED: THE CARDS: each row of YtmihbbgojkbaeaaDoorRows.lean that lists a variable, with what it lists TIED to the program's text (the seventh form; the later family's looks); each row that meets fmt, with fmt's text TOLD by the authors' own Lean function (tested against real Go, not proved from fmt's source: count such statements apart). THE CARD IS WHAT COUNTS. Prove the row's statement (the work); the ties are given (YtmihbbgojkbaeaaDoorTie.lean); close each card by the builder's one call (the guide's Derived/Test/ToyasCard.lean, 'card_holds'). Laid BY PROGRAM, IN A SANDBOX (cutbox-door.mjs). By AI agents, Wed Nov 11 2026. No macro, syntax, notation, axiom, sorry.
-/
import Derived.Test.YtmihbbgojkbaeaaDoorRows
import GoSem.ClaimSeven
namespace Go.Proofs.YtmihbbgojkbaeaaDoor
namespace Rows

/-- THE TIED CARD OF 'cartularylaw14.TreeOrder'. -/
def treeOrderCard : Claim7 := { stood := { row := treeOrderRow, standIns := [], harness := (true, "63882612351783e8def77a83d863e12b5225f5a2f84123db0a8d2e0208583207"), looks := false }, kinds := [], alts := [], laidByText := true, laidKinds := [.data, .data, .data, .pinned, .pinned], laidTests := true, laidLooks := .later }
def TreeOrderCardSaid : Prop := Claim7.holds Tryd.pinned (.plain (OpenSpec.ofChange treeOrderSpec)) treeOrderCard

/-- THE TIED CARD OF 'cartularylaw14.TreeLengths'. -/
def treeLengthsCard : Claim7 := { stood := { row := treeLengthsRow, standIns := [], harness := (true, "63882612351783e8def77a83d863e12b5225f5a2f84123db0a8d2e0208583207"), looks := false }, kinds := [], alts := [], laidByText := true, laidKinds := [.data, .data, .data, .pinned, .pinned], laidTests := true, laidLooks := .later }
def TreeLengthsCardSaid : Prop := Claim7.holds Tryd.pinned (.plain (OpenSpec.ofChange treeLengthsSpec)) treeLengthsCard

/-- THE TIED CARD OF 'cartularylaw14.TreeNames'. -/
def treeNamesCard : Claim7 := { stood := { row := treeNamesRow, standIns := [], harness := (true, "63882612351783e8def77a83d863e12b5225f5a2f84123db0a8d2e0208583207"), looks := false }, kinds := [], alts := [], laidByText := true, laidKinds := [.data, .data, .data, .pinned, .pinned], laidTests := true, laidLooks := .later }
def TreeNamesCardSaid : Prop := Claim7.holds Tryd.pinned (.plain (OpenSpec.ofChange treeNamesSpec)) treeNamesCard

/-- THE TIED CARD OF 'cartularylaw14.TreeReads'. -/
def treeReadsCard : Claim7 := { stood := { row := treeReadsRow, standIns := [], harness := (true, "63882612351783e8def77a83d863e12b5225f5a2f84123db0a8d2e0208583207"), looks := false }, kinds := [], alts := [], laidByText := true, laidKinds := [.data, .data, .data, .pinned, .pinned], laidTests := true, laidLooks := .later }
def TreeReadsCardSaid : Prop := Claim7.holds Tryd.pinned (.plain (OpenSpec.ofChange treeReadsSpec)) treeReadsCard

/-- THE TIED CARD OF 'cartularylaw14.TreeFull'. -/
def treeFullCard : Claim7 := { stood := { row := treeFullRow, standIns := [], harness := (true, "63882612351783e8def77a83d863e12b5225f5a2f84123db0a8d2e0208583207"), looks := false }, kinds := [], alts := [], laidByText := true, laidKinds := [.data, .data, .data, .pinned, .pinned], laidTests := true, laidLooks := .later }
def TreeFullCardSaid : Prop := Claim7.holds Tryd.pinned (.plain (OpenSpec.ofChange treeFullSpec)) treeFullCard

/-- THE TIED CARD OF 'cartularylaw14.TreeFormats'. -/
def treeFormatsCard : Claim7 := { stood := { row := treeFormatsRow, standIns := [], harness := (true, "63882612351783e8def77a83d863e12b5225f5a2f84123db0a8d2e0208583207"), looks := false }, kinds := [], alts := [], laidByText := true, laidKinds := [.data, .data, .data, .pinned, .pinned], laidTests := true, laidLooks := .later }
def TreeFormatsCardSaid : Prop := Claim7.holds Tryd.pinned (.plain (OpenSpec.ofChange treeFormatsSpec)) treeFormatsCard

/-- THE TIED CARD OF 'cartularylaw07.SnapTurns'. -/
def snapTurnsCard : Claim7 := { stood := { row := snapTurnsRow, standIns := [], harness := (true, "63882612351783e8def77a83d863e12b5225f5a2f84123db0a8d2e0208583207"), looks := false }, kinds := [], alts := [], laidByText := true, laidKinds := [.data, .pinned], laidTests := true, laidLooks := .later }
def SnapTurnsCardSaid : Prop := Claim7.holds Tryd.pinned (.plain (OpenSpec.ofChange snapTurnsSpec)) snapTurnsCard

/-- THE TIED CARD OF 'cartularylaw07.SnapBeginnings'. -/
def snapBeginningsCard : Claim7 := { stood := { row := snapBeginningsRow, standIns := [], harness := (true, "63882612351783e8def77a83d863e12b5225f5a2f84123db0a8d2e0208583207"), looks := false }, kinds := [], alts := [], laidByText := true, laidKinds := [.data, .pinned], laidTests := true, laidLooks := .later }
def SnapBeginningsCardSaid : Prop := Claim7.holds Tryd.pinned (.plain (OpenSpec.ofChange snapBeginningsSpec)) snapBeginningsCard

/-- THE TIED CARD OF 'cartularylaw07.SnapReads'. -/
def snapReadsCard : Claim7 := { stood := { row := snapReadsRow, standIns := [], harness := (true, "63882612351783e8def77a83d863e12b5225f5a2f84123db0a8d2e0208583207"), looks := false }, kinds := [], alts := [], laidByText := true, laidKinds := [.data, .pinned], laidTests := true, laidLooks := .later }
def SnapReadsCardSaid : Prop := Claim7.holds Tryd.pinned (.plain (OpenSpec.ofChange snapReadsSpec)) snapReadsCard

/-- THE TIED CARD OF 'cartularylaw07.SnapFull'. -/
def snapFullCard : Claim7 := { stood := { row := snapFullRow, standIns := [], harness := (true, "63882612351783e8def77a83d863e12b5225f5a2f84123db0a8d2e0208583207"), looks := false }, kinds := [], alts := [], laidByText := true, laidKinds := [.data, .pinned], laidTests := true, laidLooks := .later }
def SnapFullCardSaid : Prop := Claim7.holds Tryd.pinned (.plain (OpenSpec.ofChange snapFullSpec)) snapFullCard

/-- THE SECOND FORM's CARD OF 'cartularylaw14.TreeOrder'. -/
def treeOrderUptoCard : Claim7 := { stood := { row := treeOrderUptoRow, standIns := [], harness := (true, "63882612351783e8def77a83d863e12b5225f5a2f84123db0a8d2e0208583207"), looks := false }, kinds := [], alts := [], laidByText := true, laidKinds := [.data, .data, .data, .pinned, .pinned], laidTests := true, laidLooks := .later }
def TreeOrderUptoCardSaid : Prop := Claim7.holds Tryd.pinned (.plain (OpenSpec.upto treeOrderSpec)) treeOrderUptoCard

/-- THE SECOND FORM's CARD OF 'cartularylaw14.TreeLengths'. -/
def treeLengthsUptoCard : Claim7 := { stood := { row := treeLengthsUptoRow, standIns := [], harness := (true, "63882612351783e8def77a83d863e12b5225f5a2f84123db0a8d2e0208583207"), looks := false }, kinds := [], alts := [], laidByText := true, laidKinds := [.data, .data, .data, .pinned, .pinned], laidTests := true, laidLooks := .later }
def TreeLengthsUptoCardSaid : Prop := Claim7.holds Tryd.pinned (.plain (OpenSpec.upto treeLengthsSpec)) treeLengthsUptoCard

/-- THE SECOND FORM's CARD OF 'cartularylaw14.TreeNames'. -/
def treeNamesUptoCard : Claim7 := { stood := { row := treeNamesUptoRow, standIns := [], harness := (true, "63882612351783e8def77a83d863e12b5225f5a2f84123db0a8d2e0208583207"), looks := false }, kinds := [], alts := [], laidByText := true, laidKinds := [.data, .data, .data, .pinned, .pinned], laidTests := true, laidLooks := .later }
def TreeNamesUptoCardSaid : Prop := Claim7.holds Tryd.pinned (.plain (OpenSpec.upto treeNamesSpec)) treeNamesUptoCard

/-- THE SECOND FORM's CARD OF 'cartularylaw14.TreeReads'. -/
def treeReadsUptoCard : Claim7 := { stood := { row := treeReadsUptoRow, standIns := [], harness := (true, "63882612351783e8def77a83d863e12b5225f5a2f84123db0a8d2e0208583207"), looks := false }, kinds := [], alts := [], laidByText := true, laidKinds := [.data, .data, .data, .pinned, .pinned], laidTests := true, laidLooks := .later }
def TreeReadsUptoCardSaid : Prop := Claim7.holds Tryd.pinned (.plain (OpenSpec.upto treeReadsSpec)) treeReadsUptoCard

/-- THE SECOND FORM's CARD OF 'cartularylaw14.TreeFull'. -/
def treeFullUptoCard : Claim7 := { stood := { row := treeFullUptoRow, standIns := [], harness := (true, "63882612351783e8def77a83d863e12b5225f5a2f84123db0a8d2e0208583207"), looks := false }, kinds := [], alts := [], laidByText := true, laidKinds := [.data, .data, .data, .pinned, .pinned], laidTests := true, laidLooks := .later }
def TreeFullUptoCardSaid : Prop := Claim7.holds Tryd.pinned (.plain (OpenSpec.upto treeFullSpec)) treeFullUptoCard

/-- THE SECOND FORM's CARD OF 'cartularylaw14.TreeFormats'. -/
def treeFormatsUptoCard : Claim7 := { stood := { row := treeFormatsUptoRow, standIns := [], harness := (true, "63882612351783e8def77a83d863e12b5225f5a2f84123db0a8d2e0208583207"), looks := false }, kinds := [], alts := [], laidByText := true, laidKinds := [.data, .data, .data, .pinned, .pinned], laidTests := true, laidLooks := .later }
def TreeFormatsUptoCardSaid : Prop := Claim7.holds Tryd.pinned (.plain (OpenSpec.upto treeFormatsSpec)) treeFormatsUptoCard

/-- THE SECOND FORM's CARD OF 'cartularylaw07.SnapTurns'. -/
def snapTurnsUptoCard : Claim7 := { stood := { row := snapTurnsUptoRow, standIns := [], harness := (true, "63882612351783e8def77a83d863e12b5225f5a2f84123db0a8d2e0208583207"), looks := false }, kinds := [], alts := [], laidByText := true, laidKinds := [.data, .pinned], laidTests := true, laidLooks := .later }
def SnapTurnsUptoCardSaid : Prop := Claim7.holds Tryd.pinned (.plain (OpenSpec.upto snapTurnsSpec)) snapTurnsUptoCard

/-- THE SECOND FORM's CARD OF 'cartularylaw07.SnapBeginnings'. -/
def snapBeginningsUptoCard : Claim7 := { stood := { row := snapBeginningsUptoRow, standIns := [], harness := (true, "63882612351783e8def77a83d863e12b5225f5a2f84123db0a8d2e0208583207"), looks := false }, kinds := [], alts := [], laidByText := true, laidKinds := [.data, .pinned], laidTests := true, laidLooks := .later }
def SnapBeginningsUptoCardSaid : Prop := Claim7.holds Tryd.pinned (.plain (OpenSpec.upto snapBeginningsSpec)) snapBeginningsUptoCard

/-- THE SECOND FORM's CARD OF 'cartularylaw07.SnapReads'. -/
def snapReadsUptoCard : Claim7 := { stood := { row := snapReadsUptoRow, standIns := [], harness := (true, "63882612351783e8def77a83d863e12b5225f5a2f84123db0a8d2e0208583207"), looks := false }, kinds := [], alts := [], laidByText := true, laidKinds := [.data, .pinned], laidTests := true, laidLooks := .later }
def SnapReadsUptoCardSaid : Prop := Claim7.holds Tryd.pinned (.plain (OpenSpec.upto snapReadsSpec)) snapReadsUptoCard

/-- THE SECOND FORM's CARD OF 'cartularylaw07.SnapFull'. -/
def snapFullUptoCard : Claim7 := { stood := { row := snapFullUptoRow, standIns := [], harness := (true, "63882612351783e8def77a83d863e12b5225f5a2f84123db0a8d2e0208583207"), looks := false }, kinds := [], alts := [], laidByText := true, laidKinds := [.data, .pinned], laidTests := true, laidLooks := .later }
def SnapFullUptoCardSaid : Prop := Claim7.holds Tryd.pinned (.plain (OpenSpec.upto snapFullSpec)) snapFullUptoCard
end Rows
end Go.Proofs.YtmihbbgojkbaeaaDoor

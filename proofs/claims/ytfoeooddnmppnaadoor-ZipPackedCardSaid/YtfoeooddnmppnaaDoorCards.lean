/-
  DERIVED. GIVEN WITH THE SEED: THE CARDS: each row of YtfoeooddnmppnaaDoorRows.lean that lists a variable, with what it lists TIED to the program's text (the seventh form; the later family's looks); each row that meets fmt, with fmt's text TOLD by the authors' own Lean function (tested against real Go, not proved from fmt's source: count such statements apart). THE CARD IS WHAT COUNTS. Prove the row's statement (the work); the ties are given (YtfoeooddnmppnaaDoorTie.lean); close each card by the builder's one call (the guide's Derived/Test/ToyasCard.lean, 'card_holds'). Laid BY PROGRAM, IN A SANDBOX (cutbox-door.mjs). By AI agents, Wed Nov 11 2026. No macro, syntax, notation, axiom, sorry.
-/
import Derived.Test.YtfoeooddnmppnaaDoorRows
import GoSem.ClaimSeven
namespace Go.Proofs.YtfoeooddnmppnaaDoor
namespace Rows

/-- THE TIED CARD OF 'cartularylaw23.ZipWrites'. -/
def zipWritesCard : Claim7 := { stood := { row := zipWritesRow, standIns := [], harness := (true, "0eb27af101e4e04535c639a375fc4637eed6172aaaeb719e4b37c29ceb5b9f04"), looks := true }, kinds := [], alts := [], laidByText := true, laidKinds := [.data, .pinned], laidTests := true, laidLooks := .later }
def ZipWritesCardSaid : Prop := Claim7.holds Tryd.pinned (.plain (OpenSpec.ofChange zipWritesSpec)) zipWritesCard

/-- THE TIED CARD OF 'cartularylaw23.ZipFull'. -/
def zipFullCard : Claim7 := { stood := { row := zipFullRow, standIns := [], harness := (true, "0eb27af101e4e04535c639a375fc4637eed6172aaaeb719e4b37c29ceb5b9f04"), looks := true }, kinds := [], alts := [], laidByText := true, laidKinds := [.data, .pinned], laidTests := true, laidLooks := .later }
def ZipFullCardSaid : Prop := Claim7.holds Tryd.pinned (.plain (OpenSpec.ofChange zipFullSpec)) zipFullCard

/-- THE TIED CARD OF 'cartularylaw23.ZipOne'. -/
def zipOneCard : Claim7 := { stood := { row := zipOneRow, standIns := [], harness := (true, "0eb27af101e4e04535c639a375fc4637eed6172aaaeb719e4b37c29ceb5b9f04"), looks := true }, kinds := [], alts := [], laidByText := true, laidKinds := [.data, .pinned], laidTests := true, laidLooks := .later }
def ZipOneCardSaid : Prop := Claim7.holds Tryd.pinned (.plain (OpenSpec.ofChange zipOneSpec)) zipOneCard

/-- THE TIED CARD OF 'cartularylaw23.ZipSpoils'. -/
def zipSpoilsCard : Claim7 := { stood := { row := zipSpoilsRow, standIns := [], harness := (true, "0eb27af101e4e04535c639a375fc4637eed6172aaaeb719e4b37c29ceb5b9f04"), looks := true }, kinds := [], alts := [], laidByText := true, laidKinds := [.data, .pinned], laidTests := true, laidLooks := .later }
def ZipSpoilsCardSaid : Prop := Claim7.holds Tryd.pinned (.plain (OpenSpec.ofChange zipSpoilsSpec)) zipSpoilsCard

/-- THE TIED CARD OF 'cartularylaw24.ModzipHashes'. -/
def modzipHashesCard : Claim7 := { stood := { row := modzipHashesRow, standIns := [], harness := (true, "0eb27af101e4e04535c639a375fc4637eed6172aaaeb719e4b37c29ceb5b9f04"), looks := true }, kinds := [], alts := [], laidByText := true, laidKinds := [.data, .pinned], laidTests := true, laidLooks := .later }
def ModzipHashesCardSaid : Prop := Claim7.holds Tryd.pinned (.plain (OpenSpec.ofChange modzipHashesSpec)) modzipHashesCard

/-- THE TIED CARD OF 'cartularylaw24.ModzipNested'. -/
def modzipNestedCard : Claim7 := { stood := { row := modzipNestedRow, standIns := [], harness := (true, "0eb27af101e4e04535c639a375fc4637eed6172aaaeb719e4b37c29ceb5b9f04"), looks := true }, kinds := [], alts := [], laidByText := true, laidKinds := [.data, .pinned], laidTests := true, laidLooks := .later }
def ModzipNestedCardSaid : Prop := Claim7.holds Tryd.pinned (.plain (OpenSpec.ofChange modzipNestedSpec)) modzipNestedCard

/-- THE TIED CARD OF 'cartularylaw24.ModzipHashed'. -/
def modzipHashedCard : Claim7 := { stood := { row := modzipHashedRow, standIns := [], harness := (true, "0eb27af101e4e04535c639a375fc4637eed6172aaaeb719e4b37c29ceb5b9f04"), looks := true }, kinds := [], alts := [], laidByText := true, laidKinds := [.data, .pinned], laidTests := true, laidLooks := .later }
def ModzipHashedCardSaid : Prop := Claim7.holds Tryd.pinned (.plain (OpenSpec.ofChange modzipHashedSpec)) modzipHashedCard

/-- THE TIED CARD OF 'cartularylaw23.ZipPacked'. -/
def zipPackedCard : Claim7 := { stood := { row := zipPackedRow, standIns := [], harness := (true, "0eb27af101e4e04535c639a375fc4637eed6172aaaeb719e4b37c29ceb5b9f04"), looks := true }, kinds := [], alts := [], laidByText := true, laidKinds := [.data, .pinned], laidTests := true, laidLooks := .later }
def ZipPackedCardSaid : Prop := Claim7.holds Tryd.pinned (.plain (OpenSpec.ofChange zipPackedSpec)) zipPackedCard

/-- THE TIED CARD OF 'cartularylaw24.ModzipTurns'. -/
def modzipTurnsCard : Claim7 := { stood := { row := modzipTurnsRow, standIns := [], harness := (true, "0eb27af101e4e04535c639a375fc4637eed6172aaaeb719e4b37c29ceb5b9f04"), looks := true }, kinds := [], alts := [], laidByText := true, laidKinds := [.data, .pinned], laidTests := true, laidLooks := .later }
def ModzipTurnsCardSaid : Prop := Claim7.holds Tryd.pinned (.plain (OpenSpec.ofChange modzipTurnsSpec)) modzipTurnsCard

/-- THE SECOND FORM's CARD OF 'cartularylaw23.ZipWrites'. -/
def zipWritesUptoCard : Claim7 := { stood := { row := zipWritesUptoRow, standIns := [], harness := (true, "0eb27af101e4e04535c639a375fc4637eed6172aaaeb719e4b37c29ceb5b9f04"), looks := true }, kinds := [], alts := [], laidByText := true, laidKinds := [.data, .pinned], laidTests := true, laidLooks := .later }
def ZipWritesUptoCardSaid : Prop := Claim7.holds Tryd.pinned (.plain (OpenSpec.upto zipWritesSpec)) zipWritesUptoCard

/-- THE SECOND FORM's CARD OF 'cartularylaw23.ZipFull'. -/
def zipFullUptoCard : Claim7 := { stood := { row := zipFullUptoRow, standIns := [], harness := (true, "0eb27af101e4e04535c639a375fc4637eed6172aaaeb719e4b37c29ceb5b9f04"), looks := true }, kinds := [], alts := [], laidByText := true, laidKinds := [.data, .pinned], laidTests := true, laidLooks := .later }
def ZipFullUptoCardSaid : Prop := Claim7.holds Tryd.pinned (.plain (OpenSpec.upto zipFullSpec)) zipFullUptoCard

/-- THE SECOND FORM's CARD OF 'cartularylaw23.ZipOne'. -/
def zipOneUptoCard : Claim7 := { stood := { row := zipOneUptoRow, standIns := [], harness := (true, "0eb27af101e4e04535c639a375fc4637eed6172aaaeb719e4b37c29ceb5b9f04"), looks := true }, kinds := [], alts := [], laidByText := true, laidKinds := [.data, .pinned], laidTests := true, laidLooks := .later }
def ZipOneUptoCardSaid : Prop := Claim7.holds Tryd.pinned (.plain (OpenSpec.upto zipOneSpec)) zipOneUptoCard

/-- THE SECOND FORM's CARD OF 'cartularylaw23.ZipSpoils'. -/
def zipSpoilsUptoCard : Claim7 := { stood := { row := zipSpoilsUptoRow, standIns := [], harness := (true, "0eb27af101e4e04535c639a375fc4637eed6172aaaeb719e4b37c29ceb5b9f04"), looks := true }, kinds := [], alts := [], laidByText := true, laidKinds := [.data, .pinned], laidTests := true, laidLooks := .later }
def ZipSpoilsUptoCardSaid : Prop := Claim7.holds Tryd.pinned (.plain (OpenSpec.upto zipSpoilsSpec)) zipSpoilsUptoCard

/-- THE SECOND FORM's CARD OF 'cartularylaw24.ModzipHashes'. -/
def modzipHashesUptoCard : Claim7 := { stood := { row := modzipHashesUptoRow, standIns := [], harness := (true, "0eb27af101e4e04535c639a375fc4637eed6172aaaeb719e4b37c29ceb5b9f04"), looks := true }, kinds := [], alts := [], laidByText := true, laidKinds := [.data, .pinned], laidTests := true, laidLooks := .later }
def ModzipHashesUptoCardSaid : Prop := Claim7.holds Tryd.pinned (.plain (OpenSpec.upto modzipHashesSpec)) modzipHashesUptoCard

/-- THE SECOND FORM's CARD OF 'cartularylaw24.ModzipNested'. -/
def modzipNestedUptoCard : Claim7 := { stood := { row := modzipNestedUptoRow, standIns := [], harness := (true, "0eb27af101e4e04535c639a375fc4637eed6172aaaeb719e4b37c29ceb5b9f04"), looks := true }, kinds := [], alts := [], laidByText := true, laidKinds := [.data, .pinned], laidTests := true, laidLooks := .later }
def ModzipNestedUptoCardSaid : Prop := Claim7.holds Tryd.pinned (.plain (OpenSpec.upto modzipNestedSpec)) modzipNestedUptoCard

/-- THE SECOND FORM's CARD OF 'cartularylaw24.ModzipHashed'. -/
def modzipHashedUptoCard : Claim7 := { stood := { row := modzipHashedUptoRow, standIns := [], harness := (true, "0eb27af101e4e04535c639a375fc4637eed6172aaaeb719e4b37c29ceb5b9f04"), looks := true }, kinds := [], alts := [], laidByText := true, laidKinds := [.data, .pinned], laidTests := true, laidLooks := .later }
def ModzipHashedUptoCardSaid : Prop := Claim7.holds Tryd.pinned (.plain (OpenSpec.upto modzipHashedSpec)) modzipHashedUptoCard

/-- THE SECOND FORM's CARD OF 'cartularylaw23.ZipPacked'. -/
def zipPackedUptoCard : Claim7 := { stood := { row := zipPackedUptoRow, standIns := [], harness := (true, "0eb27af101e4e04535c639a375fc4637eed6172aaaeb719e4b37c29ceb5b9f04"), looks := true }, kinds := [], alts := [], laidByText := true, laidKinds := [.data, .pinned], laidTests := true, laidLooks := .later }
def ZipPackedUptoCardSaid : Prop := Claim7.holds Tryd.pinned (.plain (OpenSpec.upto zipPackedSpec)) zipPackedUptoCard

/-- THE SECOND FORM's CARD OF 'cartularylaw24.ModzipTurns'. -/
def modzipTurnsUptoCard : Claim7 := { stood := { row := modzipTurnsUptoRow, standIns := [], harness := (true, "0eb27af101e4e04535c639a375fc4637eed6172aaaeb719e4b37c29ceb5b9f04"), looks := true }, kinds := [], alts := [], laidByText := true, laidKinds := [.data, .pinned], laidTests := true, laidLooks := .later }
def ModzipTurnsUptoCardSaid : Prop := Claim7.holds Tryd.pinned (.plain (OpenSpec.upto modzipTurnsSpec)) modzipTurnsUptoCard
end Rows
end Go.Proofs.YtfoeooddnmppnaaDoor

/-
  NARROWER THAN 'FOR EVERY INPUT', by the rows' own cells (each row's printed sentence says how): ZipWrites: laid · ZipFull: laid · ZipOne: laid · ZipSpoils: laid · ModzipHashes: laid · ModzipNested: laid · ModzipHashed: laid · ZipPacked: laid · ModzipTurns: laid.
  DERIVED. THE GIVEN ROWS OF THIS SEAT. 9 by the template 'for every input the law returns true; each argument reads behind the call as it read before'; 0 by the template 'total and deterministic' (their statements: YtfoeooddnmppnaaDoorTotals.lean).
  GIVEN WITH THE SEED: the statements are not yours to turn. If you find one false, say at which input.
  Laid BY PROGRAM, IN A SANDBOX (cutbox-rows.mjs): the forced cells as the released guide's own fill.sh prints them over the translation 5949e1aeeeb35c77… (all of the seat's roots in one cut). By AI agents, Wed Nov 11 2026. No macro, syntax, notation, axiom, sorry.
-/
import Derived.Test.YtfoeooddnmppnaaDoorChecked
import GoSem.PinnedTables
import GoSem.Claim
import GoSem.ClaimJoined
import GoSem.ClaimMapViews
import Derived.JoinedTies
import Derived.KernelRfl
namespace Go.Proofs.YtfoeooddnmppnaaDoor
/- THE CELL 'sum', in the pinned program and in every row, IS THE sha256 OF THE DUMP (.gsa) THAT YtfoeooddnmppnaaDoorProg.lean LOADS. Nothing in Lean hashes anything: it is a label: what it is worth is what the hold of that sum in a sandbox is worth. -/
noncomputable def Tryd.pinned : Pinned := { name := "ytfoeooddnmppnaadoor", sum := "5949e1aeeeb35c77601ac292ed3235d2f1785487915232097466481413cb6132", checked := Tryd.checked }
namespace Rows
def none {H : Type} : Left H := { results := [], args := [] }

/- WHAT THE LISTED PACKAGE-LEVEL VARIABLES READ AS WHEN THE CALL BEGINS. Each datum BY PROGRAM (the guide's laid-datum.mjs) off the statement by which the dump's own 'gosem.cut.vars' lays the variable. In a bare row this is a premise. The card (YtfoeooddnmppnaaDoorCards.lean) ties it to the program's text. -/
def laid_unicode_utf8_acceptRanges {H : Type} : DataW H := .agg [.agg [.lit (.int .u8 128), .lit (.int .u8 191)], .agg [.lit (.int .u8 160), .lit (.int .u8 191)], .agg [.lit (.int .u8 128), .lit (.int .u8 159)], .agg [.lit (.int .u8 144), .lit (.int .u8 191)], .agg [.lit (.int .u8 128), .lit (.int .u8 143)], .agg [.lit (.int .u8 0), .lit (.int .u8 0)], .agg [.lit (.int .u8 0), .lit (.int .u8 0)], .agg [.lit (.int .u8 0), .lit (.int .u8 0)], .agg [.lit (.int .u8 0), .lit (.int .u8 0)], .agg [.lit (.int .u8 0), .lit (.int .u8 0)], .agg [.lit (.int .u8 0), .lit (.int .u8 0)], .agg [.lit (.int .u8 0), .lit (.int .u8 0)], .agg [.lit (.int .u8 0), .lit (.int .u8 0)], .agg [.lit (.int .u8 0), .lit (.int .u8 0)], .agg [.lit (.int .u8 0), .lit (.int .u8 0)], .agg [.lit (.int .u8 0), .lit (.int .u8 0)]]
/-- One of Go's own tables, pinned by name: the form's constant. -/
def laid_unicode_utf8_first : DataW Unit := Go.Pinned.utf8First

/-- 'cartularylaw23.ZipWrites': WHATEVER THE INPUT: true; the input reads as it did. -/
def zipWritesSpec : ChangeSpec := { name := "zipWrites", fn := fun _ => fun
  | [d] => { results := [.lit (.bool true)], args := [d] }
  | _ => none }
def zipWritesRow : OpenClaim := { program := "ytfoeooddnmppnaadoor", sum := "5949e1aeeeb35c77601ac292ed3235d2f1785487915232097466481413cb6132", func := "cartulary/cartularylaw23.ZipWrites", spec := "zipWrites", inPlace := ["internal/bytealg.IndexByteString", "internal/bytealg.IndexString"], unfollowed := true, recurses := true, named := ["unicode/utf8.first", "unicode/utf8.acceptRanges", "internal/bytealg.MaxLen"], apart := false, laid := [("unicode/utf8.acceptRanges", laid_unicode_utf8_acceptRanges), ("unicode/utf8.first", laid_unicode_utf8_first)] }
def ZipWritesSaid : Prop := zipWritesRow.holds Tryd.pinned (OpenSpec.ofChange zipWritesSpec)

/-- ITS FALSE NEIGHBOUR: 'it returns false'. Refute it at one input. -/
def zipWritesWrong : ChangeSpec := { name := "zipWrites", fn := fun _ => fun
  | [d] => { results := [.lit (.bool false)], args := [d] }
  | _ => none }
def ZipWritesWrongFalsely : Prop := zipWritesRow.holds Tryd.pinned (OpenSpec.ofChange zipWritesWrong)

/-- 'cartularylaw23.ZipFull': WHATEVER THE INPUT: true; the input reads as it did. -/
def zipFullSpec : ChangeSpec := { name := "zipFull", fn := fun _ => fun
  | [d1, d2] => { results := [.lit (.bool true)], args := [d1, d2] }
  | _ => none }
def zipFullRow : OpenClaim := { program := "ytfoeooddnmppnaadoor", sum := "5949e1aeeeb35c77601ac292ed3235d2f1785487915232097466481413cb6132", func := "cartulary/cartularylaw23.ZipFull", spec := "zipFull", inPlace := ["internal/bytealg.IndexByteString", "internal/bytealg.IndexString"], unfollowed := true, recurses := true, named := ["unicode/utf8.first", "unicode/utf8.acceptRanges", "internal/bytealg.MaxLen"], apart := false, laid := [("unicode/utf8.acceptRanges", laid_unicode_utf8_acceptRanges), ("unicode/utf8.first", laid_unicode_utf8_first)] }
def ZipFullSaid : Prop := zipFullRow.holds Tryd.pinned (OpenSpec.ofChange zipFullSpec)

/-- ITS FALSE NEIGHBOUR: 'it returns false'. Refute it at one input. -/
def zipFullWrong : ChangeSpec := { name := "zipFull", fn := fun _ => fun
  | [d1, d2] => { results := [.lit (.bool false)], args := [d1, d2] }
  | _ => none }
def ZipFullWrongFalsely : Prop := zipFullRow.holds Tryd.pinned (OpenSpec.ofChange zipFullWrong)

/-- 'cartularylaw23.ZipOne': WHATEVER THE INPUT: true; the input reads as it did. -/
def zipOneSpec : ChangeSpec := { name := "zipOne", fn := fun _ => fun
  | [d1, d2] => { results := [.lit (.bool true)], args := [d1, d2] }
  | _ => none }
def zipOneRow : OpenClaim := { program := "ytfoeooddnmppnaadoor", sum := "5949e1aeeeb35c77601ac292ed3235d2f1785487915232097466481413cb6132", func := "cartulary/cartularylaw23.ZipOne", spec := "zipOne", inPlace := ["internal/bytealg.IndexByteString", "internal/bytealg.IndexString"], unfollowed := true, recurses := true, named := ["unicode/utf8.first", "unicode/utf8.acceptRanges", "internal/bytealg.MaxLen"], apart := false, laid := [("unicode/utf8.acceptRanges", laid_unicode_utf8_acceptRanges), ("unicode/utf8.first", laid_unicode_utf8_first)] }
def ZipOneSaid : Prop := zipOneRow.holds Tryd.pinned (OpenSpec.ofChange zipOneSpec)

/-- ITS FALSE NEIGHBOUR: 'it returns false'. Refute it at one input. -/
def zipOneWrong : ChangeSpec := { name := "zipOne", fn := fun _ => fun
  | [d1, d2] => { results := [.lit (.bool false)], args := [d1, d2] }
  | _ => none }
def ZipOneWrongFalsely : Prop := zipOneRow.holds Tryd.pinned (OpenSpec.ofChange zipOneWrong)

/-- 'cartularylaw23.ZipSpoils': WHATEVER THE INPUT: true; the input reads as it did. -/
def zipSpoilsSpec : ChangeSpec := { name := "zipSpoils", fn := fun _ => fun
  | [d1, d2] => { results := [.lit (.bool true)], args := [d1, d2] }
  | _ => none }
def zipSpoilsRow : OpenClaim := { program := "ytfoeooddnmppnaadoor", sum := "5949e1aeeeb35c77601ac292ed3235d2f1785487915232097466481413cb6132", func := "cartulary/cartularylaw23.ZipSpoils", spec := "zipSpoils", inPlace := ["internal/bytealg.IndexByteString", "internal/bytealg.IndexString"], unfollowed := true, recurses := true, named := ["unicode/utf8.first", "unicode/utf8.acceptRanges", "internal/bytealg.MaxLen"], apart := false, laid := [("unicode/utf8.acceptRanges", laid_unicode_utf8_acceptRanges), ("unicode/utf8.first", laid_unicode_utf8_first)] }
def ZipSpoilsSaid : Prop := zipSpoilsRow.holds Tryd.pinned (OpenSpec.ofChange zipSpoilsSpec)

/-- ITS FALSE NEIGHBOUR: 'it returns false'. Refute it at one input. -/
def zipSpoilsWrong : ChangeSpec := { name := "zipSpoils", fn := fun _ => fun
  | [d1, d2] => { results := [.lit (.bool false)], args := [d1, d2] }
  | _ => none }
def ZipSpoilsWrongFalsely : Prop := zipSpoilsRow.holds Tryd.pinned (OpenSpec.ofChange zipSpoilsWrong)

/-- 'cartularylaw24.ModzipHashes': WHATEVER THE INPUT: true; the input reads as it did. -/
def modzipHashesSpec : ChangeSpec := { name := "modzipHashes", fn := fun _ => fun
  | [d1, d2, d3] => { results := [.lit (.bool true)], args := [d1, d2, d3] }
  | _ => none }
def modzipHashesRow : OpenClaim := { program := "ytfoeooddnmppnaadoor", sum := "5949e1aeeeb35c77601ac292ed3235d2f1785487915232097466481413cb6132", func := "cartulary/cartularylaw24.ModzipHashes", spec := "modzipHashes", inPlace := ["internal/bytealg.IndexByteString", "internal/bytealg.IndexString", "internal/bytealg.abigen_runtime_cmpstring"], unfollowed := true, recurses := true, named := ["unicode/utf8.first", "unicode/utf8.acceptRanges", "internal/bytealg.MaxLen"], apart := false, laid := [("unicode/utf8.acceptRanges", laid_unicode_utf8_acceptRanges), ("unicode/utf8.first", laid_unicode_utf8_first)] }
def ModzipHashesSaid : Prop := modzipHashesRow.holds Tryd.pinned (OpenSpec.ofChange modzipHashesSpec)

/-- ITS FALSE NEIGHBOUR: 'it returns false'. Refute it at one input. -/
def modzipHashesWrong : ChangeSpec := { name := "modzipHashes", fn := fun _ => fun
  | [d1, d2, d3] => { results := [.lit (.bool false)], args := [d1, d2, d3] }
  | _ => none }
def ModzipHashesWrongFalsely : Prop := modzipHashesRow.holds Tryd.pinned (OpenSpec.ofChange modzipHashesWrong)

/-- 'cartularylaw24.ModzipNested': WHATEVER THE INPUT: true; the input reads as it did. -/
def modzipNestedSpec : ChangeSpec := { name := "modzipNested", fn := fun _ => fun
  | [d1, d2] => { results := [.lit (.bool true)], args := [d1, d2] }
  | _ => none }
def modzipNestedRow : OpenClaim := { program := "ytfoeooddnmppnaadoor", sum := "5949e1aeeeb35c77601ac292ed3235d2f1785487915232097466481413cb6132", func := "cartulary/cartularylaw24.ModzipNested", spec := "modzipNested", inPlace := ["internal/bytealg.IndexByteString", "internal/bytealg.IndexString", "internal/bytealg.abigen_runtime_cmpstring"], unfollowed := true, recurses := true, named := ["unicode/utf8.first", "unicode/utf8.acceptRanges", "internal/bytealg.MaxLen"], apart := false, laid := [("unicode/utf8.acceptRanges", laid_unicode_utf8_acceptRanges), ("unicode/utf8.first", laid_unicode_utf8_first)] }
def ModzipNestedSaid : Prop := modzipNestedRow.holds Tryd.pinned (OpenSpec.ofChange modzipNestedSpec)

/-- ITS FALSE NEIGHBOUR: 'it returns false'. Refute it at one input. -/
def modzipNestedWrong : ChangeSpec := { name := "modzipNested", fn := fun _ => fun
  | [d1, d2] => { results := [.lit (.bool false)], args := [d1, d2] }
  | _ => none }
def ModzipNestedWrongFalsely : Prop := modzipNestedRow.holds Tryd.pinned (OpenSpec.ofChange modzipNestedWrong)

/-- 'cartularylaw24.ModzipHashed': WHATEVER THE INPUT: true; the input reads as it did. -/
def modzipHashedSpec : ChangeSpec := { name := "modzipHashed", fn := fun _ => fun
  | [d1, d2, d3] => { results := [.lit (.bool true)], args := [d1, d2, d3] }
  | _ => none }
def modzipHashedRow : OpenClaim := { program := "ytfoeooddnmppnaadoor", sum := "5949e1aeeeb35c77601ac292ed3235d2f1785487915232097466481413cb6132", func := "cartulary/cartularylaw24.ModzipHashed", spec := "modzipHashed", inPlace := ["internal/bytealg.abigen_runtime_cmpstring", "internal/bytealg.IndexByteString", "internal/bytealg.IndexString"], unfollowed := true, recurses := true, named := ["unicode/utf8.first", "unicode/utf8.acceptRanges", "internal/bytealg.MaxLen"], apart := false, laid := [("unicode/utf8.acceptRanges", laid_unicode_utf8_acceptRanges), ("unicode/utf8.first", laid_unicode_utf8_first)] }
def ModzipHashedSaid : Prop := modzipHashedRow.holds Tryd.pinned (OpenSpec.ofChange modzipHashedSpec)

/-- ITS FALSE NEIGHBOUR: 'it returns false'. Refute it at one input. -/
def modzipHashedWrong : ChangeSpec := { name := "modzipHashed", fn := fun _ => fun
  | [d1, d2, d3] => { results := [.lit (.bool false)], args := [d1, d2, d3] }
  | _ => none }
def ModzipHashedWrongFalsely : Prop := modzipHashedRow.holds Tryd.pinned (OpenSpec.ofChange modzipHashedWrong)

/-- 'cartularylaw23.ZipPacked': WHATEVER THE INPUT: true; the input reads as it did. -/
def zipPackedSpec : ChangeSpec := { name := "zipPacked", fn := fun _ => fun
  | [d1, d2] => { results := [.lit (.bool true)], args := [d1, d2] }
  | _ => none }
def zipPackedRow : OpenClaim := { program := "ytfoeooddnmppnaadoor", sum := "5949e1aeeeb35c77601ac292ed3235d2f1785487915232097466481413cb6132", func := "cartulary/cartularylaw23.ZipPacked", spec := "zipPacked", inPlace := ["internal/bytealg.IndexByteString", "internal/bytealg.IndexString"], unfollowed := true, recurses := true, named := ["unicode/utf8.first", "unicode/utf8.acceptRanges", "internal/bytealg.MaxLen"], apart := false, laid := [("unicode/utf8.acceptRanges", laid_unicode_utf8_acceptRanges), ("unicode/utf8.first", laid_unicode_utf8_first)] }
def ZipPackedSaid : Prop := zipPackedRow.holds Tryd.pinned (OpenSpec.ofChange zipPackedSpec)

/-- ITS FALSE NEIGHBOUR: 'it returns false'. Refute it at one input. -/
def zipPackedWrong : ChangeSpec := { name := "zipPacked", fn := fun _ => fun
  | [d1, d2] => { results := [.lit (.bool false)], args := [d1, d2] }
  | _ => none }
def ZipPackedWrongFalsely : Prop := zipPackedRow.holds Tryd.pinned (OpenSpec.ofChange zipPackedWrong)

/-- 'cartularylaw24.ModzipTurns': WHATEVER THE INPUT: true; the input reads as it did. -/
def modzipTurnsSpec : ChangeSpec := { name := "modzipTurns", fn := fun _ => fun
  | [d1, d2] => { results := [.lit (.bool true)], args := [d1, d2] }
  | _ => none }
def modzipTurnsRow : OpenClaim := { program := "ytfoeooddnmppnaadoor", sum := "5949e1aeeeb35c77601ac292ed3235d2f1785487915232097466481413cb6132", func := "cartulary/cartularylaw24.ModzipTurns", spec := "modzipTurns", inPlace := ["internal/bytealg.IndexByteString", "internal/bytealg.IndexString", "internal/bytealg.abigen_runtime_cmpstring"], unfollowed := true, recurses := true, named := ["unicode/utf8.first", "unicode/utf8.acceptRanges", "internal/bytealg.MaxLen"], apart := false, laid := [("unicode/utf8.acceptRanges", laid_unicode_utf8_acceptRanges), ("unicode/utf8.first", laid_unicode_utf8_first)] }
def ModzipTurnsSaid : Prop := modzipTurnsRow.holds Tryd.pinned (OpenSpec.ofChange modzipTurnsSpec)

/-- ITS FALSE NEIGHBOUR: 'it returns false'. Refute it at one input. -/
def modzipTurnsWrong : ChangeSpec := { name := "modzipTurns", fn := fun _ => fun
  | [d1, d2] => { results := [.lit (.bool false)], args := [d1, d2] }
  | _ => none }
def ModzipTurnsWrongFalsely : Prop := modzipTurnsRow.holds Tryd.pinned (OpenSpec.ofChange modzipTurnsWrong)

/- THE SECOND FORM. 'bulk': how many values and letters a reading holds, each counted each time it is reached (what is shared counts as often as it is met; a slice's spare places count too). A statement '..UptoSaid' is the law's where the arguments, and the package variables that the reading takes, are together of bulk at most 1048576: NARROWER than '..Said'. Prove '..Said' where nothing that the law and all that it calls make is longer than what came in: it says more and counts as full. Else prove '..UptoSaid'. A law counts once. -/
mutual
def uptoBulk {H : Type} : DataW H → Nat
  | .lit (.string bytes) => bytes.length + 1
  | .lit _ => 1
  | .nil => 1
  | .ptr d => uptoBulk d + 1
  | .slice elems spare => uptoBulkAll elems + uptoBulkAll spare + 1
  | .agg parts => uptoBulkAll parts + 1
  | .iface _ d => uptoBulk d + 1
  | .map entries => uptoBulkEntries entries + 1
  | .held _ => 1
def uptoBulkAll {H : Type} : List (DataW H) → Nat
  | [] => 0
  | d :: r => uptoBulk d + uptoBulkAll r
def uptoBulkEntries {H : Type} : List (Lit × DataW H) → Nat
  | [] => 0
  | x :: r => uptoBulkEntry x + uptoBulkEntries r
def uptoBulkEntry {H : Type} : Lit × DataW H → Nat
  | (.string bytes, d) => bytes.length + uptoBulk d + 1
  | (_, d) => uptoBulk d + 1
 end
def uptoSmall : (H : Type) → List (DataW H) → Bool := fun _ ds => decide (uptoBulkAll ds ≤ 1048576)
def OpenSpec.upto (s : _root_.Go.ChangeSpec) : _root_.Go.OpenSpec := { _root_.Go.OpenSpec.ofChange s with cond := some uptoSmall }

/-- 'cartularylaw23.ZipWrites', WHERE WHAT IT READS IS OF BULK AT MOST 1048576: true; the input reads as it did. -/
def zipWritesUptoRow : OpenClaim := { program := "ytfoeooddnmppnaadoor", sum := "5949e1aeeeb35c77601ac292ed3235d2f1785487915232097466481413cb6132", func := "cartulary/cartularylaw23.ZipWrites", spec := "zipWrites", inPlace := ["internal/bytealg.IndexByteString", "internal/bytealg.IndexString"], unfollowed := true, recurses := true, named := ["unicode/utf8.first", "unicode/utf8.acceptRanges", "internal/bytealg.MaxLen"], apart := false, laid := [("unicode/utf8.acceptRanges", laid_unicode_utf8_acceptRanges), ("unicode/utf8.first", laid_unicode_utf8_first)], narrowed := true }
def ZipWritesUptoSaid : Prop := zipWritesUptoRow.holds Tryd.pinned (OpenSpec.upto zipWritesSpec)

/-- 'cartularylaw23.ZipFull', WHERE WHAT IT READS IS OF BULK AT MOST 1048576: true; the input reads as it did. -/
def zipFullUptoRow : OpenClaim := { program := "ytfoeooddnmppnaadoor", sum := "5949e1aeeeb35c77601ac292ed3235d2f1785487915232097466481413cb6132", func := "cartulary/cartularylaw23.ZipFull", spec := "zipFull", inPlace := ["internal/bytealg.IndexByteString", "internal/bytealg.IndexString"], unfollowed := true, recurses := true, named := ["unicode/utf8.first", "unicode/utf8.acceptRanges", "internal/bytealg.MaxLen"], apart := false, laid := [("unicode/utf8.acceptRanges", laid_unicode_utf8_acceptRanges), ("unicode/utf8.first", laid_unicode_utf8_first)], narrowed := true }
def ZipFullUptoSaid : Prop := zipFullUptoRow.holds Tryd.pinned (OpenSpec.upto zipFullSpec)

/-- 'cartularylaw23.ZipOne', WHERE WHAT IT READS IS OF BULK AT MOST 1048576: true; the input reads as it did. -/
def zipOneUptoRow : OpenClaim := { program := "ytfoeooddnmppnaadoor", sum := "5949e1aeeeb35c77601ac292ed3235d2f1785487915232097466481413cb6132", func := "cartulary/cartularylaw23.ZipOne", spec := "zipOne", inPlace := ["internal/bytealg.IndexByteString", "internal/bytealg.IndexString"], unfollowed := true, recurses := true, named := ["unicode/utf8.first", "unicode/utf8.acceptRanges", "internal/bytealg.MaxLen"], apart := false, laid := [("unicode/utf8.acceptRanges", laid_unicode_utf8_acceptRanges), ("unicode/utf8.first", laid_unicode_utf8_first)], narrowed := true }
def ZipOneUptoSaid : Prop := zipOneUptoRow.holds Tryd.pinned (OpenSpec.upto zipOneSpec)

/-- 'cartularylaw23.ZipSpoils', WHERE WHAT IT READS IS OF BULK AT MOST 1048576: true; the input reads as it did. -/
def zipSpoilsUptoRow : OpenClaim := { program := "ytfoeooddnmppnaadoor", sum := "5949e1aeeeb35c77601ac292ed3235d2f1785487915232097466481413cb6132", func := "cartulary/cartularylaw23.ZipSpoils", spec := "zipSpoils", inPlace := ["internal/bytealg.IndexByteString", "internal/bytealg.IndexString"], unfollowed := true, recurses := true, named := ["unicode/utf8.first", "unicode/utf8.acceptRanges", "internal/bytealg.MaxLen"], apart := false, laid := [("unicode/utf8.acceptRanges", laid_unicode_utf8_acceptRanges), ("unicode/utf8.first", laid_unicode_utf8_first)], narrowed := true }
def ZipSpoilsUptoSaid : Prop := zipSpoilsUptoRow.holds Tryd.pinned (OpenSpec.upto zipSpoilsSpec)

/-- 'cartularylaw24.ModzipHashes', WHERE WHAT IT READS IS OF BULK AT MOST 1048576: true; the input reads as it did. -/
def modzipHashesUptoRow : OpenClaim := { program := "ytfoeooddnmppnaadoor", sum := "5949e1aeeeb35c77601ac292ed3235d2f1785487915232097466481413cb6132", func := "cartulary/cartularylaw24.ModzipHashes", spec := "modzipHashes", inPlace := ["internal/bytealg.IndexByteString", "internal/bytealg.IndexString", "internal/bytealg.abigen_runtime_cmpstring"], unfollowed := true, recurses := true, named := ["unicode/utf8.first", "unicode/utf8.acceptRanges", "internal/bytealg.MaxLen"], apart := false, laid := [("unicode/utf8.acceptRanges", laid_unicode_utf8_acceptRanges), ("unicode/utf8.first", laid_unicode_utf8_first)], narrowed := true }
def ModzipHashesUptoSaid : Prop := modzipHashesUptoRow.holds Tryd.pinned (OpenSpec.upto modzipHashesSpec)

/-- 'cartularylaw24.ModzipNested', WHERE WHAT IT READS IS OF BULK AT MOST 1048576: true; the input reads as it did. -/
def modzipNestedUptoRow : OpenClaim := { program := "ytfoeooddnmppnaadoor", sum := "5949e1aeeeb35c77601ac292ed3235d2f1785487915232097466481413cb6132", func := "cartulary/cartularylaw24.ModzipNested", spec := "modzipNested", inPlace := ["internal/bytealg.IndexByteString", "internal/bytealg.IndexString", "internal/bytealg.abigen_runtime_cmpstring"], unfollowed := true, recurses := true, named := ["unicode/utf8.first", "unicode/utf8.acceptRanges", "internal/bytealg.MaxLen"], apart := false, laid := [("unicode/utf8.acceptRanges", laid_unicode_utf8_acceptRanges), ("unicode/utf8.first", laid_unicode_utf8_first)], narrowed := true }
def ModzipNestedUptoSaid : Prop := modzipNestedUptoRow.holds Tryd.pinned (OpenSpec.upto modzipNestedSpec)

/-- 'cartularylaw24.ModzipHashed', WHERE WHAT IT READS IS OF BULK AT MOST 1048576: true; the input reads as it did. -/
def modzipHashedUptoRow : OpenClaim := { program := "ytfoeooddnmppnaadoor", sum := "5949e1aeeeb35c77601ac292ed3235d2f1785487915232097466481413cb6132", func := "cartulary/cartularylaw24.ModzipHashed", spec := "modzipHashed", inPlace := ["internal/bytealg.abigen_runtime_cmpstring", "internal/bytealg.IndexByteString", "internal/bytealg.IndexString"], unfollowed := true, recurses := true, named := ["unicode/utf8.first", "unicode/utf8.acceptRanges", "internal/bytealg.MaxLen"], apart := false, laid := [("unicode/utf8.acceptRanges", laid_unicode_utf8_acceptRanges), ("unicode/utf8.first", laid_unicode_utf8_first)], narrowed := true }
def ModzipHashedUptoSaid : Prop := modzipHashedUptoRow.holds Tryd.pinned (OpenSpec.upto modzipHashedSpec)

/-- 'cartularylaw23.ZipPacked', WHERE WHAT IT READS IS OF BULK AT MOST 1048576: true; the input reads as it did. -/
def zipPackedUptoRow : OpenClaim := { program := "ytfoeooddnmppnaadoor", sum := "5949e1aeeeb35c77601ac292ed3235d2f1785487915232097466481413cb6132", func := "cartulary/cartularylaw23.ZipPacked", spec := "zipPacked", inPlace := ["internal/bytealg.IndexByteString", "internal/bytealg.IndexString"], unfollowed := true, recurses := true, named := ["unicode/utf8.first", "unicode/utf8.acceptRanges", "internal/bytealg.MaxLen"], apart := false, laid := [("unicode/utf8.acceptRanges", laid_unicode_utf8_acceptRanges), ("unicode/utf8.first", laid_unicode_utf8_first)], narrowed := true }
def ZipPackedUptoSaid : Prop := zipPackedUptoRow.holds Tryd.pinned (OpenSpec.upto zipPackedSpec)

/-- 'cartularylaw24.ModzipTurns', WHERE WHAT IT READS IS OF BULK AT MOST 1048576: true; the input reads as it did. -/
def modzipTurnsUptoRow : OpenClaim := { program := "ytfoeooddnmppnaadoor", sum := "5949e1aeeeb35c77601ac292ed3235d2f1785487915232097466481413cb6132", func := "cartulary/cartularylaw24.ModzipTurns", spec := "modzipTurns", inPlace := ["internal/bytealg.IndexByteString", "internal/bytealg.IndexString", "internal/bytealg.abigen_runtime_cmpstring"], unfollowed := true, recurses := true, named := ["unicode/utf8.first", "unicode/utf8.acceptRanges", "internal/bytealg.MaxLen"], apart := false, laid := [("unicode/utf8.acceptRanges", laid_unicode_utf8_acceptRanges), ("unicode/utf8.first", laid_unicode_utf8_first)], narrowed := true }
def ModzipTurnsUptoSaid : Prop := modzipTurnsUptoRow.holds Tryd.pinned (OpenSpec.upto modzipTurnsSpec)

end Rows
end Go.Proofs.YtfoeooddnmppnaaDoor

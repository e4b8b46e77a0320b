/-
  NARROWER THAN 'FOR EVERY INPUT', by the rows' own cells (each row's printed sentence says how): ModfileJoins: laid · ModfileParents: laid · ModfilePaths: laid · RefsHops: laid · RefsNames: laid · RefsListed: laid.
  DERIVED. THE GIVEN ROWS OF THIS SEAT. 6 by the template 'for every input the law returns true; each argument reads behind the call as it read before'; 0 by the template 'total and deterministic' (their statements: YtmhlmdnhpfhoeaaDoorTotals.lean).
  GIVEN WITH THE SEED: the statements are not yours to turn. If you find one false, say at which input.
  Laid BY PROGRAM, IN A SANDBOX (cutbox-rows.mjs): the forced cells as the released guide's own fill.sh prints them over the translation b9d9904796b464a9… (all of the seat's roots in one cut). By AI agents, Wed Nov 11 2026. No macro, syntax, notation, axiom, sorry.
-/
import Derived.Test.YtmhlmdnhpfhoeaaDoorChecked
import GoSem.PinnedTables
import GoSem.Claim
import GoSem.ClaimJoined
import GoSem.ClaimMapViews
import Derived.JoinedTies
import Derived.KernelRfl
namespace Go.Proofs.YtmhlmdnhpfhoeaaDoor
/- THE CELL 'sum', in the pinned program and in every row, IS THE sha256 OF THE DUMP (.gsa) THAT YtmhlmdnhpfhoeaaDoorProg.lean LOADS. Nothing in Lean hashes anything: it is a label: what it is worth is what the hold of that sum in a sandbox is worth. -/
noncomputable def Tryd.pinned : Pinned := { name := "ytmhlmdnhpfhoeaadoor", sum := "b9d9904796b464a99e6eaa99d7a6f5f61263f186d82668a3966a10eb0134d1dd", checked := Tryd.checked }
namespace Rows
def none {H : Type} : Left H := { results := [], args := [] }

/- WHAT THE LISTED PACKAGE-LEVEL VARIABLES READ AS WHEN THE CALL BEGINS. Each datum BY PROGRAM (the guide's laid-datum.mjs) off the statement by which the dump's own 'gosem.cut.vars' lays the variable. In a bare row this is a premise. The card (YtmhlmdnhpfhoeaaDoorCards.lean) ties it to the program's text. -/
def laid_unicode_utf8_acceptRanges {H : Type} : DataW H := .agg [.agg [.lit (.int .u8 128), .lit (.int .u8 191)], .agg [.lit (.int .u8 160), .lit (.int .u8 191)], .agg [.lit (.int .u8 128), .lit (.int .u8 159)], .agg [.lit (.int .u8 144), .lit (.int .u8 191)], .agg [.lit (.int .u8 128), .lit (.int .u8 143)], .agg [.lit (.int .u8 0), .lit (.int .u8 0)], .agg [.lit (.int .u8 0), .lit (.int .u8 0)], .agg [.lit (.int .u8 0), .lit (.int .u8 0)], .agg [.lit (.int .u8 0), .lit (.int .u8 0)], .agg [.lit (.int .u8 0), .lit (.int .u8 0)], .agg [.lit (.int .u8 0), .lit (.int .u8 0)], .agg [.lit (.int .u8 0), .lit (.int .u8 0)], .agg [.lit (.int .u8 0), .lit (.int .u8 0)], .agg [.lit (.int .u8 0), .lit (.int .u8 0)], .agg [.lit (.int .u8 0), .lit (.int .u8 0)], .agg [.lit (.int .u8 0), .lit (.int .u8 0)]]
/-- One of Go's own tables, pinned by name: the form's constant. -/
def laid_unicode_utf8_first : DataW Unit := Go.Pinned.utf8First

/-- 'cartularylaw22.ModfileJoins': WHATEVER THE INPUT: true; the input reads as it did. -/
def modfileJoinsSpec : ChangeSpec := { name := "modfileJoins", fn := fun _ => fun
  | [d1, d2] => { results := [.lit (.bool true)], args := [d1, d2] }
  | _ => none }
def modfileJoinsRow : OpenClaim := { program := "ytmhlmdnhpfhoeaadoor", sum := "b9d9904796b464a99e6eaa99d7a6f5f61263f186d82668a3966a10eb0134d1dd", func := "cartulary/cartularylaw22.ModfileJoins", spec := "modfileJoins", inPlace := ["internal/bytealg.IndexByteString", "internal/bytealg.CountString", "internal/bytealg.IndexString"], named := ["unicode/utf8.first", "unicode/utf8.acceptRanges", "internal/bytealg.MaxLen"], apart := false, laid := [("unicode/utf8.acceptRanges", laid_unicode_utf8_acceptRanges), ("unicode/utf8.first", laid_unicode_utf8_first)] }
def ModfileJoinsSaid : Prop := modfileJoinsRow.holds Tryd.pinned (OpenSpec.ofChange modfileJoinsSpec)

/-- ITS FALSE NEIGHBOUR: 'it returns false'. Refute it at one input. -/
def modfileJoinsWrong : ChangeSpec := { name := "modfileJoins", fn := fun _ => fun
  | [d1, d2] => { results := [.lit (.bool false)], args := [d1, d2] }
  | _ => none }
def ModfileJoinsWrongFalsely : Prop := modfileJoinsRow.holds Tryd.pinned (OpenSpec.ofChange modfileJoinsWrong)

/-- 'cartularylaw22.ModfileParents': WHATEVER THE INPUT: true; the input reads as it did. -/
def modfileParentsSpec : ChangeSpec := { name := "modfileParents", fn := fun _ => fun
  | [d] => { results := [.lit (.bool true)], args := [d] }
  | _ => none }
def modfileParentsRow : OpenClaim := { program := "ytmhlmdnhpfhoeaadoor", sum := "b9d9904796b464a99e6eaa99d7a6f5f61263f186d82668a3966a10eb0134d1dd", func := "cartulary/cartularylaw22.ModfileParents", spec := "modfileParents", inPlace := ["internal/bytealg.CountString", "internal/bytealg.IndexByteString", "internal/bytealg.IndexString"], unfollowed := true, recurses := true, named := ["unicode/utf8.first", "unicode/utf8.acceptRanges", "internal/bytealg.MaxLen"], apart := false, laid := [("unicode/utf8.acceptRanges", laid_unicode_utf8_acceptRanges), ("unicode/utf8.first", laid_unicode_utf8_first)] }
def ModfileParentsSaid : Prop := modfileParentsRow.holds Tryd.pinned (OpenSpec.ofChange modfileParentsSpec)

/-- ITS FALSE NEIGHBOUR: 'it returns false'. Refute it at one input. -/
def modfileParentsWrong : ChangeSpec := { name := "modfileParents", fn := fun _ => fun
  | [d] => { results := [.lit (.bool false)], args := [d] }
  | _ => none }
def ModfileParentsWrongFalsely : Prop := modfileParentsRow.holds Tryd.pinned (OpenSpec.ofChange modfileParentsWrong)

/-- 'cartularylaw22.ModfilePaths': WHATEVER THE INPUT: true; the input reads as it did. -/
def modfilePathsSpec : ChangeSpec := { name := "modfilePaths", fn := fun _ => fun
  | [d] => { results := [.lit (.bool true)], args := [d] }
  | _ => none }
def modfilePathsRow : OpenClaim := { program := "ytmhlmdnhpfhoeaadoor", sum := "b9d9904796b464a99e6eaa99d7a6f5f61263f186d82668a3966a10eb0134d1dd", func := "cartulary/cartularylaw22.ModfilePaths", spec := "modfilePaths", inPlace := ["internal/bytealg.IndexByteString", "internal/bytealg.CountString", "internal/bytealg.IndexString"], unfollowed := true, recurses := true, named := ["unicode/utf8.first", "unicode/utf8.acceptRanges", "internal/bytealg.MaxLen"], apart := false, laid := [("unicode/utf8.acceptRanges", laid_unicode_utf8_acceptRanges), ("unicode/utf8.first", laid_unicode_utf8_first)] }
def ModfilePathsSaid : Prop := modfilePathsRow.holds Tryd.pinned (OpenSpec.ofChange modfilePathsSpec)

/-- ITS FALSE NEIGHBOUR: 'it returns false'. Refute it at one input. -/
def modfilePathsWrong : ChangeSpec := { name := "modfilePaths", fn := fun _ => fun
  | [d] => { results := [.lit (.bool false)], args := [d] }
  | _ => none }
def ModfilePathsWrongFalsely : Prop := modfilePathsRow.holds Tryd.pinned (OpenSpec.ofChange modfilePathsWrong)

/-- 'cartularylaw16.RefsHops': WHATEVER THE INPUT: true; the input reads as it did. -/
def refsHopsSpec : ChangeSpec := { name := "refsHops", fn := fun _ => fun
  | [d1, d2] => { results := [.lit (.bool true)], args := [d1, d2] }
  | _ => none }
def refsHopsRow : OpenClaim := { program := "ytmhlmdnhpfhoeaadoor", sum := "b9d9904796b464a99e6eaa99d7a6f5f61263f186d82668a3966a10eb0134d1dd", func := "cartulary/cartularylaw16.RefsHops", spec := "refsHops", inPlace := ["internal/bytealg.abigen_runtime_cmpstring", "internal/bytealg.IndexByteString", "internal/bytealg.IndexString"], unfollowed := true, recurses := true, named := ["unicode/utf8.first", "unicode/utf8.acceptRanges", "internal/bytealg.MaxLen"], apart := false, laid := [("unicode/utf8.acceptRanges", laid_unicode_utf8_acceptRanges), ("unicode/utf8.first", laid_unicode_utf8_first)] }
def RefsHopsSaid : Prop := refsHopsRow.holds Tryd.pinned (OpenSpec.ofChange refsHopsSpec)

/-- ITS FALSE NEIGHBOUR: 'it returns false'. Refute it at one input. -/
def refsHopsWrong : ChangeSpec := { name := "refsHops", fn := fun _ => fun
  | [d1, d2] => { results := [.lit (.bool false)], args := [d1, d2] }
  | _ => none }
def RefsHopsWrongFalsely : Prop := refsHopsRow.holds Tryd.pinned (OpenSpec.ofChange refsHopsWrong)

/-- 'cartularylaw16.RefsNames': WHATEVER THE INPUT: true; the input reads as it did. -/
def refsNamesSpec : ChangeSpec := { name := "refsNames", fn := fun _ => fun
  | [d1, d2] => { results := [.lit (.bool true)], args := [d1, d2] }
  | _ => none }
def refsNamesRow : OpenClaim := { program := "ytmhlmdnhpfhoeaadoor", sum := "b9d9904796b464a99e6eaa99d7a6f5f61263f186d82668a3966a10eb0134d1dd", func := "cartulary/cartularylaw16.RefsNames", spec := "refsNames", inPlace := ["internal/bytealg.IndexByteString", "internal/bytealg.IndexString", "internal/bytealg.abigen_runtime_cmpstring"], unfollowed := true, recurses := true, named := ["unicode/utf8.first", "unicode/utf8.acceptRanges", "internal/bytealg.MaxLen"], apart := false, laid := [("unicode/utf8.acceptRanges", laid_unicode_utf8_acceptRanges), ("unicode/utf8.first", laid_unicode_utf8_first)] }
def RefsNamesSaid : Prop := refsNamesRow.holds Tryd.pinned (OpenSpec.ofChange refsNamesSpec)

/-- ITS FALSE NEIGHBOUR: 'it returns false'. Refute it at one input. -/
def refsNamesWrong : ChangeSpec := { name := "refsNames", fn := fun _ => fun
  | [d1, d2] => { results := [.lit (.bool false)], args := [d1, d2] }
  | _ => none }
def RefsNamesWrongFalsely : Prop := refsNamesRow.holds Tryd.pinned (OpenSpec.ofChange refsNamesWrong)

/-- 'cartularylaw16.RefsListed': WHATEVER THE INPUT: true; the input reads as it did. -/
def refsListedSpec : ChangeSpec := { name := "refsListed", fn := fun _ => fun
  | [d1, d2] => { results := [.lit (.bool true)], args := [d1, d2] }
  | _ => none }
def refsListedRow : OpenClaim := { program := "ytmhlmdnhpfhoeaadoor", sum := "b9d9904796b464a99e6eaa99d7a6f5f61263f186d82668a3966a10eb0134d1dd", func := "cartulary/cartularylaw16.RefsListed", spec := "refsListed", inPlace := ["internal/bytealg.abigen_runtime_cmpstring", "internal/bytealg.IndexByteString", "internal/bytealg.IndexString"], unfollowed := true, recurses := true, named := ["unicode/utf8.first", "unicode/utf8.acceptRanges", "internal/bytealg.MaxLen"], apart := false, laid := [("unicode/utf8.acceptRanges", laid_unicode_utf8_acceptRanges), ("unicode/utf8.first", laid_unicode_utf8_first)] }
def RefsListedSaid : Prop := refsListedRow.holds Tryd.pinned (OpenSpec.ofChange refsListedSpec)

/-- ITS FALSE NEIGHBOUR: 'it returns false'. Refute it at one input. -/
def refsListedWrong : ChangeSpec := { name := "refsListed", fn := fun _ => fun
  | [d1, d2] => { results := [.lit (.bool false)], args := [d1, d2] }
  | _ => none }
def RefsListedWrongFalsely : Prop := refsListedRow.holds Tryd.pinned (OpenSpec.ofChange refsListedWrong)

/- THE SECOND FORM. 'bulk': how many values and letters a reading holds, each counted each time it is reached (what is shared counts as often as it is met; a slice's spare places count too). A statement '..UptoSaid' is the law's where the arguments, and the package variables that the reading takes, are together of bulk at most 1048576: NARROWER than '..Said'. Prove '..Said' where nothing that the law and all that it calls make is longer than what came in: it says more and counts as full. Else prove '..UptoSaid'. A law counts once. -/
mutual
def uptoBulk {H : Type} : DataW H → Nat
  | .lit (.string bytes) => bytes.length + 1
  | .lit _ => 1
  | .nil => 1
  | .ptr d => uptoBulk d + 1
  | .slice elems spare => uptoBulkAll elems + uptoBulkAll spare + 1
  | .agg parts => uptoBulkAll parts + 1
  | .iface _ d => uptoBulk d + 1
  | .map entries => uptoBulkEntries entries + 1
  | .held _ => 1
def uptoBulkAll {H : Type} : List (DataW H) → Nat
  | [] => 0
  | d :: r => uptoBulk d + uptoBulkAll r
def uptoBulkEntries {H : Type} : List (Lit × DataW H) → Nat
  | [] => 0
  | x :: r => uptoBulkEntry x + uptoBulkEntries r
def uptoBulkEntry {H : Type} : Lit × DataW H → Nat
  | (.string bytes, d) => bytes.length + uptoBulk d + 1
  | (_, d) => uptoBulk d + 1
 end
def uptoSmall : (H : Type) → List (DataW H) → Bool := fun _ ds => decide (uptoBulkAll ds ≤ 1048576)
def OpenSpec.upto (s : _root_.Go.ChangeSpec) : _root_.Go.OpenSpec := { _root_.Go.OpenSpec.ofChange s with cond := some uptoSmall }

/-- 'cartularylaw22.ModfileJoins', WHERE WHAT IT READS IS OF BULK AT MOST 1048576: true; the input reads as it did. -/
def modfileJoinsUptoRow : OpenClaim := { program := "ytmhlmdnhpfhoeaadoor", sum := "b9d9904796b464a99e6eaa99d7a6f5f61263f186d82668a3966a10eb0134d1dd", func := "cartulary/cartularylaw22.ModfileJoins", spec := "modfileJoins", inPlace := ["internal/bytealg.IndexByteString", "internal/bytealg.CountString", "internal/bytealg.IndexString"], named := ["unicode/utf8.first", "unicode/utf8.acceptRanges", "internal/bytealg.MaxLen"], apart := false, laid := [("unicode/utf8.acceptRanges", laid_unicode_utf8_acceptRanges), ("unicode/utf8.first", laid_unicode_utf8_first)], narrowed := true }
def ModfileJoinsUptoSaid : Prop := modfileJoinsUptoRow.holds Tryd.pinned (OpenSpec.upto modfileJoinsSpec)

/-- 'cartularylaw22.ModfileParents', WHERE WHAT IT READS IS OF BULK AT MOST 1048576: true; the input reads as it did. -/
def modfileParentsUptoRow : OpenClaim := { program := "ytmhlmdnhpfhoeaadoor", sum := "b9d9904796b464a99e6eaa99d7a6f5f61263f186d82668a3966a10eb0134d1dd", func := "cartulary/cartularylaw22.ModfileParents", spec := "modfileParents", inPlace := ["internal/bytealg.CountString", "internal/bytealg.IndexByteString", "internal/bytealg.IndexString"], unfollowed := true, recurses := true, named := ["unicode/utf8.first", "unicode/utf8.acceptRanges", "internal/bytealg.MaxLen"], apart := false, laid := [("unicode/utf8.acceptRanges", laid_unicode_utf8_acceptRanges), ("unicode/utf8.first", laid_unicode_utf8_first)], narrowed := true }
def ModfileParentsUptoSaid : Prop := modfileParentsUptoRow.holds Tryd.pinned (OpenSpec.upto modfileParentsSpec)

/-- 'cartularylaw22.ModfilePaths', WHERE WHAT IT READS IS OF BULK AT MOST 1048576: true; the input reads as it did. -/
def modfilePathsUptoRow : OpenClaim := { program := "ytmhlmdnhpfhoeaadoor", sum := "b9d9904796b464a99e6eaa99d7a6f5f61263f186d82668a3966a10eb0134d1dd", func := "cartulary/cartularylaw22.ModfilePaths", spec := "modfilePaths", inPlace := ["internal/bytealg.IndexByteString", "internal/bytealg.CountString", "internal/bytealg.IndexString"], unfollowed := true, recurses := true, named := ["unicode/utf8.first", "unicode/utf8.acceptRanges", "internal/bytealg.MaxLen"], apart := false, laid := [("unicode/utf8.acceptRanges", laid_unicode_utf8_acceptRanges), ("unicode/utf8.first", laid_unicode_utf8_first)], narrowed := true }
def ModfilePathsUptoSaid : Prop := modfilePathsUptoRow.holds Tryd.pinned (OpenSpec.upto modfilePathsSpec)

/-- 'cartularylaw16.RefsHops', WHERE WHAT IT READS IS OF BULK AT MOST 1048576: true; the input reads as it did. -/
def refsHopsUptoRow : OpenClaim := { program := "ytmhlmdnhpfhoeaadoor", sum := "b9d9904796b464a99e6eaa99d7a6f5f61263f186d82668a3966a10eb0134d1dd", func := "cartulary/cartularylaw16.RefsHops", spec := "refsHops", inPlace := ["internal/bytealg.abigen_runtime_cmpstring", "internal/bytealg.IndexByteString", "internal/bytealg.IndexString"], unfollowed := true, recurses := true, named := ["unicode/utf8.first", "unicode/utf8.acceptRanges", "internal/bytealg.MaxLen"], apart := false, laid := [("unicode/utf8.acceptRanges", laid_unicode_utf8_acceptRanges), ("unicode/utf8.first", laid_unicode_utf8_first)], narrowed := true }
def RefsHopsUptoSaid : Prop := refsHopsUptoRow.holds Tryd.pinned (OpenSpec.upto refsHopsSpec)

/-- 'cartularylaw16.RefsNames', WHERE WHAT IT READS IS OF BULK AT MOST 1048576: true; the input reads as it did. -/
def refsNamesUptoRow : OpenClaim := { program := "ytmhlmdnhpfhoeaadoor", sum := "b9d9904796b464a99e6eaa99d7a6f5f61263f186d82668a3966a10eb0134d1dd", func := "cartulary/cartularylaw16.RefsNames", spec := "refsNames", inPlace := ["internal/bytealg.IndexByteString", "internal/bytealg.IndexString", "internal/bytealg.abigen_runtime_cmpstring"], unfollowed := true, recurses := true, named := ["unicode/utf8.first", "unicode/utf8.acceptRanges", "internal/bytealg.MaxLen"], apart := false, laid := [("unicode/utf8.acceptRanges", laid_unicode_utf8_acceptRanges), ("unicode/utf8.first", laid_unicode_utf8_first)], narrowed := true }
def RefsNamesUptoSaid : Prop := refsNamesUptoRow.holds Tryd.pinned (OpenSpec.upto refsNamesSpec)

/-- 'cartularylaw16.RefsListed', WHERE WHAT IT READS IS OF BULK AT MOST 1048576: true; the input reads as it did. -/
def refsListedUptoRow : OpenClaim := { program := "ytmhlmdnhpfhoeaadoor", sum := "b9d9904796b464a99e6eaa99d7a6f5f61263f186d82668a3966a10eb0134d1dd", func := "cartulary/cartularylaw16.RefsListed", spec := "refsListed", inPlace := ["internal/bytealg.abigen_runtime_cmpstring", "internal/bytealg.IndexByteString", "internal/bytealg.IndexString"], unfollowed := true, recurses := true, named := ["unicode/utf8.first", "unicode/utf8.acceptRanges", "internal/bytealg.MaxLen"], apart := false, laid := [("unicode/utf8.acceptRanges", laid_unicode_utf8_acceptRanges), ("unicode/utf8.first", laid_unicode_utf8_first)], narrowed := true }
def RefsListedUptoSaid : Prop := refsListedUptoRow.holds Tryd.pinned (OpenSpec.upto refsListedSpec)

end Rows
end Go.Proofs.YtmhlmdnhpfhoeaaDoor

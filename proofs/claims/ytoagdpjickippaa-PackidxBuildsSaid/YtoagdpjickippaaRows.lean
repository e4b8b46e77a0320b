/-
  No cell of these rows narrows 'for every input' (looked for: loops, veiled, ifaces, maps, wideKeys, modest, calm, conditions, laid).
  DERIVED. THE GIVEN ROWS OF THIS SEAT. 3 by the template 'for every input the law returns true; each argument reads behind the call as it read before'; 0 by the template 'total and deterministic' (their statements: YtoagdpjickippaaTotals.lean).
  GIVEN WITH THE SEED: the statements are not yours to turn. If you find one false, say at which input.
  Laid BY PROGRAM, IN A SANDBOX (cutbox-rows.mjs): the forced cells as the released guide's own fill.sh prints them over the translation a698a731fec1733a… (all of the seat's roots in one cut). By AI agents, Wed Nov 11 2026. No macro, syntax, notation, axiom, sorry.
-/
import Derived.Test.YtoagdpjickippaaChecked
import GoSem.Claim
import GoSem.ClaimJoined
import GoSem.ClaimMapViews
import Derived.JoinedTies
import Derived.KernelRfl
namespace Go.Proofs.Ytoagdpjickippaa
/- THE CELL 'sum', in the pinned program and in every row, IS THE sha256 OF THE DUMP (.gsa) THAT YtoagdpjickippaaProg.lean LOADS. Nothing in Lean hashes anything: it is a label: what it is worth is what the hold of that sum in a sandbox is worth. -/
noncomputable def Try.pinned : Pinned := { name := "ytoagdpjickippaa", sum := "a698a731fec1733ac00d731471190d6c4fc02faccb8c2cd51045964718656538", checked := Try.checked }
namespace Rows
def none {H : Type} : Left H := { results := [], args := [] }

/-- 'cartularylaw12.PackidxFinds': WHATEVER THE INPUT: true; the input reads as it did. -/
def packidxFindsSpec : ChangeSpec := { name := "packidxFinds", fn := fun _ => fun
  | [d1, d2, d3] => { results := [.lit (.bool true)], args := [d1, d2, d3] }
  | _ => none }
def packidxFindsRow : OpenClaim := { program := "ytoagdpjickippaa", sum := "a698a731fec1733ac00d731471190d6c4fc02faccb8c2cd51045964718656538", func := "cartulary/cartularylaw12.PackidxFinds", spec := "packidxFinds", inPlace := ["internal/bytealg.abigen_runtime_cmpstring"], unfollowed := true, recurses := true, apart := false }
def PackidxFindsSaid : Prop := packidxFindsRow.holds Try.pinned (OpenSpec.ofChange packidxFindsSpec)

/-- ITS FALSE NEIGHBOUR: 'it returns false'. Refute it at one input. -/
def packidxFindsWrong : ChangeSpec := { name := "packidxFinds", fn := fun _ => fun
  | [d1, d2, d3] => { results := [.lit (.bool false)], args := [d1, d2, d3] }
  | _ => none }
def PackidxFindsWrongFalsely : Prop := packidxFindsRow.holds Try.pinned (OpenSpec.ofChange packidxFindsWrong)

/-- 'cartularylaw12.PackidxReads': WHATEVER THE INPUT: true; the input reads as it did. -/
def packidxReadsSpec : ChangeSpec := { name := "packidxReads", fn := fun _ => fun
  | [d1, d2] => { results := [.lit (.bool true)], args := [d1, d2] }
  | _ => none }
def packidxReadsRow : OpenClaim := { program := "ytoagdpjickippaa", sum := "a698a731fec1733ac00d731471190d6c4fc02faccb8c2cd51045964718656538", func := "cartulary/cartularylaw12.PackidxReads", spec := "packidxReads", inPlace := ["internal/bytealg.abigen_runtime_cmpstring"], unfollowed := true, recurses := true, apart := false }
def PackidxReadsSaid : Prop := packidxReadsRow.holds Try.pinned (OpenSpec.ofChange packidxReadsSpec)

/-- ITS FALSE NEIGHBOUR: 'it returns false'. Refute it at one input. -/
def packidxReadsWrong : ChangeSpec := { name := "packidxReads", fn := fun _ => fun
  | [d1, d2] => { results := [.lit (.bool false)], args := [d1, d2] }
  | _ => none }
def PackidxReadsWrongFalsely : Prop := packidxReadsRow.holds Try.pinned (OpenSpec.ofChange packidxReadsWrong)

/-- 'cartularylaw12.PackidxBuilds': WHATEVER THE INPUT: true; the input reads as it did. -/
def packidxBuildsSpec : ChangeSpec := { name := "packidxBuilds", fn := fun _ => fun
  | [d1, d2, d3, d4] => { results := [.lit (.bool true)], args := [d1, d2, d3, d4] }
  | _ => none }
def packidxBuildsRow : OpenClaim := { program := "ytoagdpjickippaa", sum := "a698a731fec1733ac00d731471190d6c4fc02faccb8c2cd51045964718656538", func := "cartulary/cartularylaw12.PackidxBuilds", spec := "packidxBuilds", inPlace := ["internal/bytealg.abigen_runtime_cmpstring"], unfollowed := true, recurses := true, apart := false }
def PackidxBuildsSaid : Prop := packidxBuildsRow.holds Try.pinned (OpenSpec.ofChange packidxBuildsSpec)

/-- ITS FALSE NEIGHBOUR: 'it returns false'. Refute it at one input. -/
def packidxBuildsWrong : ChangeSpec := { name := "packidxBuilds", fn := fun _ => fun
  | [d1, d2, d3, d4] => { results := [.lit (.bool false)], args := [d1, d2, d3, d4] }
  | _ => none }
def PackidxBuildsWrongFalsely : Prop := packidxBuildsRow.holds Try.pinned (OpenSpec.ofChange packidxBuildsWrong)

/- THE SECOND FORM. 'bulk': how many values and letters a reading holds, each counted each time it is reached (what is shared counts as often as it is met; a slice's spare places count too). A statement '..UptoSaid' is the law's where the arguments, and the package variables that the reading takes, are together of bulk at most 1048576: NARROWER than '..Said'. Prove '..Said' where nothing that the law and all that it calls make is longer than what came in: it says more and counts as full. Else prove '..UptoSaid'. A law counts once. -/
mutual
def uptoBulk {H : Type} : DataW H → Nat
  | .lit (.string bytes) => bytes.length + 1
  | .lit _ => 1
  | .nil => 1
  | .ptr d => uptoBulk d + 1
  | .slice elems spare => uptoBulkAll elems + uptoBulkAll spare + 1
  | .agg parts => uptoBulkAll parts + 1
  | .iface _ d => uptoBulk d + 1
  | .map entries => uptoBulkEntries entries + 1
  | .held _ => 1
def uptoBulkAll {H : Type} : List (DataW H) → Nat
  | [] => 0
  | d :: r => uptoBulk d + uptoBulkAll r
def uptoBulkEntries {H : Type} : List (Lit × DataW H) → Nat
  | [] => 0
  | x :: r => uptoBulkEntry x + uptoBulkEntries r
def uptoBulkEntry {H : Type} : Lit × DataW H → Nat
  | (.string bytes, d) => bytes.length + uptoBulk d + 1
  | (_, d) => uptoBulk d + 1
 end
def uptoSmall : (H : Type) → List (DataW H) → Bool := fun _ ds => decide (uptoBulkAll ds ≤ 1048576)
def OpenSpec.upto (s : _root_.Go.ChangeSpec) : _root_.Go.OpenSpec := { _root_.Go.OpenSpec.ofChange s with cond := some uptoSmall }

/-- 'cartularylaw12.PackidxFinds', WHERE WHAT IT READS IS OF BULK AT MOST 1048576: true; the input reads as it did. -/
def packidxFindsUptoRow : OpenClaim := { program := "ytoagdpjickippaa", sum := "a698a731fec1733ac00d731471190d6c4fc02faccb8c2cd51045964718656538", func := "cartulary/cartularylaw12.PackidxFinds", spec := "packidxFinds", inPlace := ["internal/bytealg.abigen_runtime_cmpstring"], unfollowed := true, recurses := true, apart := false, narrowed := true }
def PackidxFindsUptoSaid : Prop := packidxFindsUptoRow.holds Try.pinned (OpenSpec.upto packidxFindsSpec)

/-- 'cartularylaw12.PackidxReads', WHERE WHAT IT READS IS OF BULK AT MOST 1048576: true; the input reads as it did. -/
def packidxReadsUptoRow : OpenClaim := { program := "ytoagdpjickippaa", sum := "a698a731fec1733ac00d731471190d6c4fc02faccb8c2cd51045964718656538", func := "cartulary/cartularylaw12.PackidxReads", spec := "packidxReads", inPlace := ["internal/bytealg.abigen_runtime_cmpstring"], unfollowed := true, recurses := true, apart := false, narrowed := true }
def PackidxReadsUptoSaid : Prop := packidxReadsUptoRow.holds Try.pinned (OpenSpec.upto packidxReadsSpec)

/-- 'cartularylaw12.PackidxBuilds', WHERE WHAT IT READS IS OF BULK AT MOST 1048576: true; the input reads as it did. -/
def packidxBuildsUptoRow : OpenClaim := { program := "ytoagdpjickippaa", sum := "a698a731fec1733ac00d731471190d6c4fc02faccb8c2cd51045964718656538", func := "cartulary/cartularylaw12.PackidxBuilds", spec := "packidxBuilds", inPlace := ["internal/bytealg.abigen_runtime_cmpstring"], unfollowed := true, recurses := true, apart := false, narrowed := true }
def PackidxBuildsUptoSaid : Prop := packidxBuildsUptoRow.holds Try.pinned (OpenSpec.upto packidxBuildsSpec)

end Rows
end Go.Proofs.Ytoagdpjickippaa

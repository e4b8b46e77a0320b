/-
  No cell of these rows narrows 'for every input' (looked for: loops, veiled, ifaces, maps, wideKeys, modest, calm, conditions, laid).
  DERIVED. THE GIVEN ROWS OF THIS SEAT. 8 by the template 'for every input the law returns true; each argument reads behind the call as it read before'; 0 by the template 'total and deterministic' (their statements: YtofejgaanpaieaaTotals.lean).
  GIVEN WITH THE SEED: the statements are not yours to turn. If you find one false, say at which input.
  Laid BY PROGRAM, IN A SANDBOX (cutbox-rows.mjs): the forced cells as the released guide's own fill.sh prints them over the translation 2411cc739a0a7cf3… (all of the seat's roots in one cut). By AI agents, Wed Nov 11 2026. No macro, syntax, notation, axiom, sorry.
-/
import Derived.Test.YtofejgaanpaieaaChecked
import GoSem.Claim
import GoSem.ClaimJoined
import GoSem.ClaimMapViews
import Derived.JoinedTies
import Derived.KernelRfl
namespace Go.Proofs.Ytofejgaanpaieaa
/- THE CELL 'sum', in the pinned program and in every row, IS THE sha256 OF THE DUMP (.gsa) THAT YtofejgaanpaieaaProg.lean LOADS. Nothing in Lean hashes anything: it is a label: what it is worth is what the hold of that sum in a sandbox is worth. -/
noncomputable def Try.pinned : Pinned := { name := "ytofejgaanpaieaa", sum := "2411cc739a0a7cf3b645cb01059c54b3f5c7d7376c88264f59201ac68ee43e0e", checked := Try.checked }
namespace Rows
def none {H : Type} : Left H := { results := [], args := [] }

/-- 'cartularylaw05.InflateReads': WHATEVER THE INPUT: true; the input reads as it did. -/
def inflateReadsSpec : ChangeSpec := { name := "inflateReads", fn := fun _ => fun
  | [d1, d2, d3] => { results := [.lit (.bool true)], args := [d1, d2, d3] }
  | _ => none }
def inflateReadsRow : OpenClaim := { program := "ytofejgaanpaieaa", sum := "2411cc739a0a7cf3b645cb01059c54b3f5c7d7376c88264f59201ac68ee43e0e", func := "cartulary/cartularylaw05.InflateReads", spec := "inflateReads", apart := false }
def InflateReadsSaid : Prop := inflateReadsRow.holds Try.pinned (OpenSpec.ofChange inflateReadsSpec)

/-- ITS FALSE NEIGHBOUR: 'it returns false'. Refute it at one input. -/
def inflateReadsWrong : ChangeSpec := { name := "inflateReads", fn := fun _ => fun
  | [d1, d2, d3] => { results := [.lit (.bool false)], args := [d1, d2, d3] }
  | _ => none }
def InflateReadsWrongFalsely : Prop := inflateReadsRow.holds Try.pinned (OpenSpec.ofChange inflateReadsWrong)

/-- 'cartularylaw06.ZlibReads': WHATEVER THE INPUT: true; the input reads as it did. -/
def zlibReadsSpec : ChangeSpec := { name := "zlibReads", fn := fun _ => fun
  | [d1, d2, d3, d4, d5] => { results := [.lit (.bool true)], args := [d1, d2, d3, d4, d5] }
  | _ => none }
def zlibReadsRow : OpenClaim := { program := "ytofejgaanpaieaa", sum := "2411cc739a0a7cf3b645cb01059c54b3f5c7d7376c88264f59201ac68ee43e0e", func := "cartulary/cartularylaw06.ZlibReads", spec := "zlibReads", apart := false }
def ZlibReadsSaid : Prop := zlibReadsRow.holds Try.pinned (OpenSpec.ofChange zlibReadsSpec)

/-- ITS FALSE NEIGHBOUR: 'it returns false'. Refute it at one input. -/
def zlibReadsWrong : ChangeSpec := { name := "zlibReads", fn := fun _ => fun
  | [d1, d2, d3, d4, d5] => { results := [.lit (.bool false)], args := [d1, d2, d3, d4, d5] }
  | _ => none }
def ZlibReadsWrongFalsely : Prop := zlibReadsRow.holds Try.pinned (OpenSpec.ofChange zlibReadsWrong)

/-- 'cartularylaw06.ZlibAround': WHATEVER THE INPUT: true; the input reads as it did. -/
def zlibAroundSpec : ChangeSpec := { name := "zlibAround", fn := fun _ => fun
  | [d1, d2] => { results := [.lit (.bool true)], args := [d1, d2] }
  | _ => none }
def zlibAroundRow : OpenClaim := { program := "ytofejgaanpaieaa", sum := "2411cc739a0a7cf3b645cb01059c54b3f5c7d7376c88264f59201ac68ee43e0e", func := "cartulary/cartularylaw06.ZlibAround", spec := "zlibAround", apart := false }
def ZlibAroundSaid : Prop := zlibAroundRow.holds Try.pinned (OpenSpec.ofChange zlibAroundSpec)

/-- ITS FALSE NEIGHBOUR: 'it returns false'. Refute it at one input. -/
def zlibAroundWrong : ChangeSpec := { name := "zlibAround", fn := fun _ => fun
  | [d1, d2] => { results := [.lit (.bool false)], args := [d1, d2] }
  | _ => none }
def ZlibAroundWrongFalsely : Prop := zlibAroundRow.holds Try.pinned (OpenSpec.ofChange zlibAroundWrong)

/-- 'cartularylaw06.ZlibHeads': WHATEVER THE INPUT: true; the input reads as it did. -/
def zlibHeadsSpec : ChangeSpec := { name := "zlibHeads", fn := fun _ => fun
  | [d] => { results := [.lit (.bool true)], args := [d] }
  | _ => none }
def zlibHeadsRow : OpenClaim := { program := "ytofejgaanpaieaa", sum := "2411cc739a0a7cf3b645cb01059c54b3f5c7d7376c88264f59201ac68ee43e0e", func := "cartulary/cartularylaw06.ZlibHeads", spec := "zlibHeads", apart := false }
def ZlibHeadsSaid : Prop := zlibHeadsRow.holds Try.pinned (OpenSpec.ofChange zlibHeadsSpec)

/-- ITS FALSE NEIGHBOUR: 'it returns false'. Refute it at one input. -/
def zlibHeadsWrong : ChangeSpec := { name := "zlibHeads", fn := fun _ => fun
  | [d] => { results := [.lit (.bool false)], args := [d] }
  | _ => none }
def ZlibHeadsWrongFalsely : Prop := zlibHeadsRow.holds Try.pinned (OpenSpec.ofChange zlibHeadsWrong)

/-- 'cartularylaw05.InflateWrites': WHATEVER THE INPUT: true; the input reads as it did. -/
def inflateWritesSpec : ChangeSpec := { name := "inflateWrites", fn := fun _ => fun
  | [d] => { results := [.lit (.bool true)], args := [d] }
  | _ => none }
def inflateWritesRow : OpenClaim := { program := "ytofejgaanpaieaa", sum := "2411cc739a0a7cf3b645cb01059c54b3f5c7d7376c88264f59201ac68ee43e0e", func := "cartulary/cartularylaw05.InflateWrites", spec := "inflateWrites", unfollowed := true, recurses := true, apart := false }
def InflateWritesSaid : Prop := inflateWritesRow.holds Try.pinned (OpenSpec.ofChange inflateWritesSpec)

/-- ITS FALSE NEIGHBOUR: 'it returns false'. Refute it at one input. -/
def inflateWritesWrong : ChangeSpec := { name := "inflateWrites", fn := fun _ => fun
  | [d] => { results := [.lit (.bool false)], args := [d] }
  | _ => none }
def InflateWritesWrongFalsely : Prop := inflateWritesRow.holds Try.pinned (OpenSpec.ofChange inflateWritesWrong)

/-- 'cartularylaw05.InflateInside': WHATEVER THE INPUT: true; the input reads as it did. -/
def inflateInsideSpec : ChangeSpec := { name := "inflateInside", fn := fun _ => fun
  | [d1, d2, d3] => { results := [.lit (.bool true)], args := [d1, d2, d3] }
  | _ => none }
def inflateInsideRow : OpenClaim := { program := "ytofejgaanpaieaa", sum := "2411cc739a0a7cf3b645cb01059c54b3f5c7d7376c88264f59201ac68ee43e0e", func := "cartulary/cartularylaw05.InflateInside", spec := "inflateInside", unfollowed := true, recurses := true, apart := false }
def InflateInsideSaid : Prop := inflateInsideRow.holds Try.pinned (OpenSpec.ofChange inflateInsideSpec)

/-- ITS FALSE NEIGHBOUR: 'it returns false'. Refute it at one input. -/
def inflateInsideWrong : ChangeSpec := { name := "inflateInside", fn := fun _ => fun
  | [d1, d2, d3] => { results := [.lit (.bool false)], args := [d1, d2, d3] }
  | _ => none }
def InflateInsideWrongFalsely : Prop := inflateInsideRow.holds Try.pinned (OpenSpec.ofChange inflateInsideWrong)

/-- 'cartularylaw05.InflateTwice': WHATEVER THE INPUT: true; the input reads as it did. -/
def inflateTwiceSpec : ChangeSpec := { name := "inflateTwice", fn := fun _ => fun
  | [d1, d2] => { results := [.lit (.bool true)], args := [d1, d2] }
  | _ => none }
def inflateTwiceRow : OpenClaim := { program := "ytofejgaanpaieaa", sum := "2411cc739a0a7cf3b645cb01059c54b3f5c7d7376c88264f59201ac68ee43e0e", func := "cartulary/cartularylaw05.InflateTwice", spec := "inflateTwice", unfollowed := true, recurses := true, apart := false }
def InflateTwiceSaid : Prop := inflateTwiceRow.holds Try.pinned (OpenSpec.ofChange inflateTwiceSpec)

/-- ITS FALSE NEIGHBOUR: 'it returns false'. Refute it at one input. -/
def inflateTwiceWrong : ChangeSpec := { name := "inflateTwice", fn := fun _ => fun
  | [d1, d2] => { results := [.lit (.bool false)], args := [d1, d2] }
  | _ => none }
def InflateTwiceWrongFalsely : Prop := inflateTwiceRow.holds Try.pinned (OpenSpec.ofChange inflateTwiceWrong)

/-- 'cartularylaw06.ZlibWrites': WHATEVER THE INPUT: true; the input reads as it did. -/
def zlibWritesSpec : ChangeSpec := { name := "zlibWrites", fn := fun _ => fun
  | [d1, d2, d3, d4] => { results := [.lit (.bool true)], args := [d1, d2, d3, d4] }
  | _ => none }
def zlibWritesRow : OpenClaim := { program := "ytofejgaanpaieaa", sum := "2411cc739a0a7cf3b645cb01059c54b3f5c7d7376c88264f59201ac68ee43e0e", func := "cartulary/cartularylaw06.ZlibWrites", spec := "zlibWrites", unfollowed := true, recurses := true, apart := false }
def ZlibWritesSaid : Prop := zlibWritesRow.holds Try.pinned (OpenSpec.ofChange zlibWritesSpec)

/-- ITS FALSE NEIGHBOUR: 'it returns false'. Refute it at one input. -/
def zlibWritesWrong : ChangeSpec := { name := "zlibWrites", fn := fun _ => fun
  | [d1, d2, d3, d4] => { results := [.lit (.bool false)], args := [d1, d2, d3, d4] }
  | _ => none }
def ZlibWritesWrongFalsely : Prop := zlibWritesRow.holds Try.pinned (OpenSpec.ofChange zlibWritesWrong)

/- THE SECOND FORM. 'bulk': how many values and letters a reading holds, each counted each time it is reached (what is shared counts as often as it is met; a slice's spare places count too). A statement '..UptoSaid' is the law's where the arguments, and the package variables that the reading takes, are together of bulk at most 1048576: NARROWER than '..Said'. Prove '..Said' where nothing that the law and all that it calls make is longer than what came in: it says more and counts as full. Else prove '..UptoSaid'. A law counts once. -/
mutual
def uptoBulk {H : Type} : DataW H → Nat
  | .lit (.string bytes) => bytes.length + 1
  | .lit _ => 1
  | .nil => 1
  | .ptr d => uptoBulk d + 1
  | .slice elems spare => uptoBulkAll elems + uptoBulkAll spare + 1
  | .agg parts => uptoBulkAll parts + 1
  | .iface _ d => uptoBulk d + 1
  | .map entries => uptoBulkEntries entries + 1
  | .held _ => 1
def uptoBulkAll {H : Type} : List (DataW H) → Nat
  | [] => 0
  | d :: r => uptoBulk d + uptoBulkAll r
def uptoBulkEntries {H : Type} : List (Lit × DataW H) → Nat
  | [] => 0
  | x :: r => uptoBulkEntry x + uptoBulkEntries r
def uptoBulkEntry {H : Type} : Lit × DataW H → Nat
  | (.string bytes, d) => bytes.length + uptoBulk d + 1
  | (_, d) => uptoBulk d + 1
 end
def uptoSmall : (H : Type) → List (DataW H) → Bool := fun _ ds => decide (uptoBulkAll ds ≤ 1048576)
def OpenSpec.upto (s : _root_.Go.ChangeSpec) : _root_.Go.OpenSpec := { _root_.Go.OpenSpec.ofChange s with cond := some uptoSmall }

/-- 'cartularylaw05.InflateReads', WHERE WHAT IT READS IS OF BULK AT MOST 1048576: true; the input reads as it did. -/
def inflateReadsUptoRow : OpenClaim := { program := "ytofejgaanpaieaa", sum := "2411cc739a0a7cf3b645cb01059c54b3f5c7d7376c88264f59201ac68ee43e0e", func := "cartulary/cartularylaw05.InflateReads", spec := "inflateReads", apart := false, narrowed := true }
def InflateReadsUptoSaid : Prop := inflateReadsUptoRow.holds Try.pinned (OpenSpec.upto inflateReadsSpec)

/-- 'cartularylaw06.ZlibReads', WHERE WHAT IT READS IS OF BULK AT MOST 1048576: true; the input reads as it did. -/
def zlibReadsUptoRow : OpenClaim := { program := "ytofejgaanpaieaa", sum := "2411cc739a0a7cf3b645cb01059c54b3f5c7d7376c88264f59201ac68ee43e0e", func := "cartulary/cartularylaw06.ZlibReads", spec := "zlibReads", apart := false, narrowed := true }
def ZlibReadsUptoSaid : Prop := zlibReadsUptoRow.holds Try.pinned (OpenSpec.upto zlibReadsSpec)

/-- 'cartularylaw06.ZlibAround', WHERE WHAT IT READS IS OF BULK AT MOST 1048576: true; the input reads as it did. -/
def zlibAroundUptoRow : OpenClaim := { program := "ytofejgaanpaieaa", sum := "2411cc739a0a7cf3b645cb01059c54b3f5c7d7376c88264f59201ac68ee43e0e", func := "cartulary/cartularylaw06.ZlibAround", spec := "zlibAround", apart := false, narrowed := true }
def ZlibAroundUptoSaid : Prop := zlibAroundUptoRow.holds Try.pinned (OpenSpec.upto zlibAroundSpec)

/-- 'cartularylaw06.ZlibHeads', WHERE WHAT IT READS IS OF BULK AT MOST 1048576: true; the input reads as it did. -/
def zlibHeadsUptoRow : OpenClaim := { program := "ytofejgaanpaieaa", sum := "2411cc739a0a7cf3b645cb01059c54b3f5c7d7376c88264f59201ac68ee43e0e", func := "cartulary/cartularylaw06.ZlibHeads", spec := "zlibHeads", apart := false, narrowed := true }
def ZlibHeadsUptoSaid : Prop := zlibHeadsUptoRow.holds Try.pinned (OpenSpec.upto zlibHeadsSpec)

/-- 'cartularylaw05.InflateWrites', WHERE WHAT IT READS IS OF BULK AT MOST 1048576: true; the input reads as it did. -/
def inflateWritesUptoRow : OpenClaim := { program := "ytofejgaanpaieaa", sum := "2411cc739a0a7cf3b645cb01059c54b3f5c7d7376c88264f59201ac68ee43e0e", func := "cartulary/cartularylaw05.InflateWrites", spec := "inflateWrites", unfollowed := true, recurses := true, apart := false, narrowed := true }
def InflateWritesUptoSaid : Prop := inflateWritesUptoRow.holds Try.pinned (OpenSpec.upto inflateWritesSpec)

/-- 'cartularylaw05.InflateInside', WHERE WHAT IT READS IS OF BULK AT MOST 1048576: true; the input reads as it did. -/
def inflateInsideUptoRow : OpenClaim := { program := "ytofejgaanpaieaa", sum := "2411cc739a0a7cf3b645cb01059c54b3f5c7d7376c88264f59201ac68ee43e0e", func := "cartulary/cartularylaw05.InflateInside", spec := "inflateInside", unfollowed := true, recurses := true, apart := false, narrowed := true }
def InflateInsideUptoSaid : Prop := inflateInsideUptoRow.holds Try.pinned (OpenSpec.upto inflateInsideSpec)

/-- 'cartularylaw05.InflateTwice', WHERE WHAT IT READS IS OF BULK AT MOST 1048576: true; the input reads as it did. -/
def inflateTwiceUptoRow : OpenClaim := { program := "ytofejgaanpaieaa", sum := "2411cc739a0a7cf3b645cb01059c54b3f5c7d7376c88264f59201ac68ee43e0e", func := "cartulary/cartularylaw05.InflateTwice", spec := "inflateTwice", unfollowed := true, recurses := true, apart := false, narrowed := true }
def InflateTwiceUptoSaid : Prop := inflateTwiceUptoRow.holds Try.pinned (OpenSpec.upto inflateTwiceSpec)

/-- 'cartularylaw06.ZlibWrites', WHERE WHAT IT READS IS OF BULK AT MOST 1048576: true; the input reads as it did. -/
def zlibWritesUptoRow : OpenClaim := { program := "ytofejgaanpaieaa", sum := "2411cc739a0a7cf3b645cb01059c54b3f5c7d7376c88264f59201ac68ee43e0e", func := "cartulary/cartularylaw06.ZlibWrites", spec := "zlibWrites", unfollowed := true, recurses := true, apart := false, narrowed := true }
def ZlibWritesUptoSaid : Prop := zlibWritesUptoRow.holds Try.pinned (OpenSpec.upto zlibWritesSpec)

end Rows
end Go.Proofs.Ytofejgaanpaieaa

/-
  No cell of these rows narrows 'for every input' (looked for: loops, veiled, ifaces, maps, wideKeys, modest, calm, conditions, laid).
  DERIVED. THE GIVEN ROWS OF THIS SEAT. 6 by the template 'for every input the law returns true; each argument reads behind the call as it read before'; 0 by the template 'total and deterministic' (their statements: YtcebplekflpbiaaTotals.lean).
  GIVEN WITH THE SEED: the statements are not yours to turn. If you find one false, say at which input.
  Laid BY PROGRAM, IN A SANDBOX (cutbox-rows.mjs): the forced cells as the released guide's own fill.sh prints them over the translation 95fd5fa62b7f1109… (all of the seat's roots in one cut). By AI agents, Wed Nov 11 2026. No macro, syntax, notation, axiom, sorry.
-/
import Derived.Test.YtcebplekflpbiaaChecked
import GoSem.Claim
import GoSem.ClaimJoined
import GoSem.ClaimMapViews
import Derived.JoinedTies
import Derived.KernelRfl
namespace Go.Proofs.Ytcebplekflpbiaa
/- THE CELL 'sum', in the pinned program and in every row, IS THE sha256 OF THE DUMP (.gsa) THAT YtcebplekflpbiaaProg.lean LOADS. Nothing in Lean hashes anything: it is a label: what it is worth is what the hold of that sum in a sandbox is worth. -/
noncomputable def Try.pinned : Pinned := { name := "ytcebplekflpbiaa", sum := "95fd5fa62b7f11091d3f0e8d23a1eae3140f178ddfc421c43885770dfa8e2cb8", checked := Try.checked }
namespace Rows
def none {H : Type} : Left H := { results := [], args := [] }

/-- 'cartularylaw05.InflateReads': WHATEVER THE INPUT: true; the input reads as it did. -/
def inflateReadsSpec : ChangeSpec := { name := "inflateReads", fn := fun _ => fun
  | [d1, d2, d3] => { results := [.lit (.bool true)], args := [d1, d2, d3] }
  | _ => none }
def inflateReadsRow : OpenClaim := { program := "ytcebplekflpbiaa", sum := "95fd5fa62b7f11091d3f0e8d23a1eae3140f178ddfc421c43885770dfa8e2cb8", func := "cartulary/cartularylaw05.InflateReads", spec := "inflateReads", apart := false }
def InflateReadsSaid : Prop := inflateReadsRow.holds Try.pinned (OpenSpec.ofChange inflateReadsSpec)

/-- ITS FALSE NEIGHBOUR: 'it returns false'. Refute it at one input. -/
def inflateReadsWrong : ChangeSpec := { name := "inflateReads", fn := fun _ => fun
  | [d1, d2, d3] => { results := [.lit (.bool false)], args := [d1, d2, d3] }
  | _ => none }
def InflateReadsWrongFalsely : Prop := inflateReadsRow.holds Try.pinned (OpenSpec.ofChange inflateReadsWrong)

/-- 'cartularylaw05.InflateBegins': WHATEVER THE INPUT: true; the input reads as it did. -/
def inflateBeginsSpec : ChangeSpec := { name := "inflateBegins", fn := fun _ => fun
  | [d1, d2, d3] => { results := [.lit (.bool true)], args := [d1, d2, d3] }
  | _ => none }
def inflateBeginsRow : OpenClaim := { program := "ytcebplekflpbiaa", sum := "95fd5fa62b7f11091d3f0e8d23a1eae3140f178ddfc421c43885770dfa8e2cb8", func := "cartulary/cartularylaw05.InflateBegins", spec := "inflateBegins", apart := false }
def InflateBeginsSaid : Prop := inflateBeginsRow.holds Try.pinned (OpenSpec.ofChange inflateBeginsSpec)

/-- ITS FALSE NEIGHBOUR: 'it returns false'. Refute it at one input. -/
def inflateBeginsWrong : ChangeSpec := { name := "inflateBegins", fn := fun _ => fun
  | [d1, d2, d3] => { results := [.lit (.bool false)], args := [d1, d2, d3] }
  | _ => none }
def InflateBeginsWrongFalsely : Prop := inflateBeginsRow.holds Try.pinned (OpenSpec.ofChange inflateBeginsWrong)

/-- 'cartularylaw05.InflateLimits': WHATEVER THE INPUT: true; the input reads as it did. -/
def inflateLimitsSpec : ChangeSpec := { name := "inflateLimits", fn := fun _ => fun
  | [d1, d2, d3] => { results := [.lit (.bool true)], args := [d1, d2, d3] }
  | _ => none }
def inflateLimitsRow : OpenClaim := { program := "ytcebplekflpbiaa", sum := "95fd5fa62b7f11091d3f0e8d23a1eae3140f178ddfc421c43885770dfa8e2cb8", func := "cartulary/cartularylaw05.InflateLimits", spec := "inflateLimits", apart := false }
def InflateLimitsSaid : Prop := inflateLimitsRow.holds Try.pinned (OpenSpec.ofChange inflateLimitsSpec)

/-- ITS FALSE NEIGHBOUR: 'it returns false'. Refute it at one input. -/
def inflateLimitsWrong : ChangeSpec := { name := "inflateLimits", fn := fun _ => fun
  | [d1, d2, d3] => { results := [.lit (.bool false)], args := [d1, d2, d3] }
  | _ => none }
def InflateLimitsWrongFalsely : Prop := inflateLimitsRow.holds Try.pinned (OpenSpec.ofChange inflateLimitsWrong)

/-- 'cartularylaw06.ZlibReads': WHATEVER THE INPUT: true; the input reads as it did. -/
def zlibReadsSpec : ChangeSpec := { name := "zlibReads", fn := fun _ => fun
  | [d1, d2, d3, d4, d5] => { results := [.lit (.bool true)], args := [d1, d2, d3, d4, d5] }
  | _ => none }
def zlibReadsRow : OpenClaim := { program := "ytcebplekflpbiaa", sum := "95fd5fa62b7f11091d3f0e8d23a1eae3140f178ddfc421c43885770dfa8e2cb8", func := "cartulary/cartularylaw06.ZlibReads", spec := "zlibReads", apart := false }
def ZlibReadsSaid : Prop := zlibReadsRow.holds Try.pinned (OpenSpec.ofChange zlibReadsSpec)

/-- ITS FALSE NEIGHBOUR: 'it returns false'. Refute it at one input. -/
def zlibReadsWrong : ChangeSpec := { name := "zlibReads", fn := fun _ => fun
  | [d1, d2, d3, d4, d5] => { results := [.lit (.bool false)], args := [d1, d2, d3, d4, d5] }
  | _ => none }
def ZlibReadsWrongFalsely : Prop := zlibReadsRow.holds Try.pinned (OpenSpec.ofChange zlibReadsWrong)

/-- 'cartularylaw06.ZlibAround': WHATEVER THE INPUT: true; the input reads as it did. -/
def zlibAroundSpec : ChangeSpec := { name := "zlibAround", fn := fun _ => fun
  | [d1, d2] => { results := [.lit (.bool true)], args := [d1, d2] }
  | _ => none }
def zlibAroundRow : OpenClaim := { program := "ytcebplekflpbiaa", sum := "95fd5fa62b7f11091d3f0e8d23a1eae3140f178ddfc421c43885770dfa8e2cb8", func := "cartulary/cartularylaw06.ZlibAround", spec := "zlibAround", apart := false }
def ZlibAroundSaid : Prop := zlibAroundRow.holds Try.pinned (OpenSpec.ofChange zlibAroundSpec)

/-- ITS FALSE NEIGHBOUR: 'it returns false'. Refute it at one input. -/
def zlibAroundWrong : ChangeSpec := { name := "zlibAround", fn := fun _ => fun
  | [d1, d2] => { results := [.lit (.bool false)], args := [d1, d2] }
  | _ => none }
def ZlibAroundWrongFalsely : Prop := zlibAroundRow.holds Try.pinned (OpenSpec.ofChange zlibAroundWrong)

/-- 'cartularylaw06.ZlibHeads': WHATEVER THE INPUT: true; the input reads as it did. -/
def zlibHeadsSpec : ChangeSpec := { name := "zlibHeads", fn := fun _ => fun
  | [d] => { results := [.lit (.bool true)], args := [d] }
  | _ => none }
def zlibHeadsRow : OpenClaim := { program := "ytcebplekflpbiaa", sum := "95fd5fa62b7f11091d3f0e8d23a1eae3140f178ddfc421c43885770dfa8e2cb8", func := "cartulary/cartularylaw06.ZlibHeads", spec := "zlibHeads", apart := false }
def ZlibHeadsSaid : Prop := zlibHeadsRow.holds Try.pinned (OpenSpec.ofChange zlibHeadsSpec)

/-- ITS FALSE NEIGHBOUR: 'it returns false'. Refute it at one input. -/
def zlibHeadsWrong : ChangeSpec := { name := "zlibHeads", fn := fun _ => fun
  | [d] => { results := [.lit (.bool false)], args := [d] }
  | _ => none }
def ZlibHeadsWrongFalsely : Prop := zlibHeadsRow.holds Try.pinned (OpenSpec.ofChange zlibHeadsWrong)

/- THE SECOND FORM. 'bulk': how many values and letters a reading holds, each counted each time it is reached (what is shared counts as often as it is met; a slice's spare places count too). A statement '..UptoSaid' is the law's where the arguments, and the package variables that the reading takes, are together of bulk at most 1048576: NARROWER than '..Said'. Prove '..Said' where nothing that the law and all that it calls make is longer than what came in: it says more and counts as full. Else prove '..UptoSaid'. A law counts once. -/
mutual
def uptoBulk {H : Type} : DataW H → Nat
  | .lit (.string bytes) => bytes.length + 1
  | .lit _ => 1
  | .nil => 1
  | .ptr d => uptoBulk d + 1
  | .slice elems spare => uptoBulkAll elems + uptoBulkAll spare + 1
  | .agg parts => uptoBulkAll parts + 1
  | .iface _ d => uptoBulk d + 1
  | .map entries => uptoBulkEntries entries + 1
  | .held _ => 1
def uptoBulkAll {H : Type} : List (DataW H) → Nat
  | [] => 0
  | d :: r => uptoBulk d + uptoBulkAll r
def uptoBulkEntries {H : Type} : List (Lit × DataW H) → Nat
  | [] => 0
  | x :: r => uptoBulkEntry x + uptoBulkEntries r
def uptoBulkEntry {H : Type} : Lit × DataW H → Nat
  | (.string bytes, d) => bytes.length + uptoBulk d + 1
  | (_, d) => uptoBulk d + 1
 end
def uptoSmall : (H : Type) → List (DataW H) → Bool := fun _ ds => decide (uptoBulkAll ds ≤ 1048576)
def OpenSpec.upto (s : _root_.Go.ChangeSpec) : _root_.Go.OpenSpec := { _root_.Go.OpenSpec.ofChange s with cond := some uptoSmall }

/-- 'cartularylaw05.InflateReads', WHERE WHAT IT READS IS OF BULK AT MOST 1048576: true; the input reads as it did. -/
def inflateReadsUptoRow : OpenClaim := { program := "ytcebplekflpbiaa", sum := "95fd5fa62b7f11091d3f0e8d23a1eae3140f178ddfc421c43885770dfa8e2cb8", func := "cartulary/cartularylaw05.InflateReads", spec := "inflateReads", apart := false, narrowed := true }
def InflateReadsUptoSaid : Prop := inflateReadsUptoRow.holds Try.pinned (OpenSpec.upto inflateReadsSpec)

/-- 'cartularylaw05.InflateBegins', WHERE WHAT IT READS IS OF BULK AT MOST 1048576: true; the input reads as it did. -/
def inflateBeginsUptoRow : OpenClaim := { program := "ytcebplekflpbiaa", sum := "95fd5fa62b7f11091d3f0e8d23a1eae3140f178ddfc421c43885770dfa8e2cb8", func := "cartulary/cartularylaw05.InflateBegins", spec := "inflateBegins", apart := false, narrowed := true }
def InflateBeginsUptoSaid : Prop := inflateBeginsUptoRow.holds Try.pinned (OpenSpec.upto inflateBeginsSpec)

/-- 'cartularylaw05.InflateLimits', WHERE WHAT IT READS IS OF BULK AT MOST 1048576: true; the input reads as it did. -/
def inflateLimitsUptoRow : OpenClaim := { program := "ytcebplekflpbiaa", sum := "95fd5fa62b7f11091d3f0e8d23a1eae3140f178ddfc421c43885770dfa8e2cb8", func := "cartulary/cartularylaw05.InflateLimits", spec := "inflateLimits", apart := false, narrowed := true }
def InflateLimitsUptoSaid : Prop := inflateLimitsUptoRow.holds Try.pinned (OpenSpec.upto inflateLimitsSpec)

/-- 'cartularylaw06.ZlibReads', WHERE WHAT IT READS IS OF BULK AT MOST 1048576: true; the input reads as it did. -/
def zlibReadsUptoRow : OpenClaim := { program := "ytcebplekflpbiaa", sum := "95fd5fa62b7f11091d3f0e8d23a1eae3140f178ddfc421c43885770dfa8e2cb8", func := "cartulary/cartularylaw06.ZlibReads", spec := "zlibReads", apart := false, narrowed := true }
def ZlibReadsUptoSaid : Prop := zlibReadsUptoRow.holds Try.pinned (OpenSpec.upto zlibReadsSpec)

/-- 'cartularylaw06.ZlibAround', WHERE WHAT IT READS IS OF BULK AT MOST 1048576: true; the input reads as it did. -/
def zlibAroundUptoRow : OpenClaim := { program := "ytcebplekflpbiaa", sum := "95fd5fa62b7f11091d3f0e8d23a1eae3140f178ddfc421c43885770dfa8e2cb8", func := "cartulary/cartularylaw06.ZlibAround", spec := "zlibAround", apart := false, narrowed := true }
def ZlibAroundUptoSaid : Prop := zlibAroundUptoRow.holds Try.pinned (OpenSpec.upto zlibAroundSpec)

/-- 'cartularylaw06.ZlibHeads', WHERE WHAT IT READS IS OF BULK AT MOST 1048576: true; the input reads as it did. -/
def zlibHeadsUptoRow : OpenClaim := { program := "ytcebplekflpbiaa", sum := "95fd5fa62b7f11091d3f0e8d23a1eae3140f178ddfc421c43885770dfa8e2cb8", func := "cartulary/cartularylaw06.ZlibHeads", spec := "zlibHeads", apart := false, narrowed := true }
def ZlibHeadsUptoSaid : Prop := zlibHeadsUptoRow.holds Try.pinned (OpenSpec.upto zlibHeadsSpec)

end Rows
end Go.Proofs.Ytcebplekflpbiaa

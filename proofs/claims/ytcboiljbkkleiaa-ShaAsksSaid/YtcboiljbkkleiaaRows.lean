/-
  No cell of these rows narrows 'for every input' (looked for: loops, veiled, ifaces, maps, wideKeys, modest, calm, conditions, laid).
  DERIVED. THE GIVEN ROWS OF THIS SEAT. 12 by the template 'for every input the law returns true; each argument reads behind the call as it read before'; 0 by the template 'total and deterministic' (their statements: YtcboiljbkkleiaaTotals.lean).
  GIVEN WITH THE SEED: the statements are not yours to turn. If you find one false, say at which input.
  Laid BY PROGRAM, IN A SANDBOX (cutbox-rows.mjs): the forced cells as the released guide's own fill.sh prints them over the translation a47827cdec2acf76… (all of the seat's roots in one cut). By AI agents, Wed Nov 11 2026. No macro, syntax, notation, axiom, sorry.
-/
import Derived.Test.YtcboiljbkkleiaaChecked
import GoSem.Claim
import GoSem.ClaimJoined
import GoSem.ClaimMapViews
import Derived.JoinedTies
import Derived.KernelRfl
namespace Go.Proofs.Ytcboiljbkkleiaa
/- THE CELL 'sum', in the pinned program and in every row, IS THE sha256 OF THE DUMP (.gsa) THAT YtcboiljbkkleiaaProg.lean LOADS. Nothing in Lean hashes anything: it is a label: what it is worth is what the hold of that sum in a sandbox is worth. -/
noncomputable def Try.pinned : Pinned := { name := "ytcboiljbkkleiaa", sum := "a47827cdec2acf765794973dbe5e9d6f05672355d9b4d7e8569c823e3b72a2aa", checked := Try.checked }
namespace Rows
def none {H : Type} : Left H := { results := [], args := [] }

/-- 'cartularylaw03.BitinPeeks': WHATEVER THE INPUT: true; the input reads as it did. -/
def bitinPeeksSpec : ChangeSpec := { name := "bitinPeeks", fn := fun _ => fun
  | [d1, d2] => { results := [.lit (.bool true)], args := [d1, d2] }
  | _ => none }
def bitinPeeksRow : OpenClaim := { program := "ytcboiljbkkleiaa", sum := "a47827cdec2acf765794973dbe5e9d6f05672355d9b4d7e8569c823e3b72a2aa", func := "cartulary/cartularylaw03.BitinPeeks", spec := "bitinPeeks", apart := false }
def BitinPeeksSaid : Prop := bitinPeeksRow.holds Try.pinned (OpenSpec.ofChange bitinPeeksSpec)

/-- ITS FALSE NEIGHBOUR: 'it returns false'. Refute it at one input. -/
def bitinPeeksWrong : ChangeSpec := { name := "bitinPeeks", fn := fun _ => fun
  | [d1, d2] => { results := [.lit (.bool false)], args := [d1, d2] }
  | _ => none }
def BitinPeeksWrongFalsely : Prop := bitinPeeksRow.holds Try.pinned (OpenSpec.ofChange bitinPeeksWrong)

/-- 'cartularylaw04.HuffCodes': WHATEVER THE INPUT: true; the input reads as it did. -/
def huffCodesSpec : ChangeSpec := { name := "huffCodes", fn := fun _ => fun
  | [d] => { results := [.lit (.bool true)], args := [d] }
  | _ => none }
def huffCodesRow : OpenClaim := { program := "ytcboiljbkkleiaa", sum := "a47827cdec2acf765794973dbe5e9d6f05672355d9b4d7e8569c823e3b72a2aa", func := "cartulary/cartularylaw04.HuffCodes", spec := "huffCodes", apart := false }
def HuffCodesSaid : Prop := huffCodesRow.holds Try.pinned (OpenSpec.ofChange huffCodesSpec)

/-- ITS FALSE NEIGHBOUR: 'it returns false'. Refute it at one input. -/
def huffCodesWrong : ChangeSpec := { name := "huffCodes", fn := fun _ => fun
  | [d] => { results := [.lit (.bool false)], args := [d] }
  | _ => none }
def HuffCodesWrongFalsely : Prop := huffCodesRow.holds Try.pinned (OpenSpec.ofChange huffCodesWrong)

/-- 'cartularylaw04.HuffApart': WHATEVER THE INPUT: true; the input reads as it did. -/
def huffApartSpec : ChangeSpec := { name := "huffApart", fn := fun _ => fun
  | [d] => { results := [.lit (.bool true)], args := [d] }
  | _ => none }
def huffApartRow : OpenClaim := { program := "ytcboiljbkkleiaa", sum := "a47827cdec2acf765794973dbe5e9d6f05672355d9b4d7e8569c823e3b72a2aa", func := "cartulary/cartularylaw04.HuffApart", spec := "huffApart", apart := false }
def HuffApartSaid : Prop := huffApartRow.holds Try.pinned (OpenSpec.ofChange huffApartSpec)

/-- ITS FALSE NEIGHBOUR: 'it returns false'. Refute it at one input. -/
def huffApartWrong : ChangeSpec := { name := "huffApart", fn := fun _ => fun
  | [d] => { results := [.lit (.bool false)], args := [d] }
  | _ => none }
def HuffApartWrongFalsely : Prop := huffApartRow.holds Try.pinned (OpenSpec.ofChange huffApartWrong)

/-- 'cartularylaw03.BitinReads': WHATEVER THE INPUT: true; the input reads as it did. -/
def bitinReadsSpec : ChangeSpec := { name := "bitinReads", fn := fun _ => fun
  | [d1, d2, d3] => { results := [.lit (.bool true)], args := [d1, d2, d3] }
  | _ => none }
def bitinReadsRow : OpenClaim := { program := "ytcboiljbkkleiaa", sum := "a47827cdec2acf765794973dbe5e9d6f05672355d9b4d7e8569c823e3b72a2aa", func := "cartulary/cartularylaw03.BitinReads", spec := "bitinReads", apart := false }
def BitinReadsSaid : Prop := bitinReadsRow.holds Try.pinned (OpenSpec.ofChange bitinReadsSpec)

/-- ITS FALSE NEIGHBOUR: 'it returns false'. Refute it at one input. -/
def bitinReadsWrong : ChangeSpec := { name := "bitinReads", fn := fun _ => fun
  | [d1, d2, d3] => { results := [.lit (.bool false)], args := [d1, d2, d3] }
  | _ => none }
def BitinReadsWrongFalsely : Prop := bitinReadsRow.holds Try.pinned (OpenSpec.ofChange bitinReadsWrong)

/-- 'cartularylaw03.BitinBack': WHATEVER THE INPUT: true; the input reads as it did. -/
def bitinBackSpec : ChangeSpec := { name := "bitinBack", fn := fun _ => fun
  | [d1, d2] => { results := [.lit (.bool true)], args := [d1, d2] }
  | _ => none }
def bitinBackRow : OpenClaim := { program := "ytcboiljbkkleiaa", sum := "a47827cdec2acf765794973dbe5e9d6f05672355d9b4d7e8569c823e3b72a2aa", func := "cartulary/cartularylaw03.BitinBack", spec := "bitinBack", apart := false }
def BitinBackSaid : Prop := bitinBackRow.holds Try.pinned (OpenSpec.ofChange bitinBackSpec)

/-- ITS FALSE NEIGHBOUR: 'it returns false'. Refute it at one input. -/
def bitinBackWrong : ChangeSpec := { name := "bitinBack", fn := fun _ => fun
  | [d1, d2] => { results := [.lit (.bool false)], args := [d1, d2] }
  | _ => none }
def BitinBackWrongFalsely : Prop := bitinBackRow.holds Try.pinned (OpenSpec.ofChange bitinBackWrong)

/-- 'cartularylaw03.BitinWrites': WHATEVER THE INPUT: true; the input reads as it did. -/
def bitinWritesSpec : ChangeSpec := { name := "bitinWrites", fn := fun _ => fun
  | [d] => { results := [.lit (.bool true)], args := [d] }
  | _ => none }
def bitinWritesRow : OpenClaim := { program := "ytcboiljbkkleiaa", sum := "a47827cdec2acf765794973dbe5e9d6f05672355d9b4d7e8569c823e3b72a2aa", func := "cartulary/cartularylaw03.BitinWrites", spec := "bitinWrites", apart := false }
def BitinWritesSaid : Prop := bitinWritesRow.holds Try.pinned (OpenSpec.ofChange bitinWritesSpec)

/-- ITS FALSE NEIGHBOUR: 'it returns false'. Refute it at one input. -/
def bitinWritesWrong : ChangeSpec := { name := "bitinWrites", fn := fun _ => fun
  | [d] => { results := [.lit (.bool false)], args := [d] }
  | _ => none }
def BitinWritesWrongFalsely : Prop := bitinWritesRow.holds Try.pinned (OpenSpec.ofChange bitinWritesWrong)

/-- 'cartularylaw04.HuffReads': WHATEVER THE INPUT: true; the input reads as it did. -/
def huffReadsSpec : ChangeSpec := { name := "huffReads", fn := fun _ => fun
  | [d1, d2] => { results := [.lit (.bool true)], args := [d1, d2] }
  | _ => none }
def huffReadsRow : OpenClaim := { program := "ytcboiljbkkleiaa", sum := "a47827cdec2acf765794973dbe5e9d6f05672355d9b4d7e8569c823e3b72a2aa", func := "cartulary/cartularylaw04.HuffReads", spec := "huffReads", apart := false }
def HuffReadsSaid : Prop := huffReadsRow.holds Try.pinned (OpenSpec.ofChange huffReadsSpec)

/-- ITS FALSE NEIGHBOUR: 'it returns false'. Refute it at one input. -/
def huffReadsWrong : ChangeSpec := { name := "huffReads", fn := fun _ => fun
  | [d1, d2] => { results := [.lit (.bool false)], args := [d1, d2] }
  | _ => none }
def HuffReadsWrongFalsely : Prop := huffReadsRow.holds Try.pinned (OpenSpec.ofChange huffReadsWrong)

/-- 'cartularylaw04.HuffAll': WHATEVER THE INPUT: true; the input reads as it did. -/
def huffAllSpec : ChangeSpec := { name := "huffAll", fn := fun _ => fun
  | [d1, d2] => { results := [.lit (.bool true)], args := [d1, d2] }
  | _ => none }
def huffAllRow : OpenClaim := { program := "ytcboiljbkkleiaa", sum := "a47827cdec2acf765794973dbe5e9d6f05672355d9b4d7e8569c823e3b72a2aa", func := "cartulary/cartularylaw04.HuffAll", spec := "huffAll", apart := false }
def HuffAllSaid : Prop := huffAllRow.holds Try.pinned (OpenSpec.ofChange huffAllSpec)

/-- ITS FALSE NEIGHBOUR: 'it returns false'. Refute it at one input. -/
def huffAllWrong : ChangeSpec := { name := "huffAll", fn := fun _ => fun
  | [d1, d2] => { results := [.lit (.bool false)], args := [d1, d2] }
  | _ => none }
def HuffAllWrongFalsely : Prop := huffAllRow.holds Try.pinned (OpenSpec.ofChange huffAllWrong)

/-- 'cartularylaw02.ShaSums': WHATEVER THE INPUT: true; the input reads as it did. -/
def shaSumsSpec : ChangeSpec := { name := "shaSums", fn := fun _ => fun
  | [d] => { results := [.lit (.bool true)], args := [d] }
  | _ => none }
def shaSumsRow : OpenClaim := { program := "ytcboiljbkkleiaa", sum := "a47827cdec2acf765794973dbe5e9d6f05672355d9b4d7e8569c823e3b72a2aa", func := "cartulary/cartularylaw02.ShaSums", spec := "shaSums", unfollowed := true, recurses := true, apart := false }
def ShaSumsSaid : Prop := shaSumsRow.holds Try.pinned (OpenSpec.ofChange shaSumsSpec)

/-- ITS FALSE NEIGHBOUR: 'it returns false'. Refute it at one input. -/
def shaSumsWrong : ChangeSpec := { name := "shaSums", fn := fun _ => fun
  | [d] => { results := [.lit (.bool false)], args := [d] }
  | _ => none }
def ShaSumsWrongFalsely : Prop := shaSumsRow.holds Try.pinned (OpenSpec.ofChange shaSumsWrong)

/-- 'cartularylaw02.ShaParts': WHATEVER THE INPUT: true; the input reads as it did. -/
def shaPartsSpec : ChangeSpec := { name := "shaParts", fn := fun _ => fun
  | [d] => { results := [.lit (.bool true)], args := [d] }
  | _ => none }
def shaPartsRow : OpenClaim := { program := "ytcboiljbkkleiaa", sum := "a47827cdec2acf765794973dbe5e9d6f05672355d9b4d7e8569c823e3b72a2aa", func := "cartulary/cartularylaw02.ShaParts", spec := "shaParts", unfollowed := true, recurses := true, apart := false }
def ShaPartsSaid : Prop := shaPartsRow.holds Try.pinned (OpenSpec.ofChange shaPartsSpec)

/-- ITS FALSE NEIGHBOUR: 'it returns false'. Refute it at one input. -/
def shaPartsWrong : ChangeSpec := { name := "shaParts", fn := fun _ => fun
  | [d] => { results := [.lit (.bool false)], args := [d] }
  | _ => none }
def ShaPartsWrongFalsely : Prop := shaPartsRow.holds Try.pinned (OpenSpec.ofChange shaPartsWrong)

/-- 'cartularylaw02.ShaAsks': WHATEVER THE INPUT: true; the input reads as it did. -/
def shaAsksSpec : ChangeSpec := { name := "shaAsks", fn := fun _ => fun
  | [d1, d2] => { results := [.lit (.bool true)], args := [d1, d2] }
  | _ => none }
def shaAsksRow : OpenClaim := { program := "ytcboiljbkkleiaa", sum := "a47827cdec2acf765794973dbe5e9d6f05672355d9b4d7e8569c823e3b72a2aa", func := "cartulary/cartularylaw02.ShaAsks", spec := "shaAsks", unfollowed := true, recurses := true, apart := false }
def ShaAsksSaid : Prop := shaAsksRow.holds Try.pinned (OpenSpec.ofChange shaAsksSpec)

/-- ITS FALSE NEIGHBOUR: 'it returns false'. Refute it at one input. -/
def shaAsksWrong : ChangeSpec := { name := "shaAsks", fn := fun _ => fun
  | [d1, d2] => { results := [.lit (.bool false)], args := [d1, d2] }
  | _ => none }
def ShaAsksWrongFalsely : Prop := shaAsksRow.holds Try.pinned (OpenSpec.ofChange shaAsksWrong)

/-- 'cartularylaw04.HuffBack': WHATEVER THE INPUT: true; the input reads as it did. -/
def huffBackSpec : ChangeSpec := { name := "huffBack", fn := fun _ => fun
  | [d1, d2] => { results := [.lit (.bool true)], args := [d1, d2] }
  | _ => none }
def huffBackRow : OpenClaim := { program := "ytcboiljbkkleiaa", sum := "a47827cdec2acf765794973dbe5e9d6f05672355d9b4d7e8569c823e3b72a2aa", func := "cartulary/cartularylaw04.HuffBack", spec := "huffBack", apart := false }
def HuffBackSaid : Prop := huffBackRow.holds Try.pinned (OpenSpec.ofChange huffBackSpec)

/-- ITS FALSE NEIGHBOUR: 'it returns false'. Refute it at one input. -/
def huffBackWrong : ChangeSpec := { name := "huffBack", fn := fun _ => fun
  | [d1, d2] => { results := [.lit (.bool false)], args := [d1, d2] }
  | _ => none }
def HuffBackWrongFalsely : Prop := huffBackRow.holds Try.pinned (OpenSpec.ofChange huffBackWrong)

/- THE SECOND FORM. 'bulk': how many values and letters a reading holds, each counted each time it is reached (what is shared counts as often as it is met; a slice's spare places count too). A statement '..UptoSaid' is the law's where the arguments, and the package variables that the reading takes, are together of bulk at most 1048576: NARROWER than '..Said'. Prove '..Said' where nothing that the law and all that it calls make is longer than what came in: it says more and counts as full. Else prove '..UptoSaid'. A law counts once. -/
mutual
def uptoBulk {H : Type} : DataW H → Nat
  | .lit (.string bytes) => bytes.length + 1
  | .lit _ => 1
  | .nil => 1
  | .ptr d => uptoBulk d + 1
  | .slice elems spare => uptoBulkAll elems + uptoBulkAll spare + 1
  | .agg parts => uptoBulkAll parts + 1
  | .iface _ d => uptoBulk d + 1
  | .map entries => uptoBulkEntries entries + 1
  | .held _ => 1
def uptoBulkAll {H : Type} : List (DataW H) → Nat
  | [] => 0
  | d :: r => uptoBulk d + uptoBulkAll r
def uptoBulkEntries {H : Type} : List (Lit × DataW H) → Nat
  | [] => 0
  | x :: r => uptoBulkEntry x + uptoBulkEntries r
def uptoBulkEntry {H : Type} : Lit × DataW H → Nat
  | (.string bytes, d) => bytes.length + uptoBulk d + 1
  | (_, d) => uptoBulk d + 1
 end
def uptoSmall : (H : Type) → List (DataW H) → Bool := fun _ ds => decide (uptoBulkAll ds ≤ 1048576)
def OpenSpec.upto (s : _root_.Go.ChangeSpec) : _root_.Go.OpenSpec := { _root_.Go.OpenSpec.ofChange s with cond := some uptoSmall }

/-- 'cartularylaw03.BitinPeeks', WHERE WHAT IT READS IS OF BULK AT MOST 1048576: true; the input reads as it did. -/
def bitinPeeksUptoRow : OpenClaim := { program := "ytcboiljbkkleiaa", sum := "a47827cdec2acf765794973dbe5e9d6f05672355d9b4d7e8569c823e3b72a2aa", func := "cartulary/cartularylaw03.BitinPeeks", spec := "bitinPeeks", apart := false, narrowed := true }
def BitinPeeksUptoSaid : Prop := bitinPeeksUptoRow.holds Try.pinned (OpenSpec.upto bitinPeeksSpec)

/-- 'cartularylaw04.HuffCodes', WHERE WHAT IT READS IS OF BULK AT MOST 1048576: true; the input reads as it did. -/
def huffCodesUptoRow : OpenClaim := { program := "ytcboiljbkkleiaa", sum := "a47827cdec2acf765794973dbe5e9d6f05672355d9b4d7e8569c823e3b72a2aa", func := "cartulary/cartularylaw04.HuffCodes", spec := "huffCodes", apart := false, narrowed := true }
def HuffCodesUptoSaid : Prop := huffCodesUptoRow.holds Try.pinned (OpenSpec.upto huffCodesSpec)

/-- 'cartularylaw04.HuffApart', WHERE WHAT IT READS IS OF BULK AT MOST 1048576: true; the input reads as it did. -/
def huffApartUptoRow : OpenClaim := { program := "ytcboiljbkkleiaa", sum := "a47827cdec2acf765794973dbe5e9d6f05672355d9b4d7e8569c823e3b72a2aa", func := "cartulary/cartularylaw04.HuffApart", spec := "huffApart", apart := false, narrowed := true }
def HuffApartUptoSaid : Prop := huffApartUptoRow.holds Try.pinned (OpenSpec.upto huffApartSpec)

/-- 'cartularylaw03.BitinReads', WHERE WHAT IT READS IS OF BULK AT MOST 1048576: true; the input reads as it did. -/
def bitinReadsUptoRow : OpenClaim := { program := "ytcboiljbkkleiaa", sum := "a47827cdec2acf765794973dbe5e9d6f05672355d9b4d7e8569c823e3b72a2aa", func := "cartulary/cartularylaw03.BitinReads", spec := "bitinReads", apart := false, narrowed := true }
def BitinReadsUptoSaid : Prop := bitinReadsUptoRow.holds Try.pinned (OpenSpec.upto bitinReadsSpec)

/-- 'cartularylaw03.BitinBack', WHERE WHAT IT READS IS OF BULK AT MOST 1048576: true; the input reads as it did. -/
def bitinBackUptoRow : OpenClaim := { program := "ytcboiljbkkleiaa", sum := "a47827cdec2acf765794973dbe5e9d6f05672355d9b4d7e8569c823e3b72a2aa", func := "cartulary/cartularylaw03.BitinBack", spec := "bitinBack", apart := false, narrowed := true }
def BitinBackUptoSaid : Prop := bitinBackUptoRow.holds Try.pinned (OpenSpec.upto bitinBackSpec)

/-- 'cartularylaw03.BitinWrites', WHERE WHAT IT READS IS OF BULK AT MOST 1048576: true; the input reads as it did. -/
def bitinWritesUptoRow : OpenClaim := { program := "ytcboiljbkkleiaa", sum := "a47827cdec2acf765794973dbe5e9d6f05672355d9b4d7e8569c823e3b72a2aa", func := "cartulary/cartularylaw03.BitinWrites", spec := "bitinWrites", apart := false, narrowed := true }
def BitinWritesUptoSaid : Prop := bitinWritesUptoRow.holds Try.pinned (OpenSpec.upto bitinWritesSpec)

/-- 'cartularylaw04.HuffReads', WHERE WHAT IT READS IS OF BULK AT MOST 1048576: true; the input reads as it did. -/
def huffReadsUptoRow : OpenClaim := { program := "ytcboiljbkkleiaa", sum := "a47827cdec2acf765794973dbe5e9d6f05672355d9b4d7e8569c823e3b72a2aa", func := "cartulary/cartularylaw04.HuffReads", spec := "huffReads", apart := false, narrowed := true }
def HuffReadsUptoSaid : Prop := huffReadsUptoRow.holds Try.pinned (OpenSpec.upto huffReadsSpec)

/-- 'cartularylaw04.HuffAll', WHERE WHAT IT READS IS OF BULK AT MOST 1048576: true; the input reads as it did. -/
def huffAllUptoRow : OpenClaim := { program := "ytcboiljbkkleiaa", sum := "a47827cdec2acf765794973dbe5e9d6f05672355d9b4d7e8569c823e3b72a2aa", func := "cartulary/cartularylaw04.HuffAll", spec := "huffAll", apart := false, narrowed := true }
def HuffAllUptoSaid : Prop := huffAllUptoRow.holds Try.pinned (OpenSpec.upto huffAllSpec)

/-- 'cartularylaw02.ShaSums', WHERE WHAT IT READS IS OF BULK AT MOST 1048576: true; the input reads as it did. -/
def shaSumsUptoRow : OpenClaim := { program := "ytcboiljbkkleiaa", sum := "a47827cdec2acf765794973dbe5e9d6f05672355d9b4d7e8569c823e3b72a2aa", func := "cartulary/cartularylaw02.ShaSums", spec := "shaSums", unfollowed := true, recurses := true, apart := false, narrowed := true }
def ShaSumsUptoSaid : Prop := shaSumsUptoRow.holds Try.pinned (OpenSpec.upto shaSumsSpec)

/-- 'cartularylaw02.ShaParts', WHERE WHAT IT READS IS OF BULK AT MOST 1048576: true; the input reads as it did. -/
def shaPartsUptoRow : OpenClaim := { program := "ytcboiljbkkleiaa", sum := "a47827cdec2acf765794973dbe5e9d6f05672355d9b4d7e8569c823e3b72a2aa", func := "cartulary/cartularylaw02.ShaParts", spec := "shaParts", unfollowed := true, recurses := true, apart := false, narrowed := true }
def ShaPartsUptoSaid : Prop := shaPartsUptoRow.holds Try.pinned (OpenSpec.upto shaPartsSpec)

/-- 'cartularylaw02.ShaAsks', WHERE WHAT IT READS IS OF BULK AT MOST 1048576: true; the input reads as it did. -/
def shaAsksUptoRow : OpenClaim := { program := "ytcboiljbkkleiaa", sum := "a47827cdec2acf765794973dbe5e9d6f05672355d9b4d7e8569c823e3b72a2aa", func := "cartulary/cartularylaw02.ShaAsks", spec := "shaAsks", unfollowed := true, recurses := true, apart := false, narrowed := true }
def ShaAsksUptoSaid : Prop := shaAsksUptoRow.holds Try.pinned (OpenSpec.upto shaAsksSpec)

/-- 'cartularylaw04.HuffBack', WHERE WHAT IT READS IS OF BULK AT MOST 1048576: true; the input reads as it did. -/
def huffBackUptoRow : OpenClaim := { program := "ytcboiljbkkleiaa", sum := "a47827cdec2acf765794973dbe5e9d6f05672355d9b4d7e8569c823e3b72a2aa", func := "cartulary/cartularylaw04.HuffBack", spec := "huffBack", apart := false, narrowed := true }
def HuffBackUptoSaid : Prop := huffBackUptoRow.holds Try.pinned (OpenSpec.upto huffBackSpec)

end Rows
end Go.Proofs.Ytcboiljbkkleiaa

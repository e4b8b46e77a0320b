/- Structures of the kit over its shelf, at this seat (written by a program of the author's, laysn.py). No condition. -/
import Derived.Shelf.Lays
import Derived.Shelf.Strings.BuilderX
import Derived.Test.YtoagdpjickippaaDoorProg
namespace Go.Proofs.YtoagdpjickippaaDoor
open Go Go.Shelf Go.Proofs
def lays217_ren : Go.Shelf.Ren := ⟨fun | 217 => 75 | 266 => 90 | n => n, fun | 3 => 3 | 5 => 5 | 9 => 9 | n => n, fun  | n => n⟩
theorem lays217 : Go.Proofs.Lays.n217 Tryd.prog lays217_ren := {
  mixed := by kernel_rfl,
  f217 := Tryd.func75.trans (congrArg some (by kernel_rfl)),
  f266 := Tryd.func90.trans (congrArg some (by kernel_rfl)),
  t3 := Tryd.underlying3,
  a3 := Tryd.isAgg3,
  z3 := Tryd.sizeOf3,
  v3 := Tryd.zeroValue3,
  t5 := Tryd.underlying5,
  a5 := Tryd.isAgg5,
  z5 := Tryd.sizeOf5,
  v5 := Tryd.zeroValue5,
  t9 := Tryd.underlying9,
  a9 := Tryd.isAgg9,
  z9 := Tryd.sizeOf9,
  v9 := Tryd.zeroValue9 }
end Go.Proofs.YtoagdpjickippaaDoor

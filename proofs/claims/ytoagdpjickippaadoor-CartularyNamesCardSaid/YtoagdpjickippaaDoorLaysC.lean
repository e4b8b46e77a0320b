/- Structures of the kit over its shelf, at this seat (written by a program of the author's, laysn.py). No condition. -/
import Derived.Shelf.Lays
import Derived.Shelf.Strings.BuilderX
import Derived.Test.YtoagdpjickippaaDoorProg
namespace Go.Proofs.YtoagdpjickippaaDoor
open Go Go.Shelf Go.Proofs
def lays106_ren : Go.Shelf.Ren := ⟨fun | 106 => 31 | 213 => 53 | 265 => 70 | n => n, fun | 3 => 3 | 9 => 9 | n => n, fun  | n => n⟩
theorem lays106 : Go.Proofs.Lays.n106 Tryd.prog lays106_ren := {
  mixed := by kernel_rfl,
  f106 := Tryd.func31.trans (congrArg some (by kernel_rfl)),
  f213 := Tryd.func53.trans (congrArg some (by kernel_rfl)),
  f265 := Tryd.func70.trans (congrArg some (by kernel_rfl)),
  t3 := Tryd.underlying3,
  a3 := Tryd.isAgg3,
  z3 := Tryd.sizeOf3,
  v3 := Tryd.zeroValue3,
  t9 := Tryd.underlying9,
  a9 := Tryd.isAgg9,
  z9 := Tryd.sizeOf9,
  v9 := Tryd.zeroValue9 }
end Go.Proofs.YtoagdpjickippaaDoor

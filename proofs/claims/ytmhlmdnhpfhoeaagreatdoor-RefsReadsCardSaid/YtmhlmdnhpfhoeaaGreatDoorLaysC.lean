/- Structures of the kit over its shelf, at this seat (written by a program of the author's, laysn.py). No condition. -/
import Derived.Shelf.Lays
import Derived.Shelf.Strings.BuilderX
import Derived.Test.YtmhlmdnhpfhoeaaGreatDoorProg
namespace Go.Proofs.YtmhlmdnhpfhoeaaGreatDoor
open Go Go.Shelf Go.Proofs
def lays106_ren : Go.Shelf.Ren := ⟨fun | 106 => 51 | 213 => 75 | 265 => 100 | n => n, fun | 3 => 3 | 9 => 9 | n => n, fun  | n => n⟩
theorem lays106 : Go.Proofs.Lays.n106 Tryz.prog lays106_ren := {
  mixed := by kernel_rfl,
  f106 := Tryz.func51.trans (congrArg some (by kernel_rfl)),
  f213 := Tryz.func75.trans (congrArg some (by kernel_rfl)),
  f265 := Tryz.func100.trans (congrArg some (by kernel_rfl)),
  t3 := Tryz.underlying3,
  a3 := Tryz.isAgg3,
  z3 := Tryz.sizeOf3,
  v3 := Tryz.zeroValue3,
  t9 := Tryz.underlying9,
  a9 := Tryz.isAgg9,
  z9 := Tryz.sizeOf9,
  v9 := Tryz.zeroValue9 }
end Go.Proofs.YtmhlmdnhpfhoeaaGreatDoor

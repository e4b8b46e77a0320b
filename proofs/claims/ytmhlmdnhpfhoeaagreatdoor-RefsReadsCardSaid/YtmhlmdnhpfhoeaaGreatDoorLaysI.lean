/- Structures of the kit over its shelf, at this seat (written by a program of the author's, laysn.py). No condition. -/
import Derived.Shelf.Lays
import Derived.Shelf.Strings.BuilderX
import Derived.Test.YtmhlmdnhpfhoeaaGreatDoorProg
namespace Go.Proofs.YtmhlmdnhpfhoeaaGreatDoor
open Go Go.Shelf Go.Proofs
def lays143_ren : Go.Shelf.Ren := ⟨fun | 143 => 59 | 217 => 102 | 219 => 77 | 224 => 104 | 225 => 103 | 266 => 114 | 267 => 105 | 314 => 115 | n => n, fun | 146 => 132 | 3 => 3 | 4 => 4 | 46 => 81 | 5 => 5 | 51 => 98 | 9 => 9 | n => n, fun | 1 => 0 | n => n⟩
theorem lays143 : Go.Proofs.Lays.n143 Tryz.prog lays143_ren := {
  mixed := by kernel_rfl,
  f143 := Tryz.func59.trans (congrArg some (by kernel_rfl)),
  f217 := Tryz.func102.trans (congrArg some (by kernel_rfl)),
  f219 := Tryz.func77.trans (congrArg some (by kernel_rfl)),
  f224 := Tryz.func104.trans (congrArg some (by kernel_rfl)),
  f225 := Tryz.func103.trans (congrArg some (by kernel_rfl)),
  f266 := Tryz.func114.trans (congrArg some (by kernel_rfl)),
  f267 := Tryz.func105.trans (congrArg some (by kernel_rfl)),
  f314 := Tryz.func115.trans (congrArg some (by kernel_rfl)),
  t3 := Tryz.underlying3,
  a3 := Tryz.isAgg3,
  z3 := Tryz.sizeOf3,
  v3 := Tryz.zeroValue3,
  t4 := Tryz.underlying4,
  a4 := Tryz.isAgg4,
  z4 := Tryz.sizeOf4,
  v4 := Tryz.zeroValue4,
  t5 := Tryz.underlying5,
  a5 := Tryz.isAgg5,
  z5 := Tryz.sizeOf5,
  v5 := Tryz.zeroValue5,
  t9 := Tryz.underlying9,
  a9 := Tryz.isAgg9,
  z9 := Tryz.sizeOf9,
  v9 := Tryz.zeroValue9,
  t46 := Tryz.underlying81,
  a46 := Tryz.isAgg81,
  z46 := Tryz.sizeOf81,
  v46 := Tryz.zeroValue81,
  t51 := Tryz.underlying98,
  a51 := Tryz.isAgg98,
  z51 := Tryz.sizeOf98,
  v51 := Tryz.zeroValue98,
  t146 := Tryz.underlying132,
  a146 := Tryz.isAgg132,
  z146 := Tryz.sizeOf132,
  v146 := Tryz.zeroValue132,
  g1 := by kernel_rfl }
end Go.Proofs.YtmhlmdnhpfhoeaaGreatDoor

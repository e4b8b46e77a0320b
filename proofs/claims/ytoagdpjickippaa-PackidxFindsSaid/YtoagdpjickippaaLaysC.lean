/- Structures of the kit over its shelf, at this seat (written by a program of the author's, laysn.py). No condition. -/
import Derived.Shelf.Lays
import Derived.Shelf.Strings.BuilderX
import Derived.Test.YtoagdpjickippaaProg
namespace Go.Proofs.Ytoagdpjickippaa
open Go Go.Shelf Go.Proofs
def lays106_ren : Go.Shelf.Ren := ⟨fun | 106 => 20 | 213 => 44 | 265 => 66 | n => n, fun | 3 => 3 | 9 => 9 | n => n, fun  | n => n⟩
theorem lays106 : Go.Proofs.Lays.n106 Try.prog lays106_ren := {
  mixed := by kernel_rfl,
  f106 := Try.func20.trans (congrArg some (by kernel_rfl)),
  f213 := Try.func44.trans (congrArg some (by kernel_rfl)),
  f265 := Try.func66.trans (congrArg some (by kernel_rfl)),
  t3 := Try.underlying3,
  a3 := Try.isAgg3,
  z3 := Try.sizeOf3,
  v3 := Try.zeroValue3,
  t9 := Try.underlying9,
  a9 := Try.isAgg9,
  z9 := Try.sizeOf9,
  v9 := Try.zeroValue9 }
end Go.Proofs.Ytoagdpjickippaa

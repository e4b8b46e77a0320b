/- strings.Compare. No condition. -/
import Derived.Test.YtoagdpjickippaaDoorCmpL
import Derived.Test.YtoagdpjickippaaDoorLaysC
import Derived.Test.YtoagdpjickippaaDoorTy
set_option linter.unusedVariables false
namespace Go.Proofs.YtoagdpjickippaaDoor
open Go Vc Go.Proofs Go.Lib

theorem compare_spec (a b : ByteArray) (w : World) : Calls Tryd.prog F_strings_Compare #[.string a, .string b] w fun e w' => e = .returned (.int .i64 (Lib.compareBytes a.data.toList b.data.toList)) ∧ w' = w := Any.strings_Compare lays106 a b w
end Go.Proofs.YtoagdpjickippaaDoor

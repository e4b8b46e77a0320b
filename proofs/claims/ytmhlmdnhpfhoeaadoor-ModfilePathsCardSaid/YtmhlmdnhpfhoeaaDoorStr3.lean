/- Formulas of 1 Go functions of this seat (written by a program of the author's, vcgen.py), and that each is enough for the call. No condition. -/
import Derived.Test.YtmhlmdnhpfhoeaaDoorTy
import Derived.Test.YtmhlmdnhpfhoeaaDoorProg
set_option linter.unusedVariables false
namespace Go.Proofs.YtmhlmdnhpfhoeaaDoor
open Go Vc Go.Proofs
set_option maxRecDepth 100000
/-- strings.Split -/
def vc_strings_Split (x0 : ByteArray) (x1 : ByteArray) (w : World) (R : Value → World → Prop) : Prop :=
  Calls Tryd.prog (56 : Nat) (Array.mk [Value.string x0, Value.string x1, Value.int IntKind.i64 0, Value.int IntKind.i64 (-1)]) (w) (fun e1 w2 =>
    ∃ l3 : Sl, (e1 = Ending.returned (Value.slice l3.1 l3.2 l3.3) ∧
     R (Value.slice l3.1 l3.2 l3.3) w2))
theorem vc_strings_Split_ok {x0 : ByteArray} {x1 : ByteArray} {w : World} {R : Value → World → Prop} {R' : Ending → World → Prop} (h : vc_strings_Split x0 x1 w R) (hR : ∀ v w', R v w' → R' (.returned v) w') :
    Calls Tryd.prog 29 #[.string x0, .string x1] w R' :=
  calls_of_body (vs := [(.string x0, false), (.string x1, false)]) (ty := ty) (ann := ⟨[], [], [], []⟩) (c := Tryd.f29.body.getD .skip) (by kernel_rfl) Tryd.func29 (by kernel_rfl) (by kernel_rfl) (Eq.mp (by kernel_rfl) h) hR
end Go.Proofs.YtmhlmdnhpfhoeaaDoor

/- Formulas of 2 Go functions of this seat (written by a program of the author's, vcgen.py), and that each is enough for the call. No condition. -/
import Derived.Test.YtmhlmdnhpfhoeaaGreatDoorTy
import Derived.Test.YtmhlmdnhpfhoeaaGreatDoorProg
set_option linter.unusedVariables false
namespace Go.Proofs.YtmhlmdnhpfhoeaaGreatDoor
open Go Vc Go.Proofs
set_option maxRecDepth 100000
/-- cartularyref08.Find -/
def vc_cartularyref08_Find (x0 : ByteArray) (x1 : Int) (w : World) (R : Value → World → Prop) : Prop :=
  ∃ I1 : Int → World → Prop, ∃ I2 : Int → World → Nat, (I1 0 w ∧
   ∀ n3 : Int,
   ∀ w4 : World,
   (I1 n3 w4 →
     (((decide (n3 < (↑(ByteArray.size x0) : Int)) = true →
        ((0 ≤ n3 ∧
          n3 < (↑(ByteArray.size x0) : Int)) ∧
         ((((byteAt x0 n3 == x1) = true →
            R (Value.int IntKind.i64 n3) w4)) ∧
          ((byteAt x0 n3 == x1) = false →
            (I1 (IntKind.wrap IntKind.i64 (n3 + 1)) w4 ∧
             I2 (IntKind.wrap IntKind.i64 (n3 + 1)) w4 < I2 n3 w4)))))) ∧
      (decide (n3 < (↑(ByteArray.size x0) : Int)) = false →
        R (Value.int IntKind.i64 (-1)) w4))))
theorem vc_cartularyref08_Find_ok {x0 : ByteArray} {x1 : Int} {w : World} {R : Value → World → Prop} {R' : Ending → World → Prop} (h : vc_cartularyref08_Find x0 x1 w R) (hR : ∀ v w', R v w' → R' (.returned v) w') :
    Calls Tryz.prog 33 #[.string x0, .int .u8 x1] w R' :=
  calls_of_body (vs := [(.string x0, false), (.int .u8 x1, false)]) (ty := ty) (ann := ⟨[], [(2, [(5, .int .i64)])], [], []⟩) (c := Tryz.f33.body.getD .skip) (by kernel_rfl) Tryz.func33 (by kernel_rfl) (by kernel_rfl) (Eq.mp (by kernel_rfl) h) hR
/-- cartularylaw01.Few -/
def vc_cartularylaw01_Few (x0 : ByteArray) (x1 : Int) (w : World) (R : Value → World → Prop) : Prop :=
  (((decide ((↑(ByteArray.size x0) : Int) > x1) = true →
     ((0 ≤ x1 ∧
       x1 ≤ (↑(ByteArray.size x0) : Int)) ∧
      R (Value.string (ByteArray.extract x0 0 (Int.toNat x1))) w))) ∧
   (decide ((↑(ByteArray.size x0) : Int) > x1) = false →
     R (Value.string x0) w))
theorem vc_cartularylaw01_Few_ok {x0 : ByteArray} {x1 : Int} {w : World} {R : Value → World → Prop} {R' : Ending → World → Prop} (h : vc_cartularylaw01_Few x0 x1 w R) (hR : ∀ v w', R v w' → R' (.returned v) w') :
    Calls Tryz.prog 21 #[.string x0, .int .i64 x1] w R' :=
  calls_of_body (vs := [(.string x0, false), (.int .i64 x1, false)]) (ty := ty) (ann := ⟨[], [], [], []⟩) (c := Tryz.f21.body.getD .skip) (by kernel_rfl) Tryz.func21 (by kernel_rfl) (by kernel_rfl) (Eq.mp (by kernel_rfl) h) hR
end Go.Proofs.YtmhlmdnhpfhoeaaGreatDoor

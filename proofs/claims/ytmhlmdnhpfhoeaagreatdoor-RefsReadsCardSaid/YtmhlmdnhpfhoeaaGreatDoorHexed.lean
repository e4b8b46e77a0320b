/- Formulas of 2 Go functions of this seat (written by a program of the author's, vcgen.py), and that each is enough for the call. No condition. -/
import Derived.Test.YtmhlmdnhpfhoeaaGreatDoorTy
import Derived.Test.YtmhlmdnhpfhoeaaGreatDoorProg
set_option linter.unusedVariables false
namespace Go.Proofs.YtmhlmdnhpfhoeaaGreatDoor
open Go Vc Go.Proofs
set_option maxRecDepth 100000
/-- cartularyref01.Hexed -/
def vc_cartularyref01_Hexed (x0 : ByteArray) (w : World) (R : Value → World → Prop) : Prop :=
  ∃ I1 : Int → World → Prop, ∃ I2 : Int → World → Nat, (I1 0 w ∧
   ∀ n3 : Int,
   ∀ w4 : World,
   (I1 n3 w4 →
     (((decide (n3 < (↑(ByteArray.size x0) : Int)) = true →
        ((0 ≤ n3 ∧
          n3 < (↑(ByteArray.size x0) : Int)) ∧
         (((decide (byteAt x0 n3 ≥ 48) = true →
            ((0 ≤ n3 ∧
              n3 < (↑(ByteArray.size x0) : Int)) ∧
             (((decide (byteAt x0 n3 ≤ 57) = true →
                (I1 (IntKind.wrap IntKind.i64 (n3 + 1)) w4 ∧
                 I2 (IntKind.wrap IntKind.i64 (n3 + 1)) w4 < I2 n3 w4))) ∧
              (decide (byteAt x0 n3 ≤ 57) = false →
                ((0 ≤ n3 ∧
                  n3 < (↑(ByteArray.size x0) : Int)) ∧
                 (((decide (byteAt x0 n3 ≥ 97) = true →
                    ((0 ≤ n3 ∧
                      n3 < (↑(ByteArray.size x0) : Int)) ∧
                     ((((!decide (byteAt x0 n3 ≤ 102)) = true →
                        R (Value.bool false) w4)) ∧
                      ((!decide (byteAt x0 n3 ≤ 102)) = false →
                        (I1 (IntKind.wrap IntKind.i64 (n3 + 1)) w4 ∧
                         I2 (IntKind.wrap IntKind.i64 (n3 + 1)) w4 < I2 n3 w4)))))) ∧
                  (decide (byteAt x0 n3 ≥ 97) = false →
                    R (Value.bool false) w4)))))))) ∧
          (decide (byteAt x0 n3 ≥ 48) = false →
            ((0 ≤ n3 ∧
              n3 < (↑(ByteArray.size x0) : Int)) ∧
             (((decide (byteAt x0 n3 ≥ 97) = true →
                ((0 ≤ n3 ∧
                  n3 < (↑(ByteArray.size x0) : Int)) ∧
                 ((((!decide (byteAt x0 n3 ≤ 102)) = true →
                    R (Value.bool false) w4)) ∧
                  ((!decide (byteAt x0 n3 ≤ 102)) = false →
                    (I1 (IntKind.wrap IntKind.i64 (n3 + 1)) w4 ∧
                     I2 (IntKind.wrap IntKind.i64 (n3 + 1)) w4 < I2 n3 w4)))))) ∧
              (decide (byteAt x0 n3 ≥ 97) = false →
                R (Value.bool false) w4)))))))) ∧
      (decide (n3 < (↑(ByteArray.size x0) : Int)) = false →
        ((2 : Int) ≠ (0 : Int) ∧
         R (Value.bool (Int.tmod (↑(ByteArray.size x0) : Int) 2 == 0)) w4)))))
theorem vc_cartularyref01_Hexed_ok {x0 : ByteArray} {w : World} {R : Value → World → Prop} {R' : Ending → World → Prop} (h : vc_cartularyref01_Hexed x0 w R) (hR : ∀ v w', R v w' → R' (.returned v) w') :
    Calls Tryz.prog 48 #[.string x0] w R' :=
  calls_of_body (vs := [(.string x0, false)]) (ty := ty) (ann := ⟨[], [(2, [(3, .int .i64)])], [], []⟩) (c := Tryz.f48.body.getD .skip) (by kernel_rfl) Tryz.func48 (by kernel_rfl) (by kernel_rfl) (Eq.mp (by kernel_rfl) h) hR
/-- cartularyref09.Id -/
def vc_cartularyref09_Id (x0 : ByteArray) (w : World) (R : Value → World → Prop) : Prop :=
  (((((↑(ByteArray.size x0) : Int) == 40) = true →
     Calls Tryz.prog (48 : Nat) (Array.mk [Value.string x0]) (w) (fun e1 w2 =>
       ∃ b3 : Bool, (e1 = Ending.returned (Value.bool b3) ∧
        R (Value.bool b3) w2)))) ∧
   (((↑(ByteArray.size x0) : Int) == 40) = false →
     R (Value.bool false) w))
theorem vc_cartularyref09_Id_ok {x0 : ByteArray} {w : World} {R : Value → World → Prop} {R' : Ending → World → Prop} (h : vc_cartularyref09_Id x0 w R) (hR : ∀ v w', R v w' → R' (.returned v) w') :
    Calls Tryz.prog 19 #[.string x0] w R' :=
  calls_of_body (vs := [(.string x0, false)]) (ty := ty) (ann := ⟨[], [], [], []⟩) (c := Tryz.f19.body.getD .skip) (by kernel_rfl) Tryz.func19 (by kernel_rfl) (by kernel_rfl) (Eq.mp (by kernel_rfl) h) hR
end Go.Proofs.YtmhlmdnhpfhoeaaGreatDoor

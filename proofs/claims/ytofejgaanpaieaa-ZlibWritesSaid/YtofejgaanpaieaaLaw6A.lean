/- Formulas of 1 Go functions of this seat (written by a program of the author's, vcgen.py), and that each is enough for the call. No condition. -/
import Derived.Test.YtofejgaanpaieaaTy
import Derived.Test.YtofejgaanpaieaaProg
set_option linter.unusedVariables false
namespace Go.Proofs.Ytofejgaanpaieaa
open Go Vc Go.Proofs
set_option maxRecDepth 100000
/-- cartularylaw06.awake -/
def vc_cartularylaw06_awake (w : World) (R : Value → World → Prop) : Prop :=
  Calls Try.prog (15 : Nat) (Array.mk [Value.string (ByteArray.mk (Array.mk [(120 : UInt8), (1 : UInt8), (1 : UInt8), (1 : UInt8), (0 : UInt8), (254 : UInt8), (255 : UInt8), (97 : UInt8), (0 : UInt8), (98 : UInt8), (0 : UInt8), (98 : UInt8)])), Value.int IntKind.i64 (0 : Int), Value.int IntKind.i64 (5 : Int)]) (w) (fun e1 w2 =>
    ∃ s3 : ByteArray, ∃ n4 : Int, ∃ n5 : Int, (e1 = Ending.returned (Value.tuple (Array.mk [Value.string s3, Value.int IntKind.i64 n4, Value.int IntKind.i64 n5])) ∧
     ((((ByteArray.toList s3 == ByteArray.toList (ByteArray.mk (Array.mk [97]))) = true →
        ((((n4 == 12) = true →
           ((((n5 == 0) = true →
              Calls Try.prog (24 : Nat) (Array.mk [Value.string (ByteArray.mk (Array.mk [(97 : UInt8)]))]) (w2) (fun e6 w7 =>
                ∃ s8 : ByteArray, (e6 = Ending.returned (Value.string s8) ∧
                 R (Value.bool (ByteArray.toList s8 == ByteArray.toList (ByteArray.mk (Array.mk [120, 1, 1, 1, 0, 254, 255, 97, 0, 98, 0, 98])))) w7)))) ∧
            ((n5 == 0) = false →
              R (Value.bool false) w2)))) ∧
         ((n4 == 12) = false →
           R (Value.bool false) w2)))) ∧
      ((ByteArray.toList s3 == ByteArray.toList (ByteArray.mk (Array.mk [97]))) = false →
        R (Value.bool false) w2))))
theorem vc_cartularylaw06_awake_ok {w : World} {R : Value → World → Prop} {R' : Ending → World → Prop} (h : vc_cartularylaw06_awake w R) (hR : ∀ v w', R v w' → R' (.returned v) w') :
    Calls Try.prog 17 #[] w R' :=
  calls_of_body (vs := []) (ty := ty) (ann := ⟨[], [], [], []⟩) (c := Try.f17.body.getD .skip) (by kernel_rfl) Try.func17 (by kernel_rfl) (by kernel_rfl) (Eq.mp (by kernel_rfl) h) hR
end Go.Proofs.Ytofejgaanpaieaa

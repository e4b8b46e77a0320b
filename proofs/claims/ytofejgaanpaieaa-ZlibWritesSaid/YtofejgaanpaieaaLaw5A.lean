/- Formulas of 1 Go functions of this seat (written by a program of the author's, vcgen.py), and that each is enough for the call. No condition. -/
import Derived.Test.YtofejgaanpaieaaTy
import Derived.Test.YtofejgaanpaieaaProg
set_option linter.unusedVariables false
namespace Go.Proofs.Ytofejgaanpaieaa
open Go Vc Go.Proofs
set_option maxRecDepth 100000
/-- cartularylaw05.awake -/
def vc_cartularylaw05_awake (w : World) (R : Value → World → Prop) : Prop :=
  Calls Try.prog (12 : Nat) (Array.mk [Value.string (ByteArray.mk (Array.mk [(75 : UInt8), (4 : UInt8), (0 : UInt8)])), Value.int IntKind.i64 (0 : Int), Value.int IntKind.i64 (9 : Int)]) (w) (fun e1 w2 =>
    ∃ s3 : ByteArray, ∃ n4 : Int, ∃ n5 : Int, (e1 = Ending.returned (Value.tuple (Array.mk [Value.string s3, Value.int IntKind.i64 n4, Value.int IntKind.i64 n5])) ∧
     Calls Try.prog (12 : Nat) (Array.mk [Value.string (ByteArray.mk (Array.mk [(7 : UInt8)])), Value.int IntKind.i64 (0 : Int), Value.int IntKind.i64 (9 : Int)]) (w2) (fun e6 w7 =>
       ∃ s8 : ByteArray, ∃ n9 : Int, ∃ n10 : Int, (e6 = Ending.returned (Value.tuple (Array.mk [Value.string s8, Value.int IntKind.i64 n9, Value.int IntKind.i64 n10])) ∧
        ((((ByteArray.toList s3 == ByteArray.toList (ByteArray.mk (Array.mk [97]))) = true →
           ((((n4 == 3) = true →
              ((((n5 == 0) = true →
                 R (Value.bool (n10 == 3)) w7)) ∧
               ((n5 == 0) = false →
                 R (Value.bool false) w7)))) ∧
            ((n4 == 3) = false →
              R (Value.bool false) w7)))) ∧
         ((ByteArray.toList s3 == ByteArray.toList (ByteArray.mk (Array.mk [97]))) = false →
           R (Value.bool false) w7))))))
theorem vc_cartularylaw05_awake_ok {w : World} {R : Value → World → Prop} {R' : Ending → World → Prop} (h : vc_cartularylaw05_awake w R) (hR : ∀ v w', R v w' → R' (.returned v) w') :
    Calls Try.prog 14 #[] w R' :=
  calls_of_body (vs := []) (ty := ty) (ann := ⟨[], [], [], []⟩) (c := Try.f14.body.getD .skip) (by kernel_rfl) Try.func14 (by kernel_rfl) (by kernel_rfl) (Eq.mp (by kernel_rfl) h) hR
end Go.Proofs.Ytofejgaanpaieaa

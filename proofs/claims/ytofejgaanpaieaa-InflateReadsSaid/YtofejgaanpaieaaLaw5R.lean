/- Formulas of 1 Go functions of this seat (written by a program of the author's, vcgen.py), and that each is enough for the call. No condition. -/
import Derived.Test.YtofejgaanpaieaaTy
import Derived.Test.YtofejgaanpaieaaProg
set_option linter.unusedVariables false
namespace Go.Proofs.Ytofejgaanpaieaa
open Go Vc Go.Proofs
set_option maxRecDepth 100000
/-- cartularylaw05.InflateReads -/
def vc_cartularylaw05_InflateReads (x0 : ByteArray) (x1 : Int) (x2 : Int) (w : World) (R : Value → World → Prop) : Prop :=
  Calls Try.prog (11 : Nat) (Array.mk [Value.string x0, Value.int IntKind.i64 400]) (w) (fun e1 w2 =>
    ∃ s3 : ByteArray, (e1 = Ending.returned (Value.string s3) ∧
     Calls Try.prog (12 : Nat) (Array.mk [Value.string s3, Value.int IntKind.i64 x1, Value.int IntKind.i64 x2]) (w2) (fun e4 w5 =>
       ∃ s6 : ByteArray, ∃ n7 : Int, ∃ n8 : Int, (e4 = Ending.returned (Value.tuple (Array.mk [Value.string s6, Value.int IntKind.i64 n7, Value.int IntKind.i64 n8])) ∧
        Calls Try.prog (13 : Nat) (Array.mk [Value.string s3, Value.int IntKind.i64 x1, Value.int IntKind.i64 x2]) (w5) (fun e9 w10 =>
          ∃ s11 : ByteArray, ∃ n12 : Int, ∃ n13 : Int, (e9 = Ending.returned (Value.tuple (Array.mk [Value.string s11, Value.int IntKind.i64 n12, Value.int IntKind.i64 n13])) ∧
           Calls Try.prog (14 : Nat) (Array.mk []) (w10) (fun e14 w15 =>
             ∃ b16 : Bool, (e14 = Ending.returned (Value.bool b16) ∧
              (((b16 = true →
                 ((((ByteArray.toList s6 == ByteArray.toList s11) = true →
                    ((((n7 == n12) = true →
                       R (Value.bool (n8 == n13)) w15)) ∧
                     ((n7 == n12) = false →
                       R (Value.bool false) w15)))) ∧
                  ((ByteArray.toList s6 == ByteArray.toList s11) = false →
                    R (Value.bool false) w15)))) ∧
               (b16 = false →
                 R (Value.bool false) w15))))))))))
theorem vc_cartularylaw05_InflateReads_ok {x0 : ByteArray} {x1 : Int} {x2 : Int} {w : World} {R : Value → World → Prop} {R' : Ending → World → Prop} (h : vc_cartularylaw05_InflateReads x0 x1 x2 w R) (hR : ∀ v w', R v w' → R' (.returned v) w') :
    Calls Try.prog 3 #[.string x0, .int .i64 x1, .int .i64 x2] w R' :=
  calls_of_body (vs := [(.string x0, false), (.int .i64 x1, false), (.int .i64 x2, false)]) (ty := ty) (ann := ⟨[], [], [], []⟩) (c := Try.f3.body.getD .skip) (by kernel_rfl) Try.func3 (by kernel_rfl) (by kernel_rfl) (Eq.mp (by kernel_rfl) h) hR
end Go.Proofs.Ytofejgaanpaieaa

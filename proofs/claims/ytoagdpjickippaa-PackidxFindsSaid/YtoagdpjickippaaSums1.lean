/- Formulas of 3 Go functions of this seat (written by a program of the author's, vcgen.py), and that each is enough for the call. No condition. -/
import Derived.Test.YtoagdpjickippaaTy
import Derived.Test.YtoagdpjickippaaProg
set_option linter.unusedVariables false
namespace Go.Proofs.Ytoagdpjickippaa
open Go Vc Go.Proofs
set_option maxRecDepth 100000
/-- sums.digit -/
def vc_sums_digit (x0 : Int) (w : World) (R : Value → World → Prop) : Prop :=
  ∃ I1 : Bool → World → Prop, ((((decide (x0 ≥ 48) = true →
      I1 (decide (x0 ≤ 57)) w)) ∧
    (decide (x0 ≥ 48) = false →
      I1 false w)) ∧
   ∀ b2 : Bool,
   ∀ w3 : World,
   (I1 b2 w3 →
     (((b2 = true →
        R (Value.int IntKind.i64 (IntKind.wrap IntKind.i64 (IntKind.wrap IntKind.u8 (x0 - 48)))) w3)) ∧
      (b2 = false →
        (((decide (x0 ≥ 97) = true →
           (((decide (x0 ≤ 102) = true →
              R (Value.int IntKind.i64 (IntKind.wrap IntKind.i64 (IntKind.wrap IntKind.i64 (IntKind.wrap IntKind.u8 (x0 - 97)) + 10))) w3)) ∧
            (decide (x0 ≤ 102) = false →
              R (Value.int IntKind.i64 (-1)) w3)))) ∧
         (decide (x0 ≥ 97) = false →
           R (Value.int IntKind.i64 (-1)) w3))))))
theorem vc_sums_digit_ok {x0 : Int} {w : World} {R : Value → World → Prop} {R' : Ending → World → Prop} (h : vc_sums_digit x0 w R) (hR : ∀ v w', R v w' → R' (.returned v) w') :
    Calls Try.prog 45 #[.int .u8 x0] w R' :=
  calls_of_body (vs := [(.int .u8 x0, false)]) (ty := ty) (ann := ⟨[(2, [(3, .bool)])], [], [], []⟩) (c := Try.f45.body.getD .skip) (by kernel_rfl) Try.func45 (by kernel_rfl) (by kernel_rfl) (Eq.mp (by kernel_rfl) h) hR
/-- sums.Unhex -/
def vc_sums_Unhex (x0 : ByteArray) (w : World) (R : Value → World → Prop) : Prop :=
  ∃ I1 : Sl → Int → World → Prop, ∃ I2 : Sl → Int → World → Nat, (I1 (Sl.mk none 0 0) 0 w ∧
   ∀ l3 : Sl,
   ∀ n4 : Int,
   ∀ w5 : World,
   (I1 l3 n4 w5 →
     (((decide (IntKind.wrap IntKind.i64 (n4 + 1) < (↑(ByteArray.size x0) : Int)) = true →
        ∀ w6 : World,
        (Drew w5 w6 →
          ∃ I7 : World → Prop, (I7 w6 ∧
           ((0 ≤ n4 ∧
             n4 < (↑(ByteArray.size x0) : Int)) ∧
            ((0 ≤ IntKind.wrap IntKind.i64 (n4 + 1) ∧
              IntKind.wrap IntKind.i64 (n4 + 1) < (↑(ByteArray.size x0) : Int)) ∧
             Calls Try.prog (45 : Nat) (Array.mk [Value.int IntKind.u8 (byteAt x0 n4)]) (w6) (fun e8 w9 =>
               ∃ n10 : Int, (e8 = Ending.returned (Value.int IntKind.i64 n10) ∧
                (I7 w9 ∧
                 Calls Try.prog (45 : Nat) (Array.mk [Value.int IntKind.u8 (byteAt x0 (IntKind.wrap IntKind.i64 (n4 + 1)))]) (w9) (fun e11 w12 =>
                   ∃ n13 : Int, (e11 = Ending.returned (Value.int IntKind.i64 n13) ∧
                    (I7 w12 ∧
                     (((decide (n10 < 0) = true →
                        R (Value.tuple (Array.mk [Value.string (ByteArray.mk (Array.mk [])), Value.bool false])) w12)) ∧
                      (decide (n10 < 0) = false →
                        (((decide (n13 < 0) = true →
                           R (Value.tuple (Array.mk [Value.string (ByteArray.mk (Array.mk [])), Value.bool false])) w12)) ∧
                         (decide (n13 < 0) = false →
                           ((0 : Int) ≤ (4 : Int) ∧
                            ∀ w14 : World,
                            (w14 = World.alloc w12 (Obj.cells (Array.mk [Value.int IntKind.u8 (IntKind.wrap IntKind.u8 (IntKind.wrap IntKind.i64 (↑(BitVec.toNat (BitVec.ofInt 64 (IntKind.wrap IntKind.i64 (n10 * 2 ^ min (Int.toNat 4) 64)) ||| BitVec.ofInt 64 n13)) : Int)))]) 5) →
                              ∃ w15 : World, ∃ l16 : Sl, (Sem.run Try.prog (Builtin.append_ (Array.mk [68, 68]) 68 (Array.mk [Value.slice l3.1 l3.2 l3.3, Value.slice (some (Addr.mk (Array.size (World.heap w12)) 0 none)) 1 1])) w14 = Result.ok (Value.slice l16.1 l16.2 l16.3) w15 ∧
                               (I1 (Sl.mk l16.1 l16.2 l16.3) (IntKind.wrap IntKind.i64 (n4 + 2)) w15 ∧
                                I2 (Sl.mk l16.1 l16.2 l16.3) (IntKind.wrap IntKind.i64 (n4 + 2)) w15 < I2 l3 n4 w5)))))))))))))))))))) ∧
      (decide (IntKind.wrap IntKind.i64 (n4 + 1) < (↑(ByteArray.size x0) : Int)) = false →
        ((2 : Int) ≠ (0 : Int) ∧
         ((((Int.tmod (↑(ByteArray.size x0) : Int) 2 != 0) = true →
            R (Value.tuple (Array.mk [Value.string (ByteArray.mk (Array.mk [])), Value.bool false])) w5)) ∧
          ((Int.tmod (↑(ByteArray.size x0) : Int) 2 != 0) = false →
            ∃ w17 : World, ∃ s18 : ByteArray, (Sem.run Try.prog (convert 68 9 (Value.slice l3.1 l3.2 l3.3)) w5 = Result.ok (Value.string s18) w17 ∧
             R (Value.tuple (Array.mk [Value.string s18, Value.bool true])) w17))))))))
theorem vc_sums_Unhex_ok {x0 : ByteArray} {w : World} {R : Value → World → Prop} {R' : Ending → World → Prop} (h : vc_sums_Unhex x0 w R) (hR : ∀ v w', R v w' → R' (.returned v) w') :
    Calls Try.prog 22 #[.string x0] w R' :=
  calls_of_body (vs := [(.string x0, false)]) (ty := ty) (ann := ⟨[], [(3, [(4, .slice), (5, .int .i64)])], [(5, .held [(0, true), (1, true), (2, true), (4, true), (5, true), (6, true), (7, true), (3, false), (8, false), (9, true), (10, true)])], []⟩) (c := Try.f22.body.getD .skip) (by kernel_rfl) Try.func22 (by kernel_rfl) (by kernel_rfl) (Eq.mp (by kernel_rfl) h) hR
/-- sums.Id -/
def vc_sums_Id (x0 : ByteArray) (w : World) (R : Value → World → Prop) : Prop :=
  Calls Try.prog (22 : Nat) (Array.mk [Value.string x0]) (w) (fun e1 w2 =>
    ∃ s3 : ByteArray, ∃ b4 : Bool, (e1 = Ending.returned (Value.tuple (Array.mk [Value.string s3, Value.bool b4])) ∧
     (((b4 = true →
        R (Value.bool ((↑(ByteArray.size x0) : Int) == 40)) w2)) ∧
      (b4 = false →
        R (Value.bool false) w2))))
theorem vc_sums_Id_ok {x0 : ByteArray} {w : World} {R : Value → World → Prop} {R' : Ending → World → Prop} (h : vc_sums_Id x0 w R) (hR : ∀ v w', R v w' → R' (.returned v) w') :
    Calls Try.prog 21 #[.string x0] w R' :=
  calls_of_body (vs := [(.string x0, false)]) (ty := ty) (ann := ⟨[], [], [], []⟩) (c := Try.f21.body.getD .skip) (by kernel_rfl) Try.func21 (by kernel_rfl) (by kernel_rfl) (Eq.mp (by kernel_rfl) h) hR
end Go.Proofs.Ytoagdpjickippaa

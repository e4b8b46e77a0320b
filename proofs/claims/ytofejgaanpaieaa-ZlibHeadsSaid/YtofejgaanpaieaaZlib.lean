/- Formulas of 4 Go functions of this seat (written by a program of the author's, vcgen.py), and that each is enough for the call. No condition. -/
import Derived.Test.YtofejgaanpaieaaTy
import Derived.Test.YtofejgaanpaieaaProg
set_option linter.unusedVariables false
namespace Go.Proofs.Ytofejgaanpaieaa
open Go Vc Go.Proofs
set_option maxRecDepth 100000
/-- zlib.Head -/
def vc_zlib_Head (x0 : Int) (x1 : Int) (w : World) (R : Value → World → Prop) : Prop :=
  ((((IntKind.wrap IntKind.u8 (↑(BitVec.toNat (BitVec.ofInt 8 x0 &&& BitVec.ofInt 8 15)) : Int) == 8) = true →
     ((0 : Int) ≤ (4 : Int) ∧
      (((decide (Int.fdiv x0 (2 ^ min (Int.toNat 4) 8) ≤ 7) = true →
         ((0 : Int) ≤ (8 : Int) ∧
          ((31 : Int) ≠ (0 : Int) ∧
           ((((Int.tmod (IntKind.wrap IntKind.i64 (↑(BitVec.toNat (BitVec.ofInt 64 (IntKind.wrap IntKind.i64 (IntKind.wrap IntKind.i64 x0 * 2 ^ min (Int.toNat 8) 64)) ||| BitVec.ofInt 64 (IntKind.wrap IntKind.i64 x1))) : Int)) 31 == 0) = true →
              R (Value.bool (IntKind.wrap IntKind.u8 (↑(BitVec.toNat (BitVec.ofInt 8 x1 &&& BitVec.ofInt 8 32)) : Int) == 0)) w)) ∧
            ((Int.tmod (IntKind.wrap IntKind.i64 (↑(BitVec.toNat (BitVec.ofInt 64 (IntKind.wrap IntKind.i64 (IntKind.wrap IntKind.i64 x0 * 2 ^ min (Int.toNat 8) 64)) ||| BitVec.ofInt 64 (IntKind.wrap IntKind.i64 x1))) : Int)) 31 == 0) = false →
              R (Value.bool false) w)))))) ∧
       (decide (Int.fdiv x0 (2 ^ min (Int.toNat 4) 8) ≤ 7) = false →
         R (Value.bool false) w))))) ∧
   ((IntKind.wrap IntKind.u8 (↑(BitVec.toNat (BitVec.ofInt 8 x0 &&& BitVec.ofInt 8 15)) : Int) == 8) = false →
     R (Value.bool false) w))
theorem vc_zlib_Head_ok {x0 : Int} {x1 : Int} {w : World} {R : Value → World → Prop} {R' : Ending → World → Prop} (h : vc_zlib_Head x0 x1 w R) (hR : ∀ v w', R v w' → R' (.returned v) w') :
    Calls Try.prog 18 #[.int .u8 x0, .int .u8 x1] w R' :=
  calls_of_body (vs := [(.int .u8 x0, false), (.int .u8 x1, false)]) (ty := ty) (ann := ⟨[], [], [], []⟩) (c := Try.f18.body.getD .skip) (by kernel_rfl) Try.func18 (by kernel_rfl) (by kernel_rfl) (Eq.mp (by kernel_rfl) h) hR
/-- zlib.Read -/
def vc_zlib_Read (x0 : ByteArray) (x1 : Int) (x2 : Int) (w : World) (R : Value → World → Prop) : Prop :=
  (((decide (x1 < 0) = true →
     R (Value.tuple (Array.mk [Value.string (ByteArray.mk (Array.mk [])), Value.int IntKind.i64 0, Value.int IntKind.i64 1])) w)) ∧
   (decide (x1 < 0) = false →
     (((decide (x1 > (↑(ByteArray.size x0) : Int)) = true →
        R (Value.tuple (Array.mk [Value.string (ByteArray.mk (Array.mk [])), Value.int IntKind.i64 0, Value.int IntKind.i64 1])) w)) ∧
      (decide (x1 > (↑(ByteArray.size x0) : Int)) = false →
        (((decide (x2 < 0) = true →
           R (Value.tuple (Array.mk [Value.string (ByteArray.mk (Array.mk [])), Value.int IntKind.i64 0, Value.int IntKind.i64 1])) w)) ∧
         (decide (x2 < 0) = false →
           (((decide (x2 > 65536) = true →
              R (Value.tuple (Array.mk [Value.string (ByteArray.mk (Array.mk [])), Value.int IntKind.i64 0, Value.int IntKind.i64 1])) w)) ∧
            (decide (x2 > 65536) = false →
              (((decide (IntKind.wrap IntKind.i64 ((↑(ByteArray.size x0) : Int) - x1) < 2) = true →
                 R (Value.tuple (Array.mk [Value.string (ByteArray.mk (Array.mk [])), Value.int IntKind.i64 0, Value.int IntKind.i64 6])) w)) ∧
               (decide (IntKind.wrap IntKind.i64 ((↑(ByteArray.size x0) : Int) - x1) < 2) = false →
                 ∀ w1 : World,
                 (Drew w w1 →
                   ∃ I2 : World → Prop, (I2 w1 ∧
                    ((0 ≤ x1 ∧
                      x1 < (↑(ByteArray.size x0) : Int)) ∧
                     ((0 ≤ IntKind.wrap IntKind.i64 (x1 + 1) ∧
                       IntKind.wrap IntKind.i64 (x1 + 1) < (↑(ByteArray.size x0) : Int)) ∧
                      Calls Try.prog (18 : Nat) (Array.mk [Value.int IntKind.u8 (byteAt x0 x1), Value.int IntKind.u8 (byteAt x0 (IntKind.wrap IntKind.i64 (x1 + 1)))]) (w1) (fun e3 w4 =>
                        ∃ b5 : Bool, (e3 = Ending.returned (Value.bool b5) ∧
                         (I2 w4 ∧
                          ((((!b5) = true →
                             R (Value.tuple (Array.mk [Value.string (ByteArray.mk (Array.mk [])), Value.int IntKind.i64 0, Value.int IntKind.i64 3])) w4)) ∧
                           ((!b5) = false →
                             Calls Try.prog (12 : Nat) (Array.mk [Value.string x0, Value.int IntKind.i64 (IntKind.wrap IntKind.i64 (x1 + 2)), Value.int IntKind.i64 x2]) (w4) (fun e6 w7 =>
                               ∃ s8 : ByteArray, ∃ n9 : Int, ∃ n10 : Int, (e6 = Ending.returned (Value.tuple (Array.mk [Value.string s8, Value.int IntKind.i64 n9, Value.int IntKind.i64 n10])) ∧
                                ((((n10 != 0) = true →
                                   R (Value.tuple (Array.mk [Value.string (ByteArray.mk (Array.mk [])), Value.int IntKind.i64 0, Value.int IntKind.i64 n10])) w7)) ∧
                                 ((n10 != 0) = false →
                                   (((decide (IntKind.wrap IntKind.i64 ((↑(ByteArray.size x0) : Int) - IntKind.wrap IntKind.i64 (IntKind.wrap IntKind.i64 (x1 + 2) + n9)) < 4) = true →
                                      R (Value.tuple (Array.mk [Value.string (ByteArray.mk (Array.mk [])), Value.int IntKind.i64 0, Value.int IntKind.i64 6])) w7)) ∧
                                    (decide (IntKind.wrap IntKind.i64 ((↑(ByteArray.size x0) : Int) - IntKind.wrap IntKind.i64 (IntKind.wrap IntKind.i64 (x1 + 2) + n9)) < 4) = false →
                                      ((0 ≤ IntKind.wrap IntKind.i64 (IntKind.wrap IntKind.i64 (x1 + 2) + n9) ∧
                                        (IntKind.wrap IntKind.i64 (IntKind.wrap IntKind.i64 (x1 + 2) + n9) ≤ IntKind.wrap IntKind.i64 (IntKind.wrap IntKind.i64 (IntKind.wrap IntKind.i64 (x1 + 2) + n9) + 4) ∧
                                         IntKind.wrap IntKind.i64 (IntKind.wrap IntKind.i64 (IntKind.wrap IntKind.i64 (x1 + 2) + n9) + 4) ≤ (↑(ByteArray.size x0) : Int))) ∧
                                       Calls Try.prog (37 : Nat) (Array.mk [Value.string (ByteArray.extract x0 (Int.toNat (IntKind.wrap IntKind.i64 (IntKind.wrap IntKind.i64 (x1 + 2) + n9))) (Int.toNat (IntKind.wrap IntKind.i64 (IntKind.wrap IntKind.i64 (IntKind.wrap IntKind.i64 (x1 + 2) + n9) + 4))))]) (w7) (fun e11 w12 =>
                                         ∃ n13 : Int, (e11 = Ending.returned (Value.int IntKind.u64 n13) ∧
                                          Calls Try.prog (38 : Nat) (Array.mk [Value.string s8]) (w12) (fun e14 w15 =>
                                            ∃ n16 : Int, (e14 = Ending.returned (Value.int IntKind.u32 n16) ∧
                                             ((((IntKind.wrap IntKind.u32 n13 != n16) = true →
                                                R (Value.tuple (Array.mk [Value.string (ByteArray.mk (Array.mk [])), Value.int IntKind.i64 0, Value.int IntKind.i64 5])) w15)) ∧
                                              ((IntKind.wrap IntKind.u32 n13 != n16) = false →
                                                R (Value.tuple (Array.mk [Value.string s8, Value.int IntKind.i64 (IntKind.wrap IntKind.i64 (n9 + 6)), Value.int IntKind.i64 0])) w15))))))))))))))))))))))))))))))))
theorem vc_zlib_Read_ok {x0 : ByteArray} {x1 : Int} {x2 : Int} {w : World} {R : Value → World → Prop} {R' : Ending → World → Prop} (h : vc_zlib_Read x0 x1 x2 w R) (hR : ∀ v w', R v w' → R' (.returned v) w') :
    Calls Try.prog 15 #[.string x0, .int .i64 x1, .int .i64 x2] w R' :=
  calls_of_body (vs := [(.string x0, false), (.int .i64 x1, false), (.int .i64 x2, false)]) (ty := ty) (ann := ⟨[], [], [(5, .held [(0, true), (1, true), (2, true), (3, true), (4, true), (5, true), (6, true), (7, false), (8, true)])], []⟩) (c := Try.f15.body.getD .skip) (by kernel_rfl) Try.func15 (by kernel_rfl) (by kernel_rfl) (Eq.mp (by kernel_rfl) h) hR
/-- zlib.frame -/
def vc_zlib_frame (x0 : ByteArray) (x1 : ByteArray) (w : World) (R : Value → World → Prop) : Prop :=
  (ByteArray.size (ByteArray.mk (Array.mk [120, 1])) + ByteArray.size x0 ≤ 9223372036854775807 ∧
   Calls Try.prog (38 : Nat) (Array.mk [Value.string x1]) (w) (fun e1 w2 =>
     ∃ n3 : Int, (e1 = Ending.returned (Value.int IntKind.u32 n3) ∧
      Calls Try.prog (70 : Nat) (Array.mk [Value.int IntKind.u64 (IntKind.wrap IntKind.u64 n3), Value.int IntKind.i64 4]) (w2) (fun e4 w5 =>
        ∃ s6 : ByteArray, (e4 = Ending.returned (Value.string s6) ∧
         (ByteArray.size (ByteArray.mk (Array.mk [120, 1]) ++ x0) + ByteArray.size s6 ≤ 9223372036854775807 ∧
          R (Value.string (ByteArray.mk (Array.mk [120, 1]) ++ x0 ++ s6)) w5))))))
theorem vc_zlib_frame_ok {x0 : ByteArray} {x1 : ByteArray} {w : World} {R : Value → World → Prop} {R' : Ending → World → Prop} (h : vc_zlib_frame x0 x1 w R) (hR : ∀ v w', R v w' → R' (.returned v) w') :
    Calls Try.prog 51 #[.string x0, .string x1] w R' :=
  calls_of_body (vs := [(.string x0, false), (.string x1, false)]) (ty := ty) (ann := ⟨[], [], [], []⟩) (c := Try.f51.body.getD .skip) (by kernel_rfl) Try.func51 (by kernel_rfl) (by kernel_rfl) (Eq.mp (by kernel_rfl) h) hR
/-- zlib.Plain -/
def vc_zlib_Plain (x0 : ByteArray) (w : World) (R : Value → World → Prop) : Prop :=
  Calls Try.prog (20 : Nat) (Array.mk [Value.string x0]) (w) (fun e1 w2 =>
    ∃ s3 : ByteArray, (e1 = Ending.returned (Value.string s3) ∧
     Calls Try.prog (51 : Nat) (Array.mk [Value.string s3, Value.string x0]) (w2) (fun e4 w5 =>
       ∃ s6 : ByteArray, (e4 = Ending.returned (Value.string s6) ∧
        R (Value.string s6) w5))))
theorem vc_zlib_Plain_ok {x0 : ByteArray} {w : World} {R : Value → World → Prop} {R' : Ending → World → Prop} (h : vc_zlib_Plain x0 w R) (hR : ∀ v w', R v w' → R' (.returned v) w') :
    Calls Try.prog 24 #[.string x0] w R' :=
  calls_of_body (vs := [(.string x0, false)]) (ty := ty) (ann := ⟨[], [], [], []⟩) (c := Try.f24.body.getD .skip) (by kernel_rfl) Try.func24 (by kernel_rfl) (by kernel_rfl) (Eq.mp (by kernel_rfl) h) hR
end Go.Proofs.Ytofejgaanpaieaa

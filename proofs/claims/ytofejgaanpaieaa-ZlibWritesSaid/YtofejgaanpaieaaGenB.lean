/- Formulas of 8 Go functions of this seat (written by a program of the author's, vcgen.py), and that each is enough for the call. No condition. -/
import Derived.Test.YtofejgaanpaieaaTy
import Derived.Test.YtofejgaanpaieaaProg
set_option linter.unusedVariables false
namespace Go.Proofs.Ytofejgaanpaieaa
open Go Vc Go.Proofs
set_option maxRecDepth 100000
/-- zlib.Head -/
def vc_zlib_Head (x0 : Int) (x1 : Int) (w : World) (R : Value → World → Prop) : Prop :=
  ((((IntKind.wrap IntKind.u8 (↑(BitVec.toNat (BitVec.ofInt 8 x0 &&& BitVec.ofInt 8 15)) : Int) == 8) = true →
     ((0 : Int) ≤ (4 : Int) ∧
      (((decide (Int.fdiv x0 (2 ^ min (Int.toNat 4) 8) ≤ 7) = true →
         ((0 : Int) ≤ (8 : Int) ∧
          ((31 : Int) ≠ (0 : Int) ∧
           ((((Int.tmod (IntKind.wrap IntKind.i64 (↑(BitVec.toNat (BitVec.ofInt 64 (IntKind.wrap IntKind.i64 (IntKind.wrap IntKind.i64 x0 * 2 ^ min (Int.toNat 8) 64)) ||| BitVec.ofInt 64 (IntKind.wrap IntKind.i64 x1))) : Int)) 31 == 0) = true →
              R (Value.bool (IntKind.wrap IntKind.u8 (↑(BitVec.toNat (BitVec.ofInt 8 x1 &&& BitVec.ofInt 8 32)) : Int) == 0)) w)) ∧
            ((Int.tmod (IntKind.wrap IntKind.i64 (↑(BitVec.toNat (BitVec.ofInt 64 (IntKind.wrap IntKind.i64 (IntKind.wrap IntKind.i64 x0 * 2 ^ min (Int.toNat 8) 64)) ||| BitVec.ofInt 64 (IntKind.wrap IntKind.i64 x1))) : Int)) 31 == 0) = false →
              R (Value.bool false) w)))))) ∧
       (decide (Int.fdiv x0 (2 ^ min (Int.toNat 4) 8) ≤ 7) = false →
         R (Value.bool false) w))))) ∧
   ((IntKind.wrap IntKind.u8 (↑(BitVec.toNat (BitVec.ofInt 8 x0 &&& BitVec.ofInt 8 15)) : Int) == 8) = false →
     R (Value.bool false) w))
theorem vc_zlib_Head_ok {x0 : Int} {x1 : Int} {w : World} {R : Value → World → Prop} {R' : Ending → World → Prop} (h : vc_zlib_Head x0 x1 w R) (hR : ∀ v w', R v w' → R' (.returned v) w') :
    Calls Try.prog 18 #[.int .u8 x0, .int .u8 x1] w R' :=
  calls_of_body (vs := [(.int .u8 x0, false), (.int .u8 x1, false)]) (ty := ty) (ann := ⟨[], [], [], []⟩) (c := Try.f18.body.getD .skip) (by kernel_rfl) Try.func18 (by kernel_rfl) (by kernel_rfl) (Eq.mp (by kernel_rfl) h) hR
/-- zlib.Read -/
def vc_zlib_Read (x0 : ByteArray) (x1 : Int) (x2 : Int) (w : World) (R : Value → World → Prop) : Prop :=
  (((decide (x1 < 0) = true →
     R (Value.tuple (Array.mk [Value.string (ByteArray.mk (Array.mk [])), Value.int IntKind.i64 0, Value.int IntKind.i64 1])) w)) ∧
   (decide (x1 < 0) = false →
     (((decide (x1 > (↑(ByteArray.size x0) : Int)) = true →
        R (Value.tuple (Array.mk [Value.string (ByteArray.mk (Array.mk [])), Value.int IntKind.i64 0, Value.int IntKind.i64 1])) w)) ∧
      (decide (x1 > (↑(ByteArray.size x0) : Int)) = false →
        (((decide (x2 < 0) = true →
           R (Value.tuple (Array.mk [Value.string (ByteArray.mk (Array.mk [])), Value.int IntKind.i64 0, Value.int IntKind.i64 1])) w)) ∧
         (decide (x2 < 0) = false →
           (((decide (x2 > 65536) = true →
              R (Value.tuple (Array.mk [Value.string (ByteArray.mk (Array.mk [])), Value.int IntKind.i64 0, Value.int IntKind.i64 1])) w)) ∧
            (decide (x2 > 65536) = false →
              (((decide (IntKind.wrap IntKind.i64 ((↑(ByteArray.size x0) : Int) - x1) < 2) = true →
                 R (Value.tuple (Array.mk [Value.string (ByteArray.mk (Array.mk [])), Value.int IntKind.i64 0, Value.int IntKind.i64 6])) w)) ∧
               (decide (IntKind.wrap IntKind.i64 ((↑(ByteArray.size x0) : Int) - x1) < 2) = false →
                 ∀ w1 : World,
                 (Drew w w1 →
                   ∃ I2 : World → Prop, (I2 w1 ∧
                    ((0 ≤ x1 ∧
                      x1 < (↑(ByteArray.size x0) : Int)) ∧
                     ((0 ≤ IntKind.wrap IntKind.i64 (x1 + 1) ∧
                       IntKind.wrap IntKind.i64 (x1 + 1) < (↑(ByteArray.size x0) : Int)) ∧
                      Calls Try.prog (18 : Nat) (Array.mk [Value.int IntKind.u8 (byteAt x0 x1), Value.int IntKind.u8 (byteAt x0 (IntKind.wrap IntKind.i64 (x1 + 1)))]) (w1) (fun e3 w4 =>
                        ∃ b5 : Bool, (e3 = Ending.returned (Value.bool b5) ∧
                         (I2 w4 ∧
                          ((((!b5) = true →
                             R (Value.tuple (Array.mk [Value.string (ByteArray.mk (Array.mk [])), Value.int IntKind.i64 0, Value.int IntKind.i64 3])) w4)) ∧
                           ((!b5) = false →
                             Calls Try.prog (12 : Nat) (Array.mk [Value.string x0, Value.int IntKind.i64 (IntKind.wrap IntKind.i64 (x1 + 2)), Value.int IntKind.i64 x2]) (w4) (fun e6 w7 =>
                               ∃ s8 : ByteArray, ∃ n9 : Int, ∃ n10 : Int, (e6 = Ending.returned (Value.tuple (Array.mk [Value.string s8, Value.int IntKind.i64 n9, Value.int IntKind.i64 n10])) ∧
                                ((((n10 != 0) = true →
                                   R (Value.tuple (Array.mk [Value.string (ByteArray.mk (Array.mk [])), Value.int IntKind.i64 0, Value.int IntKind.i64 n10])) w7)) ∧
                                 ((n10 != 0) = false →
                                   (((decide (IntKind.wrap IntKind.i64 ((↑(ByteArray.size x0) : Int) - IntKind.wrap IntKind.i64 (IntKind.wrap IntKind.i64 (x1 + 2) + n9)) < 4) = true →
                                      R (Value.tuple (Array.mk [Value.string (ByteArray.mk (Array.mk [])), Value.int IntKind.i64 0, Value.int IntKind.i64 6])) w7)) ∧
                                    (decide (IntKind.wrap IntKind.i64 ((↑(ByteArray.size x0) : Int) - IntKind.wrap IntKind.i64 (IntKind.wrap IntKind.i64 (x1 + 2) + n9)) < 4) = false →
                                      ((0 ≤ IntKind.wrap IntKind.i64 (IntKind.wrap IntKind.i64 (x1 + 2) + n9) ∧
                                        (IntKind.wrap IntKind.i64 (IntKind.wrap IntKind.i64 (x1 + 2) + n9) ≤ IntKind.wrap IntKind.i64 (IntKind.wrap IntKind.i64 (IntKind.wrap IntKind.i64 (x1 + 2) + n9) + 4) ∧
                                         IntKind.wrap IntKind.i64 (IntKind.wrap IntKind.i64 (IntKind.wrap IntKind.i64 (x1 + 2) + n9) + 4) ≤ (↑(ByteArray.size x0) : Int))) ∧
                                       Calls Try.prog (37 : Nat) (Array.mk [Value.string (ByteArray.extract x0 (Int.toNat (IntKind.wrap IntKind.i64 (IntKind.wrap IntKind.i64 (x1 + 2) + n9))) (Int.toNat (IntKind.wrap IntKind.i64 (IntKind.wrap IntKind.i64 (IntKind.wrap IntKind.i64 (x1 + 2) + n9) + 4))))]) (w7) (fun e11 w12 =>
                                         ∃ n13 : Int, (e11 = Ending.returned (Value.int IntKind.u64 n13) ∧
                                          Calls Try.prog (38 : Nat) (Array.mk [Value.string s8]) (w12) (fun e14 w15 =>
                                            ∃ n16 : Int, (e14 = Ending.returned (Value.int IntKind.u32 n16) ∧
                                             ((((IntKind.wrap IntKind.u32 n13 != n16) = true →
                                                R (Value.tuple (Array.mk [Value.string (ByteArray.mk (Array.mk [])), Value.int IntKind.i64 0, Value.int IntKind.i64 5])) w15)) ∧
                                              ((IntKind.wrap IntKind.u32 n13 != n16) = false →
                                                R (Value.tuple (Array.mk [Value.string s8, Value.int IntKind.i64 (IntKind.wrap IntKind.i64 (n9 + 6)), Value.int IntKind.i64 0])) w15))))))))))))))))))))))))))))))))
theorem vc_zlib_Read_ok {x0 : ByteArray} {x1 : Int} {x2 : Int} {w : World} {R : Value → World → Prop} {R' : Ending → World → Prop} (h : vc_zlib_Read x0 x1 x2 w R) (hR : ∀ v w', R v w' → R' (.returned v) w') :
    Calls Try.prog 15 #[.string x0, .int .i64 x1, .int .i64 x2] w R' :=
  calls_of_body (vs := [(.string x0, false), (.int .i64 x1, false), (.int .i64 x2, false)]) (ty := ty) (ann := ⟨[], [], [(5, .held [(0, true), (1, true), (2, true), (3, true), (4, true), (5, true), (6, true), (7, false), (8, true)])], []⟩) (c := Try.f15.body.getD .skip) (by kernel_rfl) Try.func15 (by kernel_rfl) (by kernel_rfl) (Eq.mp (by kernel_rfl) h) hR
/-- zlib.frame -/
def vc_zlib_frame (x0 : ByteArray) (x1 : ByteArray) (w : World) (R : Value → World → Prop) : Prop :=
  (ByteArray.size (ByteArray.mk (Array.mk [120, 1])) + ByteArray.size x0 ≤ 9223372036854775807 ∧
   Calls Try.prog (38 : Nat) (Array.mk [Value.string x1]) (w) (fun e1 w2 =>
     ∃ n3 : Int, (e1 = Ending.returned (Value.int IntKind.u32 n3) ∧
      Calls Try.prog (70 : Nat) (Array.mk [Value.int IntKind.u64 (IntKind.wrap IntKind.u64 n3), Value.int IntKind.i64 4]) (w2) (fun e4 w5 =>
        ∃ s6 : ByteArray, (e4 = Ending.returned (Value.string s6) ∧
         (ByteArray.size (ByteArray.mk (Array.mk [120, 1]) ++ x0) + ByteArray.size s6 ≤ 9223372036854775807 ∧
          R (Value.string (ByteArray.mk (Array.mk [120, 1]) ++ x0 ++ s6)) w5))))))
theorem vc_zlib_frame_ok {x0 : ByteArray} {x1 : ByteArray} {w : World} {R : Value → World → Prop} {R' : Ending → World → Prop} (h : vc_zlib_frame x0 x1 w R) (hR : ∀ v w', R v w' → R' (.returned v) w') :
    Calls Try.prog 51 #[.string x0, .string x1] w R' :=
  calls_of_body (vs := [(.string x0, false), (.string x1, false)]) (ty := ty) (ann := ⟨[], [], [], []⟩) (c := Try.f51.body.getD .skip) (by kernel_rfl) Try.func51 (by kernel_rfl) (by kernel_rfl) (Eq.mp (by kernel_rfl) h) hR
/-- zlib.Plain -/
def vc_zlib_Plain (x0 : ByteArray) (w : World) (R : Value → World → Prop) : Prop :=
  Calls Try.prog (20 : Nat) (Array.mk [Value.string x0]) (w) (fun e1 w2 =>
    ∃ s3 : ByteArray, (e1 = Ending.returned (Value.string s3) ∧
     Calls Try.prog (51 : Nat) (Array.mk [Value.string s3, Value.string x0]) (w2) (fun e4 w5 =>
       ∃ s6 : ByteArray, (e4 = Ending.returned (Value.string s6) ∧
        R (Value.string s6) w5))))
theorem vc_zlib_Plain_ok {x0 : ByteArray} {w : World} {R : Value → World → Prop} {R' : Ending → World → Prop} (h : vc_zlib_Plain x0 w R) (hR : ∀ v w', R v w' → R' (.returned v) w') :
    Calls Try.prog 24 #[.string x0] w R' :=
  calls_of_body (vs := [(.string x0, false)]) (ty := ty) (ann := ⟨[], [], [], []⟩) (c := Try.f24.body.getD .skip) (by kernel_rfl) Try.func24 (by kernel_rfl) (by kernel_rfl) (Eq.mp (by kernel_rfl) h) hR
/-- zlib.Write -/
def vc_zlib_Write (x0 : ByteArray) (w : World) (R : Value → World → Prop) : Prop :=
  Calls Try.prog (21 : Nat) (Array.mk [Value.string x0]) (w) (fun e1 w2 =>
    ∃ s3 : ByteArray, (e1 = Ending.returned (Value.string s3) ∧
     Calls Try.prog (51 : Nat) (Array.mk [Value.string s3, Value.string x0]) (w2) (fun e4 w5 =>
       ∃ s6 : ByteArray, (e4 = Ending.returned (Value.string s6) ∧
        R (Value.string s6) w5))))
theorem vc_zlib_Write_ok {x0 : ByteArray} {w : World} {R : Value → World → Prop} {R' : Ending → World → Prop} (h : vc_zlib_Write x0 w R) (hR : ∀ v w', R v w' → R' (.returned v) w') :
    Calls Try.prog 23 #[.string x0] w R' :=
  calls_of_body (vs := [(.string x0, false)]) (ty := ty) (ann := ⟨[], [], [], []⟩) (c := Try.f23.body.getD .skip) (by kernel_rfl) Try.func23 (by kernel_rfl) (by kernel_rfl) (Eq.mp (by kernel_rfl) h) hR
/-- cartularyref06.Head -/
def vc_cartularyref06_Head (x0 : Int) (x1 : Int) (w : World) (R : Value → World → Prop) : Prop :=
  ((16 : Int) ≠ (0 : Int) ∧
   ((((Int.tmod x0 16 == 8) = true →
      ((16 : Int) ≠ (0 : Int) ∧
       (((decide (IntKind.wrap IntKind.i64 (Int.tdiv x0 16) ≤ 7) = true →
          ((31 : Int) ≠ (0 : Int) ∧
           ((((Int.tmod (IntKind.wrap IntKind.i64 (IntKind.wrap IntKind.i64 (256 * x0) + x1)) 31 == 0) = true →
              ((32 : Int) ≠ (0 : Int) ∧
               ((2 : Int) ≠ (0 : Int) ∧
                R (Value.bool (Int.tmod (IntKind.wrap IntKind.i64 (Int.tdiv x1 32)) 2 == 0)) w)))) ∧
            ((Int.tmod (IntKind.wrap IntKind.i64 (IntKind.wrap IntKind.i64 (256 * x0) + x1)) 31 == 0) = false →
              R (Value.bool false) w))))) ∧
        (decide (IntKind.wrap IntKind.i64 (Int.tdiv x0 16) ≤ 7) = false →
          R (Value.bool false) w))))) ∧
    ((Int.tmod x0 16 == 8) = false →
      R (Value.bool false) w)))
theorem vc_cartularyref06_Head_ok {x0 : Int} {x1 : Int} {w : World} {R : Value → World → Prop} {R' : Ending → World → Prop} (h : vc_cartularyref06_Head x0 x1 w R) (hR : ∀ v w', R v w' → R' (.returned v) w') :
    Calls Try.prog 19 #[.int .i64 x0, .int .i64 x1] w R' :=
  calls_of_body (vs := [(.int .i64 x0, false), (.int .i64 x1, false)]) (ty := ty) (ann := ⟨[], [], [], []⟩) (c := Try.f19.body.getD .skip) (by kernel_rfl) Try.func19 (by kernel_rfl) (by kernel_rfl) (Eq.mp (by kernel_rfl) h) hR
/-- cartularyref06.Read -/
def vc_cartularyref06_Read (x0 : ByteArray) (x1 : Int) (x2 : Int) (w : World) (R : Value → World → Prop) : Prop :=
  (((decide (x1 < 0) = true →
     R (Value.tuple (Array.mk [Value.string (ByteArray.mk (Array.mk [])), Value.int IntKind.i64 0, Value.int IntKind.i64 1])) w)) ∧
   (decide (x1 < 0) = false →
     (((decide (x1 > (↑(ByteArray.size x0) : Int)) = true →
        R (Value.tuple (Array.mk [Value.string (ByteArray.mk (Array.mk [])), Value.int IntKind.i64 0, Value.int IntKind.i64 1])) w)) ∧
      (decide (x1 > (↑(ByteArray.size x0) : Int)) = false →
        (((decide (x2 < 0) = true →
           R (Value.tuple (Array.mk [Value.string (ByteArray.mk (Array.mk [])), Value.int IntKind.i64 0, Value.int IntKind.i64 1])) w)) ∧
         (decide (x2 < 0) = false →
           (((decide (x2 > 65536) = true →
              R (Value.tuple (Array.mk [Value.string (ByteArray.mk (Array.mk [])), Value.int IntKind.i64 0, Value.int IntKind.i64 1])) w)) ∧
            (decide (x2 > 65536) = false →
              (((decide (IntKind.wrap IntKind.i64 ((↑(ByteArray.size x0) : Int) - x1) < 2) = true →
                 R (Value.tuple (Array.mk [Value.string (ByteArray.mk (Array.mk [])), Value.int IntKind.i64 0, Value.int IntKind.i64 6])) w)) ∧
               (decide (IntKind.wrap IntKind.i64 ((↑(ByteArray.size x0) : Int) - x1) < 2) = false →
                 ∀ w1 : World,
                 (Drew w w1 →
                   ∃ I2 : World → Prop, (I2 w1 ∧
                    ((0 ≤ x1 ∧
                      x1 < (↑(ByteArray.size x0) : Int)) ∧
                     ((0 ≤ IntKind.wrap IntKind.i64 (x1 + 1) ∧
                       IntKind.wrap IntKind.i64 (x1 + 1) < (↑(ByteArray.size x0) : Int)) ∧
                      Calls Try.prog (19 : Nat) (Array.mk [Value.int IntKind.i64 (IntKind.wrap IntKind.i64 (byteAt x0 x1)), Value.int IntKind.i64 (IntKind.wrap IntKind.i64 (byteAt x0 (IntKind.wrap IntKind.i64 (x1 + 1))))]) (w1) (fun e3 w4 =>
                        ∃ b5 : Bool, (e3 = Ending.returned (Value.bool b5) ∧
                         (I2 w4 ∧
                          ((((!b5) = true →
                             R (Value.tuple (Array.mk [Value.string (ByteArray.mk (Array.mk [])), Value.int IntKind.i64 0, Value.int IntKind.i64 3])) w4)) ∧
                           ((!b5) = false →
                             Calls Try.prog (13 : Nat) (Array.mk [Value.string x0, Value.int IntKind.i64 (IntKind.wrap IntKind.i64 (x1 + 2)), Value.int IntKind.i64 x2]) (w4) (fun e6 w7 =>
                               ∃ s8 : ByteArray, ∃ n9 : Int, ∃ n10 : Int, (e6 = Ending.returned (Value.tuple (Array.mk [Value.string s8, Value.int IntKind.i64 n9, Value.int IntKind.i64 n10])) ∧
                                ((((n10 != 0) = true →
                                   R (Value.tuple (Array.mk [Value.string (ByteArray.mk (Array.mk [])), Value.int IntKind.i64 0, Value.int IntKind.i64 n10])) w7)) ∧
                                 ((n10 != 0) = false →
                                   ((0 ≤ IntKind.wrap IntKind.i64 (IntKind.wrap IntKind.i64 (x1 + 2) + n9) ∧
                                     IntKind.wrap IntKind.i64 (IntKind.wrap IntKind.i64 (x1 + 2) + n9) ≤ (↑(ByteArray.size x0) : Int)) ∧
                                    (((decide ((↑(ByteArray.size (ByteArray.extract x0 (Int.toNat (IntKind.wrap IntKind.i64 (IntKind.wrap IntKind.i64 (x1 + 2) + n9))) (ByteArray.size x0))) : Int) < 4) = true →
                                       R (Value.tuple (Array.mk [Value.string (ByteArray.mk (Array.mk [])), Value.int IntKind.i64 0, Value.int IntKind.i64 6])) w7)) ∧
                                     (decide ((↑(ByteArray.size (ByteArray.extract x0 (Int.toNat (IntKind.wrap IntKind.i64 (IntKind.wrap IntKind.i64 (x1 + 2) + n9))) (ByteArray.size x0))) : Int) < 4) = false →
                                       ∀ w11 : World,
                                       (Drew w7 w11 →
                                         ∃ I12 : World → Prop, (I12 w11 ∧
                                          (((0 : Int) ≤ (4 : Int) ∧
                                            4 ≤ (↑(ByteArray.size (ByteArray.extract x0 (Int.toNat (IntKind.wrap IntKind.i64 (IntKind.wrap IntKind.i64 (x1 + 2) + n9))) (ByteArray.size x0))) : Int)) ∧
                                           Calls Try.prog (40 : Nat) (Array.mk [Value.string s8]) (w11) (fun e13 w14 =>
                                             ∃ n15 : Int, (e13 = Ending.returned (Value.int IntKind.u32 n15) ∧
                                              (I12 w14 ∧
                                               Calls Try.prog (39 : Nat) (Array.mk [Value.int IntKind.u64 (IntKind.wrap IntKind.u64 n15), Value.int IntKind.i64 4]) (w14) (fun e16 w17 =>
                                                 ∃ s18 : ByteArray, (e16 = Ending.returned (Value.string s18) ∧
                                                  (I12 w17 ∧
                                                   ((((!ByteArray.toList (ByteArray.extract (ByteArray.extract x0 (Int.toNat (IntKind.wrap IntKind.i64 (IntKind.wrap IntKind.i64 (x1 + 2) + n9))) (ByteArray.size x0)) 0 (Int.toNat 4)) == ByteArray.toList s18) = true →
                                                      R (Value.tuple (Array.mk [Value.string (ByteArray.mk (Array.mk [])), Value.int IntKind.i64 0, Value.int IntKind.i64 5])) w17)) ∧
                                                    ((!ByteArray.toList (ByteArray.extract (ByteArray.extract x0 (Int.toNat (IntKind.wrap IntKind.i64 (IntKind.wrap IntKind.i64 (x1 + 2) + n9))) (ByteArray.size x0)) 0 (Int.toNat 4)) == ByteArray.toList s18) = false →
                                                      R (Value.tuple (Array.mk [Value.string s8, Value.int IntKind.i64 (IntKind.wrap IntKind.i64 (n9 + 6)), Value.int IntKind.i64 0])) w17)))))))))))))))))))))))))))))))))))))
theorem vc_cartularyref06_Read_ok {x0 : ByteArray} {x1 : Int} {x2 : Int} {w : World} {R : Value → World → Prop} {R' : Ending → World → Prop} (h : vc_cartularyref06_Read x0 x1 x2 w R) (hR : ∀ v w', R v w' → R' (.returned v) w') :
    Calls Try.prog 16 #[.string x0, .int .i64 x1, .int .i64 x2] w R' :=
  calls_of_body (vs := [(.string x0, false), (.int .i64 x1, false), (.int .i64 x2, false)]) (ty := ty) (ann := ⟨[], [], [(5, .held [(0, true), (1, true), (2, true), (3, true), (4, true), (5, true), (6, true), (7, true), (8, true), (9, false), (10, true)]), (13, .held [(0, true), (1, true), (2, true), (3, false), (4, true), (5, false), (6, true)])], []⟩) (c := Try.f16.body.getD .skip) (by kernel_rfl) Try.func16 (by kernel_rfl) (by kernel_rfl) (Eq.mp (by kernel_rfl) h) hR
/-- cartularyref06.Frame -/
def vc_cartularyref06_Frame (x0 : ByteArray) (x1 : ByteArray) (w : World) (R : Value → World → Prop) : Prop :=
  ∀ w1 : World,
  (Drew w w1 →
    ∃ I2 : World → Prop, (I2 w1 ∧
     ((∀ w3 : World,
      (w3 = World.alloc w1 (Obj.cells (Array.mk [Value.int IntKind.u8 120, Value.int IntKind.u8 1]) 5) →
        (I2 w3 ∧
         ((∃ w4 : World, ∃ s5 : ByteArray, (Sem.run Try.prog (convert 40 9 (Value.slice (some (Addr.mk (Array.size (World.heap w1)) 0 none)) 2 2)) w3 = Result.ok (Value.string s5) w4 ∧
           (I2 w4 ∧
            (ByteArray.size s5 + ByteArray.size x0 ≤ 9223372036854775807 ∧
             Calls Try.prog (40 : Nat) (Array.mk [Value.string x1]) (w4) (fun e6 w7 =>
               ∃ n8 : Int, (e6 = Ending.returned (Value.int IntKind.u32 n8) ∧
                (I2 w7 ∧
                 Calls Try.prog (39 : Nat) (Array.mk [Value.int IntKind.u64 (IntKind.wrap IntKind.u64 n8), Value.int IntKind.i64 4]) (w7) (fun e9 w10 =>
                   ∃ s11 : ByteArray, (e9 = Ending.returned (Value.string s11) ∧
                    (I2 w10 ∧
                     (ByteArray.size (s5 ++ x0) + ByteArray.size s11 ≤ 9223372036854775807 ∧
                      R (Value.string (s5 ++ x0 ++ s11)) w10))))))))))) ∧
          Calls Try.prog (40 : Nat) (Array.mk [Value.string x1]) (w3) (fun e12 w13 =>
            ∃ n14 : Int, (e12 = Ending.returned (Value.int IntKind.u32 n14) ∧
             (I2 w13 ∧
              ((∃ w15 : World, ∃ s16 : ByteArray, (Sem.run Try.prog (convert 40 9 (Value.slice (some (Addr.mk (Array.size (World.heap w1)) 0 none)) 2 2)) w13 = Result.ok (Value.string s16) w15 ∧
                (I2 w15 ∧
                 (ByteArray.size s16 + ByteArray.size x0 ≤ 9223372036854775807 ∧
                  Calls Try.prog (39 : Nat) (Array.mk [Value.int IntKind.u64 (IntKind.wrap IntKind.u64 n14), Value.int IntKind.i64 4]) (w15) (fun e17 w18 =>
                    ∃ s19 : ByteArray, (e17 = Ending.returned (Value.string s19) ∧
                     (I2 w18 ∧
                      (ByteArray.size (s16 ++ x0) + ByteArray.size s19 ≤ 9223372036854775807 ∧
                       R (Value.string (s16 ++ x0 ++ s19)) w18)))))))) ∧
               Calls Try.prog (39 : Nat) (Array.mk [Value.int IntKind.u64 (IntKind.wrap IntKind.u64 n14), Value.int IntKind.i64 4]) (w13) (fun e20 w21 =>
                 ∃ s22 : ByteArray, (e20 = Ending.returned (Value.string s22) ∧
                  (I2 w21 ∧
                   ∃ w23 : World, ∃ s24 : ByteArray, (Sem.run Try.prog (convert 40 9 (Value.slice (some (Addr.mk (Array.size (World.heap w1)) 0 none)) 2 2)) w21 = Result.ok (Value.string s24) w23 ∧
                    (I2 w23 ∧
                     (ByteArray.size s24 + ByteArray.size x0 ≤ 9223372036854775807 ∧
                      (ByteArray.size (s24 ++ x0) + ByteArray.size s22 ≤ 9223372036854775807 ∧
                       R (Value.string (s24 ++ x0 ++ s22)) w23))))))))))))))) ∧
      Calls Try.prog (40 : Nat) (Array.mk [Value.string x1]) (w1) (fun e25 w26 =>
        ∃ n27 : Int, (e25 = Ending.returned (Value.int IntKind.u32 n27) ∧
         (I2 w26 ∧
          ((∀ w28 : World,
           (w28 = World.alloc w26 (Obj.cells (Array.mk [Value.int IntKind.u8 120, Value.int IntKind.u8 1]) 5) →
             (I2 w28 ∧
              ((∃ w29 : World, ∃ s30 : ByteArray, (Sem.run Try.prog (convert 40 9 (Value.slice (some (Addr.mk (Array.size (World.heap w26)) 0 none)) 2 2)) w28 = Result.ok (Value.string s30) w29 ∧
                (I2 w29 ∧
                 (ByteArray.size s30 + ByteArray.size x0 ≤ 9223372036854775807 ∧
                  Calls Try.prog (39 : Nat) (Array.mk [Value.int IntKind.u64 (IntKind.wrap IntKind.u64 n27), Value.int IntKind.i64 4]) (w29) (fun e31 w32 =>
                    ∃ s33 : ByteArray, (e31 = Ending.returned (Value.string s33) ∧
                     (I2 w32 ∧
                      (ByteArray.size (s30 ++ x0) + ByteArray.size s33 ≤ 9223372036854775807 ∧
                       R (Value.string (s30 ++ x0 ++ s33)) w32)))))))) ∧
               Calls Try.prog (39 : Nat) (Array.mk [Value.int IntKind.u64 (IntKind.wrap IntKind.u64 n27), Value.int IntKind.i64 4]) (w28) (fun e34 w35 =>
                 ∃ s36 : ByteArray, (e34 = Ending.returned (Value.string s36) ∧
                  (I2 w35 ∧
                   ∃ w37 : World, ∃ s38 : ByteArray, (Sem.run Try.prog (convert 40 9 (Value.slice (some (Addr.mk (Array.size (World.heap w26)) 0 none)) 2 2)) w35 = Result.ok (Value.string s38) w37 ∧
                    (I2 w37 ∧
                     (ByteArray.size s38 + ByteArray.size x0 ≤ 9223372036854775807 ∧
                      (ByteArray.size (s38 ++ x0) + ByteArray.size s36 ≤ 9223372036854775807 ∧
                       R (Value.string (s38 ++ x0 ++ s36)) w37))))))))))) ∧
           Calls Try.prog (39 : Nat) (Array.mk [Value.int IntKind.u64 (IntKind.wrap IntKind.u64 n27), Value.int IntKind.i64 4]) (w26) (fun e39 w40 =>
             ∃ s41 : ByteArray, (e39 = Ending.returned (Value.string s41) ∧
              (I2 w40 ∧
               ∀ w42 : World,
               (w42 = World.alloc w40 (Obj.cells (Array.mk [Value.int IntKind.u8 120, Value.int IntKind.u8 1]) 5) →
                 (I2 w42 ∧
                  ∃ w43 : World, ∃ s44 : ByteArray, (Sem.run Try.prog (convert 40 9 (Value.slice (some (Addr.mk (Array.size (World.heap w40)) 0 none)) 2 2)) w42 = Result.ok (Value.string s44) w43 ∧
                   (I2 w43 ∧
                    (ByteArray.size s44 + ByteArray.size x0 ≤ 9223372036854775807 ∧
                     (ByteArray.size (s44 ++ x0) + ByteArray.size s41 ≤ 9223372036854775807 ∧
                      R (Value.string (s44 ++ x0 ++ s41)) w43))))))))))))))))
theorem vc_cartularyref06_Frame_ok {x0 : ByteArray} {x1 : ByteArray} {w : World} {R : Value → World → Prop} {R' : Ending → World → Prop} (h : vc_cartularyref06_Frame x0 x1 w R) (hR : ∀ v w', R v w' → R' (.returned v) w') :
    Calls Try.prog 25 #[.string x0, .string x1] w R' :=
  calls_of_body (vs := [(.string x0, false), (.string x1, false)]) (ty := ty) (ann := ⟨[], [], [(1, .tree (.rd 2 (.rd 4 (.ef 0 (.ef 1 (.rd 3 (.ef 5 (.rd 6 (.ef 7 (.rd 8 (.rd 9 .done)) .done)) .done)) (.ef 5 (.rd 6 (.ef 1 (.rd 3 (.ef 7 (.rd 8 (.rd 9 .done)) .done)) (.ef 7 (.ef 1 (.rd 3 (.rd 8 (.rd 9 .done))) .done) .done))) .done)) (.ef 5 (.rd 6 (.ef 0 (.ef 1 (.rd 3 (.ef 7 (.rd 8 (.rd 9 .done)) .done)) (.ef 7 (.ef 1 (.rd 3 (.rd 8 (.rd 9 .done))) .done) .done)) (.ef 7 (.ef 0 (.ef 1 (.rd 3 (.rd 8 (.rd 9 .done))) .done) .done) .done))) .done)))))], []⟩) (c := Try.f25.body.getD .skip) (by kernel_rfl) Try.func25 (by kernel_rfl) (by kernel_rfl) (Eq.mp (by kernel_rfl) h) hR
end Go.Proofs.Ytofejgaanpaieaa

/- Formulas of 2 Go functions of this seat (written by a program of the author's, vcgen.py), and that each is enough for the call. No condition. -/
import Derived.Test.YtofejgaanpaieaaTy
import Derived.Test.YtofejgaanpaieaaProg
set_option linter.unusedVariables false
namespace Go.Proofs.Ytofejgaanpaieaa
open Go Vc Go.Proofs
set_option maxRecDepth 100000
/-- cartularyref06.Head -/
def vc_cartularyref06_Head (x0 : Int) (x1 : Int) (w : World) (R : Value → World → Prop) : Prop :=
  ((16 : Int) ≠ (0 : Int) ∧
   ((((Int.tmod x0 16 == 8) = true →
      ((16 : Int) ≠ (0 : Int) ∧
       (((decide (IntKind.wrap IntKind.i64 (Int.tdiv x0 16) ≤ 7) = true →
          ((31 : Int) ≠ (0 : Int) ∧
           ((((Int.tmod (IntKind.wrap IntKind.i64 (IntKind.wrap IntKind.i64 (256 * x0) + x1)) 31 == 0) = true →
              ((32 : Int) ≠ (0 : Int) ∧
               ((2 : Int) ≠ (0 : Int) ∧
                R (Value.bool (Int.tmod (IntKind.wrap IntKind.i64 (Int.tdiv x1 32)) 2 == 0)) w)))) ∧
            ((Int.tmod (IntKind.wrap IntKind.i64 (IntKind.wrap IntKind.i64 (256 * x0) + x1)) 31 == 0) = false →
              R (Value.bool false) w))))) ∧
        (decide (IntKind.wrap IntKind.i64 (Int.tdiv x0 16) ≤ 7) = false →
          R (Value.bool false) w))))) ∧
    ((Int.tmod x0 16 == 8) = false →
      R (Value.bool false) w)))
theorem vc_cartularyref06_Head_ok {x0 : Int} {x1 : Int} {w : World} {R : Value → World → Prop} {R' : Ending → World → Prop} (h : vc_cartularyref06_Head x0 x1 w R) (hR : ∀ v w', R v w' → R' (.returned v) w') :
    Calls Try.prog 19 #[.int .i64 x0, .int .i64 x1] w R' :=
  calls_of_body (vs := [(.int .i64 x0, false), (.int .i64 x1, false)]) (ty := ty) (ann := ⟨[], [], [], []⟩) (c := Try.f19.body.getD .skip) (by kernel_rfl) Try.func19 (by kernel_rfl) (by kernel_rfl) (Eq.mp (by kernel_rfl) h) hR
/-- cartularyref06.Read -/
def vc_cartularyref06_Read (x0 : ByteArray) (x1 : Int) (x2 : Int) (w : World) (R : Value → World → Prop) : Prop :=
  (((decide (x1 < 0) = true →
     R (Value.tuple (Array.mk [Value.string (ByteArray.mk (Array.mk [])), Value.int IntKind.i64 0, Value.int IntKind.i64 1])) w)) ∧
   (decide (x1 < 0) = false →
     (((decide (x1 > (↑(ByteArray.size x0) : Int)) = true →
        R (Value.tuple (Array.mk [Value.string (ByteArray.mk (Array.mk [])), Value.int IntKind.i64 0, Value.int IntKind.i64 1])) w)) ∧
      (decide (x1 > (↑(ByteArray.size x0) : Int)) = false →
        (((decide (x2 < 0) = true →
           R (Value.tuple (Array.mk [Value.string (ByteArray.mk (Array.mk [])), Value.int IntKind.i64 0, Value.int IntKind.i64 1])) w)) ∧
         (decide (x2 < 0) = false →
           (((decide (x2 > 65536) = true →
              R (Value.tuple (Array.mk [Value.string (ByteArray.mk (Array.mk [])), Value.int IntKind.i64 0, Value.int IntKind.i64 1])) w)) ∧
            (decide (x2 > 65536) = false →
              (((decide (IntKind.wrap IntKind.i64 ((↑(ByteArray.size x0) : Int) - x1) < 2) = true →
                 R (Value.tuple (Array.mk [Value.string (ByteArray.mk (Array.mk [])), Value.int IntKind.i64 0, Value.int IntKind.i64 6])) w)) ∧
               (decide (IntKind.wrap IntKind.i64 ((↑(ByteArray.size x0) : Int) - x1) < 2) = false →
                 ∀ w1 : World,
                 (Drew w w1 →
                   ∃ I2 : World → Prop, (I2 w1 ∧
                    ((0 ≤ x1 ∧
                      x1 < (↑(ByteArray.size x0) : Int)) ∧
                     ((0 ≤ IntKind.wrap IntKind.i64 (x1 + 1) ∧
                       IntKind.wrap IntKind.i64 (x1 + 1) < (↑(ByteArray.size x0) : Int)) ∧
                      Calls Try.prog (19 : Nat) (Array.mk [Value.int IntKind.i64 (IntKind.wrap IntKind.i64 (byteAt x0 x1)), Value.int IntKind.i64 (IntKind.wrap IntKind.i64 (byteAt x0 (IntKind.wrap IntKind.i64 (x1 + 1))))]) (w1) (fun e3 w4 =>
                        ∃ b5 : Bool, (e3 = Ending.returned (Value.bool b5) ∧
                         (I2 w4 ∧
                          ((((!b5) = true →
                             R (Value.tuple (Array.mk [Value.string (ByteArray.mk (Array.mk [])), Value.int IntKind.i64 0, Value.int IntKind.i64 3])) w4)) ∧
                           ((!b5) = false →
                             Calls Try.prog (13 : Nat) (Array.mk [Value.string x0, Value.int IntKind.i64 (IntKind.wrap IntKind.i64 (x1 + 2)), Value.int IntKind.i64 x2]) (w4) (fun e6 w7 =>
                               ∃ s8 : ByteArray, ∃ n9 : Int, ∃ n10 : Int, (e6 = Ending.returned (Value.tuple (Array.mk [Value.string s8, Value.int IntKind.i64 n9, Value.int IntKind.i64 n10])) ∧
                                ((((n10 != 0) = true →
                                   R (Value.tuple (Array.mk [Value.string (ByteArray.mk (Array.mk [])), Value.int IntKind.i64 0, Value.int IntKind.i64 n10])) w7)) ∧
                                 ((n10 != 0) = false →
                                   ((0 ≤ IntKind.wrap IntKind.i64 (IntKind.wrap IntKind.i64 (x1 + 2) + n9) ∧
                                     IntKind.wrap IntKind.i64 (IntKind.wrap IntKind.i64 (x1 + 2) + n9) ≤ (↑(ByteArray.size x0) : Int)) ∧
                                    (((decide ((↑(ByteArray.size (ByteArray.extract x0 (Int.toNat (IntKind.wrap IntKind.i64 (IntKind.wrap IntKind.i64 (x1 + 2) + n9))) (ByteArray.size x0))) : Int) < 4) = true →
                                       R (Value.tuple (Array.mk [Value.string (ByteArray.mk (Array.mk [])), Value.int IntKind.i64 0, Value.int IntKind.i64 6])) w7)) ∧
                                     (decide ((↑(ByteArray.size (ByteArray.extract x0 (Int.toNat (IntKind.wrap IntKind.i64 (IntKind.wrap IntKind.i64 (x1 + 2) + n9))) (ByteArray.size x0))) : Int) < 4) = false →
                                       ∀ w11 : World,
                                       (Drew w7 w11 →
                                         ∃ I12 : World → Prop, (I12 w11 ∧
                                          (((0 : Int) ≤ (4 : Int) ∧
                                            4 ≤ (↑(ByteArray.size (ByteArray.extract x0 (Int.toNat (IntKind.wrap IntKind.i64 (IntKind.wrap IntKind.i64 (x1 + 2) + n9))) (ByteArray.size x0))) : Int)) ∧
                                           Calls Try.prog (40 : Nat) (Array.mk [Value.string s8]) (w11) (fun e13 w14 =>
                                             ∃ n15 : Int, (e13 = Ending.returned (Value.int IntKind.u32 n15) ∧
                                              (I12 w14 ∧
                                               Calls Try.prog (39 : Nat) (Array.mk [Value.int IntKind.u64 (IntKind.wrap IntKind.u64 n15), Value.int IntKind.i64 4]) (w14) (fun e16 w17 =>
                                                 ∃ s18 : ByteArray, (e16 = Ending.returned (Value.string s18) ∧
                                                  (I12 w17 ∧
                                                   ((((!ByteArray.toList (ByteArray.extract (ByteArray.extract x0 (Int.toNat (IntKind.wrap IntKind.i64 (IntKind.wrap IntKind.i64 (x1 + 2) + n9))) (ByteArray.size x0)) 0 (Int.toNat 4)) == ByteArray.toList s18) = true →
                                                      R (Value.tuple (Array.mk [Value.string (ByteArray.mk (Array.mk [])), Value.int IntKind.i64 0, Value.int IntKind.i64 5])) w17)) ∧
                                                    ((!ByteArray.toList (ByteArray.extract (ByteArray.extract x0 (Int.toNat (IntKind.wrap IntKind.i64 (IntKind.wrap IntKind.i64 (x1 + 2) + n9))) (ByteArray.size x0)) 0 (Int.toNat 4)) == ByteArray.toList s18) = false →
                                                      R (Value.tuple (Array.mk [Value.string s8, Value.int IntKind.i64 (IntKind.wrap IntKind.i64 (n9 + 6)), Value.int IntKind.i64 0])) w17)))))))))))))))))))))))))))))))))))))
theorem vc_cartularyref06_Read_ok {x0 : ByteArray} {x1 : Int} {x2 : Int} {w : World} {R : Value → World → Prop} {R' : Ending → World → Prop} (h : vc_cartularyref06_Read x0 x1 x2 w R) (hR : ∀ v w', R v w' → R' (.returned v) w') :
    Calls Try.prog 16 #[.string x0, .int .i64 x1, .int .i64 x2] w R' :=
  calls_of_body (vs := [(.string x0, false), (.int .i64 x1, false), (.int .i64 x2, false)]) (ty := ty) (ann := ⟨[], [], [(5, .held [(0, true), (1, true), (2, true), (3, true), (4, true), (5, true), (6, true), (7, true), (8, true), (9, false), (10, true)]), (13, .held [(0, true), (1, true), (2, true), (3, false), (4, true), (5, false), (6, true)])], []⟩) (c := Try.f16.body.getD .skip) (by kernel_rfl) Try.func16 (by kernel_rfl) (by kernel_rfl) (Eq.mp (by kernel_rfl) h) hR
end Go.Proofs.Ytofejgaanpaieaa

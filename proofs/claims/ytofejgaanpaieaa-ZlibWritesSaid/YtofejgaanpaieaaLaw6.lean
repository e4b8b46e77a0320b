/- Formulas of 3 Go functions of this seat (written by a program of the author's, vcgen.py), and that each is enough for the call. No condition. -/
import Derived.Test.YtofejgaanpaieaaTy
import Derived.Test.YtofejgaanpaieaaProg
set_option linter.unusedVariables false
namespace Go.Proofs.Ytofejgaanpaieaa
open Go Vc Go.Proofs
set_option maxRecDepth 100000
/-- cartularylaw06.ZlibReads -/
def vc_cartularylaw06_ZlibReads (x0 : ByteArray) (x1 : Int) (x2 : Int) (x3 : Int) (x4 : Int) (w : World) (R : Value → World → Prop) : Prop :=
  Calls Try.prog (11 : Nat) (Array.mk [Value.string x0, Value.int IntKind.i64 400]) (w) (fun e1 w2 =>
    ∃ s3 : ByteArray, (e1 = Ending.returned (Value.string s3) ∧
     Calls Try.prog (15 : Nat) (Array.mk [Value.string s3, Value.int IntKind.i64 x1, Value.int IntKind.i64 x2]) (w2) (fun e4 w5 =>
       ∃ s6 : ByteArray, ∃ n7 : Int, ∃ n8 : Int, (e4 = Ending.returned (Value.tuple (Array.mk [Value.string s6, Value.int IntKind.i64 n7, Value.int IntKind.i64 n8])) ∧
        Calls Try.prog (16 : Nat) (Array.mk [Value.string s3, Value.int IntKind.i64 x1, Value.int IntKind.i64 x2]) (w5) (fun e9 w10 =>
          ∃ s11 : ByteArray, ∃ n12 : Int, ∃ n13 : Int, (e9 = Ending.returned (Value.tuple (Array.mk [Value.string s11, Value.int IntKind.i64 n12, Value.int IntKind.i64 n13])) ∧
           Calls Try.prog (17 : Nat) (Array.mk []) (w10) (fun e14 w15 =>
             ∃ b16 : Bool, (e14 = Ending.returned (Value.bool b16) ∧
              (((b16 = true →
                 ((((ByteArray.toList s6 == ByteArray.toList s11) = true →
                    ((((n7 == n12) = true →
                       ((((n8 == n13) = true →
                          Calls Try.prog (18 : Nat) (Array.mk [Value.int IntKind.u8 x3, Value.int IntKind.u8 x4]) (w15) (fun e17 w18 =>
                            ∃ b19 : Bool, (e17 = Ending.returned (Value.bool b19) ∧
                             Calls Try.prog (19 : Nat) (Array.mk [Value.int IntKind.i64 (IntKind.wrap IntKind.i64 x3), Value.int IntKind.i64 (IntKind.wrap IntKind.i64 x4)]) (w18) (fun e20 w21 =>
                               ∃ b22 : Bool, (e20 = Ending.returned (Value.bool b22) ∧
                                R (Value.bool (b19 == b22)) w21)))))) ∧
                        ((n8 == n13) = false →
                          R (Value.bool false) w15)))) ∧
                     ((n7 == n12) = false →
                       R (Value.bool false) w15)))) ∧
                  ((ByteArray.toList s6 == ByteArray.toList s11) = false →
                    R (Value.bool false) w15)))) ∧
               (b16 = false →
                 R (Value.bool false) w15))))))))))
theorem vc_cartularylaw06_ZlibReads_ok {x0 : ByteArray} {x1 : Int} {x2 : Int} {x3 : Int} {x4 : Int} {w : World} {R : Value → World → Prop} {R' : Ending → World → Prop} (h : vc_cartularylaw06_ZlibReads x0 x1 x2 x3 x4 w R) (hR : ∀ v w', R v w' → R' (.returned v) w') :
    Calls Try.prog 4 #[.string x0, .int .i64 x1, .int .i64 x2, .int .u8 x3, .int .u8 x4] w R' :=
  calls_of_body (vs := [(.string x0, false), (.int .i64 x1, false), (.int .i64 x2, false), (.int .u8 x3, false), (.int .u8 x4, false)]) (ty := ty) (ann := ⟨[], [], [], []⟩) (c := Try.f4.body.getD .skip) (by kernel_rfl) Try.func4 (by kernel_rfl) (by kernel_rfl) (Eq.mp (by kernel_rfl) h) hR
/-- cartularylaw06.ZlibAround -/
def vc_cartularylaw06_ZlibAround (x0 : ByteArray) (x1 : Int) (w : World) (R : Value → World → Prop) : Prop :=
  Calls Try.prog (11 : Nat) (Array.mk [Value.string x0, Value.int IntKind.i64 400]) (w) (fun e1 w2 =>
    ∃ s3 : ByteArray, (e1 = Ending.returned (Value.string s3) ∧
     Calls Try.prog (15 : Nat) (Array.mk [Value.string s3, Value.int IntKind.i64 0, Value.int IntKind.i64 x1]) (w2) (fun e4 w5 =>
       ∃ s6 : ByteArray, ∃ n7 : Int, ∃ n8 : Int, (e4 = Ending.returned (Value.tuple (Array.mk [Value.string s6, Value.int IntKind.i64 n7, Value.int IntKind.i64 n8])) ∧
        ((((n8 != 0) = true →
           Calls Try.prog (17 : Nat) (Array.mk []) (w5) (fun e9 w10 =>
             ∃ b11 : Bool, (e9 = Ending.returned (Value.bool b11) ∧
              (((b11 = true →
                 ((((ByteArray.toList s6 == ByteArray.toList (ByteArray.mk (Array.mk []))) = true →
                    R (Value.bool (n7 == 0)) w10)) ∧
                  ((ByteArray.toList s6 == ByteArray.toList (ByteArray.mk (Array.mk []))) = false →
                    R (Value.bool false) w10)))) ∧
               (b11 = false →
                 R (Value.bool false) w10)))))) ∧
         ((n8 != 0) = false →
           Calls Try.prog (12 : Nat) (Array.mk [Value.string s3, Value.int IntKind.i64 2, Value.int IntKind.i64 x1]) (w5) (fun e12 w13 =>
             ∃ s14 : ByteArray, ∃ n15 : Int, ∃ n16 : Int, (e12 = Ending.returned (Value.tuple (Array.mk [Value.string s14, Value.int IntKind.i64 n15, Value.int IntKind.i64 n16])) ∧
              ∀ w17 : World,
              (Drew w13 w17 →
                ∃ I18 : World → Prop, (I18 w17 ∧
                 Calls Try.prog (17 : Nat) (Array.mk []) (w17) (fun e19 w20 =>
                   ∃ b21 : Bool, (e19 = Ending.returned (Value.bool b21) ∧
                    (I18 w20 ∧
                     (((b21 = true →
                        (((0 : Int) ≤ (0 : Int) ∧
                          0 < (↑(ByteArray.size s3) : Int)) ∧
                         (((0 : Int) ≤ (1 : Int) ∧
                           1 < (↑(ByteArray.size s3) : Int)) ∧
                          Calls Try.prog (18 : Nat) (Array.mk [Value.int IntKind.u8 (byteAt s3 0), Value.int IntKind.u8 (byteAt s3 1)]) (w20) (fun e22 w23 =>
                            ∃ b24 : Bool, (e22 = Ending.returned (Value.bool b24) ∧
                             (I18 w23 ∧
                              (((b24 = true →
                                 ((((n16 == 0) = true →
                                    ((((ByteArray.toList s14 == ByteArray.toList s6) = true →
                                       ((((n7 == IntKind.wrap IntKind.i64 (n15 + 6)) = true →
                                          (((decide (n7 ≤ (↑(ByteArray.size s3) : Int)) = true →
                                             R (Value.bool (decide ((↑(ByteArray.size s6) : Int) ≤ x1))) w23)) ∧
                                           (decide (n7 ≤ (↑(ByteArray.size s3) : Int)) = false →
                                             R (Value.bool false) w23)))) ∧
                                        ((n7 == IntKind.wrap IntKind.i64 (n15 + 6)) = false →
                                          R (Value.bool false) w23)))) ∧
                                     ((ByteArray.toList s14 == ByteArray.toList s6) = false →
                                       R (Value.bool false) w23)))) ∧
                                  ((n16 == 0) = false →
                                    R (Value.bool false) w23)))) ∧
                               (b24 = false →
                                 R (Value.bool false) w23))))))))) ∧
                      (b21 = false →
                        (I18 w20 ∧
                         R (Value.bool false) w20))))))))))))))))
theorem vc_cartularylaw06_ZlibAround_ok {x0 : ByteArray} {x1 : Int} {w : World} {R : Value → World → Prop} {R' : Ending → World → Prop} (h : vc_cartularylaw06_ZlibAround x0 x1 w R) (hR : ∀ v w', R v w' → R' (.returned v) w') :
    Calls Try.prog 5 #[.string x0, .int .i64 x1] w R' :=
  calls_of_body (vs := [(.string x0, false), (.int .i64 x1, false)]) (ty := ty) (ann := ⟨[], [], [(6, .held [(0, false), (1, true), (2, true), (3, true), (4, true), (5, true), (6, false), (7, true), (8, true), (9, true), (10, true), (11, true), (12, true), (13, true), (14, true), (15, true), (16, true), (17, true), (18, true), (19, true), (20, true), (21, true), (22, true), (23, true), (24, true), (25, true), (26, true), (27, true), (28, true), (29, true), (30, true), (31, true), (32, true), (33, true), (34, true), (35, true)])], []⟩) (c := Try.f5.body.getD .skip) (by kernel_rfl) Try.func5 (by kernel_rfl) (by kernel_rfl) (Eq.mp (by kernel_rfl) h) hR
/-- cartularylaw06.ZlibHeads -/
def vc_cartularylaw06_ZlibHeads (x0 : Int) (w : World) (R : Value → World → Prop) : Prop :=
  ∃ I1 : Int → Int → World → Prop, ∃ I2 : Int → Int → World → Nat, (I1 0 0 w ∧
   ∀ n3 : Int,
   ∀ n4 : Int,
   ∀ w5 : World,
   (I1 n3 n4 w5 →
     (((decide (n4 < 256) = true →
        Calls Try.prog (18 : Nat) (Array.mk [Value.int IntKind.u8 x0, Value.int IntKind.u8 (IntKind.wrap IntKind.u8 n4)]) (w5) (fun e6 w7 =>
          ∃ b8 : Bool, (e6 = Ending.returned (Value.bool b8) ∧
           (((b8 = true →
              ((((IntKind.wrap IntKind.i64 (↑(BitVec.toNat (BitVec.ofInt 64 n4 &&& BitVec.ofInt 64 32)) : Int) != 0) = true →
                 R (Value.bool false) w7)) ∧
               ((IntKind.wrap IntKind.i64 (↑(BitVec.toNat (BitVec.ofInt 64 n4 &&& BitVec.ofInt 64 32)) : Int) != 0) = false →
                 ((((IntKind.wrap IntKind.u8 (↑(BitVec.toNat (BitVec.ofInt 8 x0 &&& BitVec.ofInt 8 15)) : Int) != 8) = true →
                    R (Value.bool false) w7)) ∧
                  ((IntKind.wrap IntKind.u8 (↑(BitVec.toNat (BitVec.ofInt 8 x0 &&& BitVec.ofInt 8 15)) : Int) != 8) = false →
                    ((0 : Int) ≤ (4 : Int) ∧
                     (((decide (Int.fdiv x0 (2 ^ min (Int.toNat 4) 8) > 7) = true →
                        R (Value.bool false) w7)) ∧
                      (decide (Int.fdiv x0 (2 ^ min (Int.toNat 4) 8) > 7) = false →
                        (I1 (IntKind.wrap IntKind.i64 (n3 + 1)) (IntKind.wrap IntKind.i64 (n4 + 1)) w7 ∧
                         I2 (IntKind.wrap IntKind.i64 (n3 + 1)) (IntKind.wrap IntKind.i64 (n4 + 1)) w7 < I2 n3 n4 w5)))))))))) ∧
            (b8 = false →
              (I1 n3 (IntKind.wrap IntKind.i64 (n4 + 1)) w7 ∧
               I2 n3 (IntKind.wrap IntKind.i64 (n4 + 1)) w7 < I2 n3 n4 w5))))))) ∧
      (decide (n4 < 256) = false →
        Calls Try.prog (17 : Nat) (Array.mk []) (w5) (fun e9 w10 =>
          ∃ b11 : Bool, (e9 = Ending.returned (Value.bool b11) ∧
           (((b11 = true →
              ((((IntKind.wrap IntKind.u8 (↑(BitVec.toNat (BitVec.ofInt 8 x0 &&& BitVec.ofInt 8 15)) : Int) == 8) = true →
                 ((0 : Int) ≤ (4 : Int) ∧
                  ((((decide (Int.fdiv x0 (2 ^ min (Int.toNat 4) 8) ≤ 7) == decide (n3 > 0)) = true →
                     R (Value.bool (decide (n3 ≤ 5))) w10)) ∧
                   ((decide (Int.fdiv x0 (2 ^ min (Int.toNat 4) 8) ≤ 7) == decide (n3 > 0)) = false →
                     R (Value.bool false) w10))))) ∧
               ((IntKind.wrap IntKind.u8 (↑(BitVec.toNat (BitVec.ofInt 8 x0 &&& BitVec.ofInt 8 15)) : Int) == 8) = false →
                 ((((false == decide (n3 > 0)) = true →
                    R (Value.bool (decide (n3 ≤ 5))) w10)) ∧
                  ((false == decide (n3 > 0)) = false →
                    R (Value.bool false) w10)))))) ∧
            (b11 = false →
              R (Value.bool false) w10))))))))
theorem vc_cartularylaw06_ZlibHeads_ok {x0 : Int} {w : World} {R : Value → World → Prop} {R' : Ending → World → Prop} (h : vc_cartularylaw06_ZlibHeads x0 w R) (hR : ∀ v w', R v w' → R' (.returned v) w') :
    Calls Try.prog 6 #[.int .u8 x0] w R' :=
  calls_of_body (vs := [(.int .u8 x0, false)]) (ty := ty) (ann := ⟨[], [(3, [(3, .int .i64), (4, .int .i64)])], [], []⟩) (c := Try.f6.body.getD .skip) (by kernel_rfl) Try.func6 (by kernel_rfl) (by kernel_rfl) (Eq.mp (by kernel_rfl) h) hR
end Go.Proofs.Ytofejgaanpaieaa

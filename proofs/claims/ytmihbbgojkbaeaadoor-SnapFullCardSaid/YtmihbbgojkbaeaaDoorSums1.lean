/- Formulas of 10 Go functions of this seat (written by a program of the author's, vcgen.py), and that each is enough for the call. No condition. -/
import Derived.Test.YtmihbbgojkbaeaaDoorTy
import Derived.Test.YtmihbbgojkbaeaaDoorProg
set_option linter.unusedVariables false
namespace Go.Proofs.YtmihbbgojkbaeaaDoor
open Go Vc Go.Proofs
set_option maxRecDepth 100000
/-- sums.Hex -/
def vc_sums_Hex (x0 : ByteArray) (w : World) (R : Value → World → Prop) : Prop :=
  ∃ I1 : Sl → Int → World → Prop, ∃ I2 : Sl → Int → World → Nat, (I1 (Sl.mk none 0 0) 0 w ∧
   ∀ l3 : Sl,
   ∀ n4 : Int,
   ∀ w5 : World,
   (I1 l3 n4 w5 →
     (((decide (n4 < (↑(ByteArray.size x0) : Int)) = true →
        ∀ w6 : World,
        (Drew w5 w6 →
          ∃ I7 : World → Prop, (I7 w6 ∧
           ((0 ≤ n4 ∧
             n4 < (↑(ByteArray.size x0) : Int)) ∧
            ((0 : Int) ≤ (4 : Int) ∧
             ((0 ≤ Int.fdiv (byteAt x0 n4) (2 ^ min (Int.toNat 4) 8) ∧
               Int.fdiv (byteAt x0 n4) (2 ^ min (Int.toNat 4) 8) < (↑(ByteArray.size (ByteArray.mk (Array.mk [48, 49, 50, 51, 52, 53, 54, 55, 56, 57, 97, 98, 99, 100, 101, 102]))) : Int)) ∧
              ((0 ≤ n4 ∧
                n4 < (↑(ByteArray.size x0) : Int)) ∧
               ((0 ≤ IntKind.wrap IntKind.u8 (↑(BitVec.toNat (BitVec.ofInt 8 (byteAt x0 n4) &&& BitVec.ofInt 8 15)) : Int) ∧
                 IntKind.wrap IntKind.u8 (↑(BitVec.toNat (BitVec.ofInt 8 (byteAt x0 n4) &&& BitVec.ofInt 8 15)) : Int) < (↑(ByteArray.size (ByteArray.mk (Array.mk [48, 49, 50, 51, 52, 53, 54, 55, 56, 57, 97, 98, 99, 100, 101, 102]))) : Int)) ∧
                ∀ w8 : World,
                (w8 = World.alloc w6 (Obj.cells (Array.mk [Value.int IntKind.u8 (byteAt (ByteArray.mk (Array.mk [48, 49, 50, 51, 52, 53, 54, 55, 56, 57, 97, 98, 99, 100, 101, 102])) (Int.fdiv (byteAt x0 n4) (2 ^ min (Int.toNat 4) 8))), Value.int IntKind.u8 (byteAt (ByteArray.mk (Array.mk [48, 49, 50, 51, 52, 53, 54, 55, 56, 57, 97, 98, 99, 100, 101, 102])) (IntKind.wrap IntKind.u8 (↑(BitVec.toNat (BitVec.ofInt 8 (byteAt x0 n4) &&& BitVec.ofInt 8 15)) : Int)))]) 5) →
                  (I7 w8 ∧
                   ∃ w9 : World, ∃ l10 : Sl, (Sem.run Tryd.prog (Builtin.append_ (Array.mk [41, 41]) 41 (Array.mk [Value.slice l3.1 l3.2 l3.3, Value.slice (some (Addr.mk (Array.size (World.heap w6)) 0 none)) 2 2])) w8 = Result.ok (Value.slice l10.1 l10.2 l10.3) w9 ∧
                    (I7 w9 ∧
                     (I1 (Sl.mk l10.1 l10.2 l10.3) (IntKind.wrap IntKind.i64 (n4 + 1)) w9 ∧
                      I2 (Sl.mk l10.1 l10.2 l10.3) (IntKind.wrap IntKind.i64 (n4 + 1)) w9 < I2 l3 n4 w5)))))))))))))) ∧
      (decide (n4 < (↑(ByteArray.size x0) : Int)) = false →
        ∃ w11 : World, ∃ s12 : ByteArray, (Sem.run Tryd.prog (convert 41 9 (Value.slice l3.1 l3.2 l3.3)) w5 = Result.ok (Value.string s12) w11 ∧
         R (Value.string s12) w11)))))
theorem vc_sums_Hex_ok {x0 : ByteArray} {w : World} {R : Value → World → Prop} {R' : Ending → World → Prop} (h : vc_sums_Hex x0 w R) (hR : ∀ v w', R v w' → R' (.returned v) w') :
    Calls Tryd.prog 55 #[.string x0] w R' :=
  calls_of_body (vs := [(.string x0, false)]) (ty := ty) (ann := ⟨[], [(3, [(3, .slice), (7, .int .i64)])], [(5, .held [(0, true), (1, true), (2, true), (3, true), (4, true), (5, true), (6, true), (7, true), (8, true), (9, true), (10, true), (11, false), (12, false), (13, true)])], []⟩) (c := Tryd.f55.body.getD .skip) (by kernel_rfl) Tryd.func55 (by kernel_rfl) (by kernel_rfl) (Eq.mp (by kernel_rfl) h) hR
/-- sums.digit -/
def vc_sums_digit (x0 : Int) (w : World) (R : Value → World → Prop) : Prop :=
  ∃ I1 : Bool → World → Prop, ((((decide (x0 ≥ 48) = true →
      I1 (decide (x0 ≤ 57)) w)) ∧
    (decide (x0 ≥ 48) = false →
      I1 false w)) ∧
   ∀ b2 : Bool,
   ∀ w3 : World,
   (I1 b2 w3 →
     (((b2 = true →
        R (Value.int IntKind.i64 (IntKind.wrap IntKind.i64 (IntKind.wrap IntKind.u8 (x0 - 48)))) w3)) ∧
      (b2 = false →
        (((decide (x0 ≥ 97) = true →
           (((decide (x0 ≤ 102) = true →
              R (Value.int IntKind.i64 (IntKind.wrap IntKind.i64 (IntKind.wrap IntKind.i64 (IntKind.wrap IntKind.u8 (x0 - 97)) + 10))) w3)) ∧
            (decide (x0 ≤ 102) = false →
              R (Value.int IntKind.i64 (-1)) w3)))) ∧
         (decide (x0 ≥ 97) = false →
           R (Value.int IntKind.i64 (-1)) w3))))))
theorem vc_sums_digit_ok {x0 : Int} {w : World} {R : Value → World → Prop} {R' : Ending → World → Prop} (h : vc_sums_digit x0 w R) (hR : ∀ v w', R v w' → R' (.returned v) w') :
    Calls Tryd.prog 72 #[.int .u8 x0] w R' :=
  calls_of_body (vs := [(.int .u8 x0, false)]) (ty := ty) (ann := ⟨[(2, [(3, .bool)])], [], [], []⟩) (c := Tryd.f72.body.getD .skip) (by kernel_rfl) Tryd.func72 (by kernel_rfl) (by kernel_rfl) (Eq.mp (by kernel_rfl) h) hR
/-- sums.Unhex -/
def vc_sums_Unhex (x0 : ByteArray) (w : World) (R : Value → World → Prop) : Prop :=
  ∃ I1 : Sl → Int → World → Prop, ∃ I2 : Sl → Int → World → Nat, (I1 (Sl.mk none 0 0) 0 w ∧
   ∀ l3 : Sl,
   ∀ n4 : Int,
   ∀ w5 : World,
   (I1 l3 n4 w5 →
     (((decide (IntKind.wrap IntKind.i64 (n4 + 1) < (↑(ByteArray.size x0) : Int)) = true →
        ∀ w6 : World,
        (Drew w5 w6 →
          ∃ I7 : World → Prop, (I7 w6 ∧
           ((0 ≤ n4 ∧
             n4 < (↑(ByteArray.size x0) : Int)) ∧
            ((0 ≤ IntKind.wrap IntKind.i64 (n4 + 1) ∧
              IntKind.wrap IntKind.i64 (n4 + 1) < (↑(ByteArray.size x0) : Int)) ∧
             Calls Tryd.prog (72 : Nat) (Array.mk [Value.int IntKind.u8 (byteAt x0 n4)]) (w6) (fun e8 w9 =>
               ∃ n10 : Int, (e8 = Ending.returned (Value.int IntKind.i64 n10) ∧
                (I7 w9 ∧
                 Calls Tryd.prog (72 : Nat) (Array.mk [Value.int IntKind.u8 (byteAt x0 (IntKind.wrap IntKind.i64 (n4 + 1)))]) (w9) (fun e11 w12 =>
                   ∃ n13 : Int, (e11 = Ending.returned (Value.int IntKind.i64 n13) ∧
                    (I7 w12 ∧
                     (((decide (n10 < 0) = true →
                        R (Value.tuple (Array.mk [Value.string (ByteArray.mk (Array.mk [])), Value.bool false])) w12)) ∧
                      (decide (n10 < 0) = false →
                        (((decide (n13 < 0) = true →
                           R (Value.tuple (Array.mk [Value.string (ByteArray.mk (Array.mk [])), Value.bool false])) w12)) ∧
                         (decide (n13 < 0) = false →
                           ((0 : Int) ≤ (4 : Int) ∧
                            ∀ w14 : World,
                            (w14 = World.alloc w12 (Obj.cells (Array.mk [Value.int IntKind.u8 (IntKind.wrap IntKind.u8 (IntKind.wrap IntKind.i64 (↑(BitVec.toNat (BitVec.ofInt 64 (IntKind.wrap IntKind.i64 (n10 * 2 ^ min (Int.toNat 4) 64)) ||| BitVec.ofInt 64 n13)) : Int)))]) 5) →
                              ∃ w15 : World, ∃ l16 : Sl, (Sem.run Tryd.prog (Builtin.append_ (Array.mk [41, 41]) 41 (Array.mk [Value.slice l3.1 l3.2 l3.3, Value.slice (some (Addr.mk (Array.size (World.heap w12)) 0 none)) 1 1])) w14 = Result.ok (Value.slice l16.1 l16.2 l16.3) w15 ∧
                               (I1 (Sl.mk l16.1 l16.2 l16.3) (IntKind.wrap IntKind.i64 (n4 + 2)) w15 ∧
                                I2 (Sl.mk l16.1 l16.2 l16.3) (IntKind.wrap IntKind.i64 (n4 + 2)) w15 < I2 l3 n4 w5)))))))))))))))))))) ∧
      (decide (IntKind.wrap IntKind.i64 (n4 + 1) < (↑(ByteArray.size x0) : Int)) = false →
        ((2 : Int) ≠ (0 : Int) ∧
         ((((Int.tmod (↑(ByteArray.size x0) : Int) 2 != 0) = true →
            R (Value.tuple (Array.mk [Value.string (ByteArray.mk (Array.mk [])), Value.bool false])) w5)) ∧
          ((Int.tmod (↑(ByteArray.size x0) : Int) 2 != 0) = false →
            ∃ w17 : World, ∃ s18 : ByteArray, (Sem.run Tryd.prog (convert 41 9 (Value.slice l3.1 l3.2 l3.3)) w5 = Result.ok (Value.string s18) w17 ∧
             R (Value.tuple (Array.mk [Value.string s18, Value.bool true])) w17))))))))
theorem vc_sums_Unhex_ok {x0 : ByteArray} {w : World} {R : Value → World → Prop} {R' : Ending → World → Prop} (h : vc_sums_Unhex x0 w R) (hR : ∀ v w', R v w' → R' (.returned v) w') :
    Calls Tryd.prog 48 #[.string x0] w R' :=
  calls_of_body (vs := [(.string x0, false)]) (ty := ty) (ann := ⟨[], [(3, [(4, .slice), (5, .int .i64)])], [(5, .held [(0, true), (1, true), (2, true), (4, true), (5, true), (6, true), (7, true), (3, false), (8, false), (9, true), (10, true)])], []⟩) (c := Tryd.f48.body.getD .skip) (by kernel_rfl) Tryd.func48 (by kernel_rfl) (by kernel_rfl) (Eq.mp (by kernel_rfl) h) hR
/-- sums.Id -/
def vc_sums_Id (x0 : ByteArray) (w : World) (R : Value → World → Prop) : Prop :=
  Calls Tryd.prog (48 : Nat) (Array.mk [Value.string x0]) (w) (fun e1 w2 =>
    ∃ s3 : ByteArray, ∃ b4 : Bool, (e1 = Ending.returned (Value.tuple (Array.mk [Value.string s3, Value.bool b4])) ∧
     (((b4 = true →
        R (Value.bool ((↑(ByteArray.size x0) : Int) == 40)) w2)) ∧
      (b4 = false →
        R (Value.bool false) w2))))
theorem vc_sums_Id_ok {x0 : ByteArray} {w : World} {R : Value → World → Prop} {R' : Ending → World → Prop} (h : vc_sums_Id x0 w R) (hR : ∀ v w', R v w' → R' (.returned v) w') :
    Calls Tryd.prog 43 #[.string x0] w R' :=
  calls_of_body (vs := [(.string x0, false)]) (ty := ty) (ann := ⟨[], [], [], []⟩) (c := Tryd.f43.body.getD .skip) (by kernel_rfl) Tryd.func43 (by kernel_rfl) (by kernel_rfl) (Eq.mp (by kernel_rfl) h) hR
/-- cartularyref01.Hex -/
def vc_cartularyref01_Hex (x0 : ByteArray) (w : World) (R : Value → World → Prop) : Prop :=
  ∃ I1 : ByteArray → Int → World → Prop, ∃ I2 : ByteArray → Int → World → Nat, (I1 (ByteArray.mk (Array.mk [])) 0 w ∧
   ∀ s3 : ByteArray,
   ∀ n4 : Int,
   ∀ w5 : World,
   (I1 s3 n4 w5 →
     (((decide (n4 < (↑(ByteArray.size x0) : Int)) = true →
        ((0 ≤ n4 ∧
          n4 < (↑(ByteArray.size x0) : Int)) ∧
         ((16 : Int) ≠ (0 : Int) ∧
          ((16 : Int) ≠ (0 : Int) ∧
           ((0 ≤ IntKind.wrap IntKind.u8 (Int.tdiv (byteAt x0 n4) 16) ∧
             (IntKind.wrap IntKind.u8 (Int.tdiv (byteAt x0 n4) 16) ≤ IntKind.wrap IntKind.u8 (IntKind.wrap IntKind.u8 (Int.tdiv (byteAt x0 n4) 16) + 1) ∧
              IntKind.wrap IntKind.u8 (IntKind.wrap IntKind.u8 (Int.tdiv (byteAt x0 n4) 16) + 1) ≤ (↑(ByteArray.size (ByteArray.mk (Array.mk [48, 49, 50, 51, 52, 53, 54, 55, 56, 57, 97, 98, 99, 100, 101, 102]))) : Int))) ∧
            ((16 : Int) ≠ (0 : Int) ∧
             ((16 : Int) ≠ (0 : Int) ∧
              ((0 ≤ Int.tmod (byteAt x0 n4) 16 ∧
                (Int.tmod (byteAt x0 n4) 16 ≤ IntKind.wrap IntKind.u8 (Int.tmod (byteAt x0 n4) 16 + 1) ∧
                 IntKind.wrap IntKind.u8 (Int.tmod (byteAt x0 n4) 16 + 1) ≤ (↑(ByteArray.size (ByteArray.mk (Array.mk [48, 49, 50, 51, 52, 53, 54, 55, 56, 57, 97, 98, 99, 100, 101, 102]))) : Int))) ∧
               (ByteArray.size (ByteArray.extract (ByteArray.mk (Array.mk [48, 49, 50, 51, 52, 53, 54, 55, 56, 57, 97, 98, 99, 100, 101, 102])) (Int.toNat (IntKind.wrap IntKind.u8 (Int.tdiv (byteAt x0 n4) 16))) (Int.toNat (IntKind.wrap IntKind.u8 (IntKind.wrap IntKind.u8 (Int.tdiv (byteAt x0 n4) 16) + 1)))) + ByteArray.size (ByteArray.extract (ByteArray.mk (Array.mk [48, 49, 50, 51, 52, 53, 54, 55, 56, 57, 97, 98, 99, 100, 101, 102])) (Int.toNat (Int.tmod (byteAt x0 n4) 16)) (Int.toNat (IntKind.wrap IntKind.u8 (Int.tmod (byteAt x0 n4) 16 + 1)))) ≤ 9223372036854775807 ∧
                (ByteArray.size s3 + ByteArray.size (ByteArray.extract (ByteArray.mk (Array.mk [48, 49, 50, 51, 52, 53, 54, 55, 56, 57, 97, 98, 99, 100, 101, 102])) (Int.toNat (IntKind.wrap IntKind.u8 (Int.tdiv (byteAt x0 n4) 16))) (Int.toNat (IntKind.wrap IntKind.u8 (IntKind.wrap IntKind.u8 (Int.tdiv (byteAt x0 n4) 16) + 1))) ++ ByteArray.extract (ByteArray.mk (Array.mk [48, 49, 50, 51, 52, 53, 54, 55, 56, 57, 97, 98, 99, 100, 101, 102])) (Int.toNat (Int.tmod (byteAt x0 n4) 16)) (Int.toNat (IntKind.wrap IntKind.u8 (Int.tmod (byteAt x0 n4) 16 + 1)))) ≤ 9223372036854775807 ∧
                 ∀ w6 : World,
                 (Drew w5 w6 →
                   (I1 (s3 ++ (ByteArray.extract (ByteArray.mk (Array.mk [48, 49, 50, 51, 52, 53, 54, 55, 56, 57, 97, 98, 99, 100, 101, 102])) (Int.toNat (IntKind.wrap IntKind.u8 (Int.tdiv (byteAt x0 n4) 16))) (Int.toNat (IntKind.wrap IntKind.u8 (IntKind.wrap IntKind.u8 (Int.tdiv (byteAt x0 n4) 16) + 1))) ++ ByteArray.extract (ByteArray.mk (Array.mk [48, 49, 50, 51, 52, 53, 54, 55, 56, 57, 97, 98, 99, 100, 101, 102])) (Int.toNat (Int.tmod (byteAt x0 n4) 16)) (Int.toNat (IntKind.wrap IntKind.u8 (Int.tmod (byteAt x0 n4) 16 + 1))))) (IntKind.wrap IntKind.i64 (n4 + 1)) w6 ∧
                    I2 (s3 ++ (ByteArray.extract (ByteArray.mk (Array.mk [48, 49, 50, 51, 52, 53, 54, 55, 56, 57, 97, 98, 99, 100, 101, 102])) (Int.toNat (IntKind.wrap IntKind.u8 (Int.tdiv (byteAt x0 n4) 16))) (Int.toNat (IntKind.wrap IntKind.u8 (IntKind.wrap IntKind.u8 (Int.tdiv (byteAt x0 n4) 16) + 1))) ++ ByteArray.extract (ByteArray.mk (Array.mk [48, 49, 50, 51, 52, 53, 54, 55, 56, 57, 97, 98, 99, 100, 101, 102])) (Int.toNat (Int.tmod (byteAt x0 n4) 16)) (Int.toNat (IntKind.wrap IntKind.u8 (Int.tmod (byteAt x0 n4) 16 + 1))))) (IntKind.wrap IntKind.i64 (n4 + 1)) w6 < I2 s3 n4 w5))))))))))))) ∧
      (decide (n4 < (↑(ByteArray.size x0) : Int)) = false →
        R (Value.string s3) w5))))
theorem vc_cartularyref01_Hex_ok {x0 : ByteArray} {w : World} {R : Value → World → Prop} {R' : Ending → World → Prop} (h : vc_cartularyref01_Hex x0 w R) (hR : ∀ v w', R v w' → R' (.returned v) w') :
    Calls Tryd.prog 58 #[.string x0] w R' :=
  calls_of_body (vs := [(.string x0, false)]) (ty := ty) (ann := ⟨[], [(3, [(3, .str), (4, .int .i64)])], [(6, .quiet)], []⟩) (c := Tryd.f58.body.getD .skip) (by kernel_rfl) Tryd.func58 (by kernel_rfl) (by kernel_rfl) (Eq.mp (by kernel_rfl) h) hR
/-- cartularyref01.Hexed -/
def vc_cartularyref01_Hexed (x0 : ByteArray) (w : World) (R : Value → World → Prop) : Prop :=
  ∃ I1 : Int → World → Prop, ∃ I2 : Int → World → Nat, (I1 0 w ∧
   ∀ n3 : Int,
   ∀ w4 : World,
   (I1 n3 w4 →
     (((decide (n3 < (↑(ByteArray.size x0) : Int)) = true →
        ((0 ≤ n3 ∧
          n3 < (↑(ByteArray.size x0) : Int)) ∧
         (((decide (byteAt x0 n3 ≥ 48) = true →
            ((0 ≤ n3 ∧
              n3 < (↑(ByteArray.size x0) : Int)) ∧
             (((decide (byteAt x0 n3 ≤ 57) = true →
                (I1 (IntKind.wrap IntKind.i64 (n3 + 1)) w4 ∧
                 I2 (IntKind.wrap IntKind.i64 (n3 + 1)) w4 < I2 n3 w4))) ∧
              (decide (byteAt x0 n3 ≤ 57) = false →
                ((0 ≤ n3 ∧
                  n3 < (↑(ByteArray.size x0) : Int)) ∧
                 (((decide (byteAt x0 n3 ≥ 97) = true →
                    ((0 ≤ n3 ∧
                      n3 < (↑(ByteArray.size x0) : Int)) ∧
                     ((((!decide (byteAt x0 n3 ≤ 102)) = true →
                        R (Value.bool false) w4)) ∧
                      ((!decide (byteAt x0 n3 ≤ 102)) = false →
                        (I1 (IntKind.wrap IntKind.i64 (n3 + 1)) w4 ∧
                         I2 (IntKind.wrap IntKind.i64 (n3 + 1)) w4 < I2 n3 w4)))))) ∧
                  (decide (byteAt x0 n3 ≥ 97) = false →
                    R (Value.bool false) w4)))))))) ∧
          (decide (byteAt x0 n3 ≥ 48) = false →
            ((0 ≤ n3 ∧
              n3 < (↑(ByteArray.size x0) : Int)) ∧
             (((decide (byteAt x0 n3 ≥ 97) = true →
                ((0 ≤ n3 ∧
                  n3 < (↑(ByteArray.size x0) : Int)) ∧
                 ((((!decide (byteAt x0 n3 ≤ 102)) = true →
                    R (Value.bool false) w4)) ∧
                  ((!decide (byteAt x0 n3 ≤ 102)) = false →
                    (I1 (IntKind.wrap IntKind.i64 (n3 + 1)) w4 ∧
                     I2 (IntKind.wrap IntKind.i64 (n3 + 1)) w4 < I2 n3 w4)))))) ∧
              (decide (byteAt x0 n3 ≥ 97) = false →
                R (Value.bool false) w4)))))))) ∧
      (decide (n3 < (↑(ByteArray.size x0) : Int)) = false →
        ((2 : Int) ≠ (0 : Int) ∧
         R (Value.bool (Int.tmod (↑(ByteArray.size x0) : Int) 2 == 0)) w4)))))
theorem vc_cartularyref01_Hexed_ok {x0 : ByteArray} {w : World} {R : Value → World → Prop} {R' : Ending → World → Prop} (h : vc_cartularyref01_Hexed x0 w R) (hR : ∀ v w', R v w' → R' (.returned v) w') :
    Calls Tryd.prog 71 #[.string x0] w R' :=
  calls_of_body (vs := [(.string x0, false)]) (ty := ty) (ann := ⟨[], [(2, [(3, .int .i64)])], [], []⟩) (c := Tryd.f71.body.getD .skip) (by kernel_rfl) Tryd.func71 (by kernel_rfl) (by kernel_rfl) (Eq.mp (by kernel_rfl) h) hR
/-- cartularyref01.Unhex -/
def vc_cartularyref01_Unhex (x0 : ByteArray) (w : World) (R : Value → World → Prop) : Prop :=
  ∀ w1 : World,
  (w1 = World.alloc w (Obj.cells (Array.mk []) 5) →
    ∃ I2 : Sl → Int → World → Prop, ∃ I3 : Sl → Int → World → Nat, (I2 (Sl.mk (some (Addr.mk (Array.size (World.heap w)) 0 none)) 0 0) 0 w1 ∧
     ∀ l4 : Sl,
     ∀ n5 : Int,
     ∀ w6 : World,
     (I2 l4 n5 w6 →
       (((decide (IntKind.wrap IntKind.i64 (n5 + 1) < (↑(ByteArray.size x0) : Int)) = true →
          ((0 ≤ n5 ∧
            (n5 ≤ IntKind.wrap IntKind.i64 (n5 + 2) ∧
             IntKind.wrap IntKind.i64 (n5 + 2) ≤ (↑(ByteArray.size x0) : Int))) ∧
           ∃ w7 : World, ∃ l8 : Sl, (Sem.run Tryd.prog (convert 9 41 (Value.string (ByteArray.extract x0 (Int.toNat n5) (Int.toNat (IntKind.wrap IntKind.i64 (n5 + 2)))))) w6 = Result.ok (Value.slice l8.1 l8.2 l8.3) w7 ∧
            ∃ I9 : Int → Int → World → Prop, ∃ I10 : Int → Int → World → Nat, (I9 0 0 w7 ∧
             ∀ n11 : Int,
             ∀ n12 : Int,
             ∀ w13 : World,
             (I9 n11 n12 w13 →
               (((decide (n12 < (↑l8.2 : Int)) = true →
                  ((0 ≤ n12 ∧
                    n12 < (↑l8.2 : Int)) ∧
                   ∃ a14 : Addr, (l8.1 = some a14 ∧
                    ∃ n15 : Int, (World.cell? w13 (Addr.add a14 (Int.toNat n12 * 1)) = some (Value.int IntKind.u8 n15) ∧
                     (((decide (n15 > 57) = true →
                        (I9 (IntKind.wrap IntKind.i64 (IntKind.wrap IntKind.i64 (16 * n11) + IntKind.wrap IntKind.i64 (IntKind.wrap IntKind.u8 (IntKind.wrap IntKind.u8 (n15 - 39) - 48)))) (IntKind.wrap IntKind.i64 (n12 + 1)) w13 ∧
                         I10 (IntKind.wrap IntKind.i64 (IntKind.wrap IntKind.i64 (16 * n11) + IntKind.wrap IntKind.i64 (IntKind.wrap IntKind.u8 (IntKind.wrap IntKind.u8 (n15 - 39) - 48)))) (IntKind.wrap IntKind.i64 (n12 + 1)) w13 < I10 n11 n12 w13))) ∧
                      (decide (n15 > 57) = false →
                        (I9 (IntKind.wrap IntKind.i64 (IntKind.wrap IntKind.i64 (16 * n11) + IntKind.wrap IntKind.i64 (IntKind.wrap IntKind.u8 (n15 - 48)))) (IntKind.wrap IntKind.i64 (n12 + 1)) w13 ∧
                         I10 (IntKind.wrap IntKind.i64 (IntKind.wrap IntKind.i64 (16 * n11) + IntKind.wrap IntKind.i64 (IntKind.wrap IntKind.u8 (n15 - 48)))) (IntKind.wrap IntKind.i64 (n12 + 1)) w13 < I10 n11 n12 w13)))))))) ∧
                (decide (n12 < (↑l8.2 : Int)) = false →
                  ∀ w16 : World,
                  (w16 = World.alloc w13 (Obj.cells (Array.mk [Value.int IntKind.u8 (IntKind.wrap IntKind.u8 n11)]) 5) →
                    ∃ w17 : World, ∃ l18 : Sl, (Sem.run Tryd.prog (Builtin.append_ (Array.mk [41, 41]) 41 (Array.mk [Value.slice l4.1 l4.2 l4.3, Value.slice (some (Addr.mk (Array.size (World.heap w13)) 0 none)) 1 1])) w16 = Result.ok (Value.slice l18.1 l18.2 l18.3) w17 ∧
                     (I2 (Sl.mk l18.1 l18.2 l18.3) (IntKind.wrap IntKind.i64 (n5 + 2)) w17 ∧
                      I3 (Sl.mk l18.1 l18.2 l18.3) (IntKind.wrap IntKind.i64 (n5 + 2)) w17 < I3 l4 n5 w6))))))))))) ∧
        (decide (IntKind.wrap IntKind.i64 (n5 + 1) < (↑(ByteArray.size x0) : Int)) = false →
          ∃ w19 : World, ∃ s20 : ByteArray, (Sem.run Tryd.prog (convert 41 9 (Value.slice l4.1 l4.2 l4.3)) w6 = Result.ok (Value.string s20) w19 ∧
           R (Value.string s20) w19))))))
theorem vc_cartularyref01_Unhex_ok {x0 : ByteArray} {w : World} {R : Value → World → Prop} {R' : Ending → World → Prop} (h : vc_cartularyref01_Unhex x0 w R) (hR : ∀ v w', R v w' → R' (.returned v) w') :
    Calls Tryd.prog 59 #[.string x0] w R' :=
  calls_of_body (vs := [(.string x0, false)]) (ty := ty) (ann := ⟨[], [(3, [(3, .slice), (4, .int .i64)]), (7, [(5, .int .i64), (23, .int .i64)])], [], []⟩) (c := Tryd.f59.body.getD .skip) (by kernel_rfl) Tryd.func59 (by kernel_rfl) (by kernel_rfl) (Eq.mp (by kernel_rfl) h) hR
/-- cartularyref09.Id -/
def vc_cartularyref09_Id (x0 : ByteArray) (w : World) (R : Value → World → Prop) : Prop :=
  (((((↑(ByteArray.size x0) : Int) == 40) = true →
     Calls Tryd.prog (71 : Nat) (Array.mk [Value.string x0]) (w) (fun e1 w2 =>
       ∃ b3 : Bool, (e1 = Ending.returned (Value.bool b3) ∧
        R (Value.bool b3) w2)))) ∧
   (((↑(ByteArray.size x0) : Int) == 40) = false →
     R (Value.bool false) w))
theorem vc_cartularyref09_Id_ok {x0 : ByteArray} {w : World} {R : Value → World → Prop} {R' : Ending → World → Prop} (h : vc_cartularyref09_Id x0 w R) (hR : ∀ v w', R v w' → R' (.returned v) w') :
    Calls Tryd.prog 46 #[.string x0] w R' :=
  calls_of_body (vs := [(.string x0, false)]) (ty := ty) (ann := ⟨[], [], [], []⟩) (c := Tryd.f46.body.getD .skip) (by kernel_rfl) Tryd.func46 (by kernel_rfl) (by kernel_rfl) (Eq.mp (by kernel_rfl) h) hR
/-- cartularyref08.Find -/
def vc_cartularyref08_Find (x0 : ByteArray) (x1 : Int) (w : World) (R : Value → World → Prop) : Prop :=
  ∃ I1 : Int → World → Prop, ∃ I2 : Int → World → Nat, (I1 0 w ∧
   ∀ n3 : Int,
   ∀ w4 : World,
   (I1 n3 w4 →
     (((decide (n3 < (↑(ByteArray.size x0) : Int)) = true →
        ((0 ≤ n3 ∧
          n3 < (↑(ByteArray.size x0) : Int)) ∧
         ((((byteAt x0 n3 == x1) = true →
            R (Value.int IntKind.i64 n3) w4)) ∧
          ((byteAt x0 n3 == x1) = false →
            (I1 (IntKind.wrap IntKind.i64 (n3 + 1)) w4 ∧
             I2 (IntKind.wrap IntKind.i64 (n3 + 1)) w4 < I2 n3 w4)))))) ∧
      (decide (n3 < (↑(ByteArray.size x0) : Int)) = false →
        R (Value.int IntKind.i64 (-1)) w4))))
theorem vc_cartularyref08_Find_ok {x0 : ByteArray} {x1 : Int} {w : World} {R : Value → World → Prop} {R' : Ending → World → Prop} (h : vc_cartularyref08_Find x0 x1 w R) (hR : ∀ v w', R v w' → R' (.returned v) w') :
    Calls Tryd.prog 57 #[.string x0, .int .u8 x1] w R' :=
  calls_of_body (vs := [(.string x0, false), (.int .u8 x1, false)]) (ty := ty) (ann := ⟨[], [(2, [(5, .int .i64)])], [], []⟩) (c := Tryd.f57.body.getD .skip) (by kernel_rfl) Tryd.func57 (by kernel_rfl) (by kernel_rfl) (Eq.mp (by kernel_rfl) h) hR
/-- cartularylaw01.Few -/
def vc_cartularylaw01_Few (x0 : ByteArray) (x1 : Int) (w : World) (R : Value → World → Prop) : Prop :=
  (((decide ((↑(ByteArray.size x0) : Int) > x1) = true →
     ((0 ≤ x1 ∧
       x1 ≤ (↑(ByteArray.size x0) : Int)) ∧
      R (Value.string (ByteArray.extract x0 0 (Int.toNat x1))) w))) ∧
   (decide ((↑(ByteArray.size x0) : Int) > x1) = false →
     R (Value.string x0) w))
theorem vc_cartularylaw01_Few_ok {x0 : ByteArray} {x1 : Int} {w : World} {R : Value → World → Prop} {R' : Ending → World → Prop} (h : vc_cartularylaw01_Few x0 x1 w R) (hR : ∀ v w', R v w' → R' (.returned v) w') :
    Calls Tryd.prog 19 #[.string x0, .int .i64 x1] w R' :=
  calls_of_body (vs := [(.string x0, false), (.int .i64 x1, false)]) (ty := ty) (ann := ⟨[], [], [], []⟩) (c := Tryd.f19.body.getD .skip) (by kernel_rfl) Tryd.func19 (by kernel_rfl) (by kernel_rfl) (Eq.mp (by kernel_rfl) h) hR
end Go.Proofs.YtmihbbgojkbaeaaDoor

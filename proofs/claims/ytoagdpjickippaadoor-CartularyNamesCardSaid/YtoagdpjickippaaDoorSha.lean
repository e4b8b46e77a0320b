/- Formulas of 9 Go functions of this seat (written by a program of the author's, vcgen.py), and that each is enough for the call. No condition. -/
import Derived.Test.YtoagdpjickippaaDoorTy
import Derived.Test.YtoagdpjickippaaDoorProg
set_option linter.unusedVariables false
namespace Go.Proofs.YtoagdpjickippaaDoor
open Go Vc Go.Proofs
set_option maxRecDepth 100000
/-- sha.word -/
def vc_sha_word (x0 : ByteArray) (w : World) (R : Value → World → Prop) : Prop :=
  (((0 : Int) ≤ (0 : Int) ∧
    0 < (↑(ByteArray.size x0) : Int)) ∧
   ((0 : Int) ≤ (24 : Int) ∧
    (((0 : Int) ≤ (1 : Int) ∧
      1 < (↑(ByteArray.size x0) : Int)) ∧
     ((0 : Int) ≤ (16 : Int) ∧
      (((0 : Int) ≤ (2 : Int) ∧
        2 < (↑(ByteArray.size x0) : Int)) ∧
       ((0 : Int) ≤ (8 : Int) ∧
        (((0 : Int) ≤ (3 : Int) ∧
          3 < (↑(ByteArray.size x0) : Int)) ∧
         ∀ w1 : World,
         (Drew w w1 →
           R (Value.int IntKind.u32 (IntKind.wrap IntKind.u32 (↑(BitVec.toNat (BitVec.ofInt 32 (IntKind.wrap IntKind.u32 (↑(BitVec.toNat (BitVec.ofInt 32 (IntKind.wrap IntKind.u32 (↑(BitVec.toNat (BitVec.ofInt 32 (IntKind.wrap IntKind.u32 (IntKind.wrap IntKind.u32 (byteAt x0 0) * 2 ^ min (Int.toNat 24) 32)) ||| BitVec.ofInt 32 (IntKind.wrap IntKind.u32 (IntKind.wrap IntKind.u32 (byteAt x0 1) * 2 ^ min (Int.toNat 16) 32)))) : Int)) ||| BitVec.ofInt 32 (IntKind.wrap IntKind.u32 (IntKind.wrap IntKind.u32 (byteAt x0 2) * 2 ^ min (Int.toNat 8) 32)))) : Int)) ||| BitVec.ofInt 32 (IntKind.wrap IntKind.u32 (byteAt x0 3)))) : Int))) w1))))))))
theorem vc_sha_word_ok {x0 : ByteArray} {w : World} {R : Value → World → Prop} {R' : Ending → World → Prop} (h : vc_sha_word x0 w R) (hR : ∀ v w', R v w' → R' (.returned v) w') :
    Calls Tryd.prog 59 #[.string x0] w R' :=
  calls_of_body (vs := [(.string x0, false)]) (ty := ty) (ann := ⟨[], [], [(1, .quiet)], []⟩) (c := Tryd.f59.body.getD .skip) (by kernel_rfl) Tryd.func59 (by kernel_rfl) (by kernel_rfl) (Eq.mp (by kernel_rfl) h) hR
/-- math/bits.RotateLeft32 -/
def vc_bits_RotateLeft32 (x0 : Int) (x1 : Int) (w : World) (R : Value → World → Prop) : Prop :=
  (0 ≤ IntKind.wrap IntKind.u64 (↑(BitVec.toNat (BitVec.ofInt 64 (IntKind.wrap IntKind.u64 x1) &&& BitVec.ofInt 64 31)) : Int) ∧
   (0 ≤ IntKind.wrap IntKind.u64 (32 - IntKind.wrap IntKind.u64 (↑(BitVec.toNat (BitVec.ofInt 64 (IntKind.wrap IntKind.u64 x1) &&& BitVec.ofInt 64 31)) : Int)) ∧
    R (Value.int IntKind.u32 (IntKind.wrap IntKind.u32 (↑(BitVec.toNat (BitVec.ofInt 32 (IntKind.wrap IntKind.u32 (x0 * 2 ^ min (Int.toNat (IntKind.wrap IntKind.u64 (↑(BitVec.toNat (BitVec.ofInt 64 (IntKind.wrap IntKind.u64 x1) &&& BitVec.ofInt 64 31)) : Int))) 32)) ||| BitVec.ofInt 32 (Int.fdiv x0 (2 ^ min (Int.toNat (IntKind.wrap IntKind.u64 (32 - IntKind.wrap IntKind.u64 (↑(BitVec.toNat (BitVec.ofInt 64 (IntKind.wrap IntKind.u64 x1) &&& BitVec.ofInt 64 31)) : Int)))) 32)))) : Int))) w))
theorem vc_bits_RotateLeft32_ok {x0 : Int} {x1 : Int} {w : World} {R : Value → World → Prop} {R' : Ending → World → Prop} (h : vc_bits_RotateLeft32 x0 x1 w R) (hR : ∀ v w', R v w' → R' (.returned v) w') :
    Calls Tryd.prog 60 #[.int .u32 x0, .int .i64 x1] w R' :=
  calls_of_body (vs := [(.int .u32 x0, false), (.int .i64 x1, false)]) (ty := ty) (ann := ⟨[], [], [], []⟩) (c := Tryd.f60.body.getD .skip) (by kernel_rfl) Tryd.func60 (by kernel_rfl) (by kernel_rfl) (Eq.mp (by kernel_rfl) h) hR
/-- sha.start1 -/
def vc_sha_start1 (w : World) (R : Value → World → Prop) : Prop :=
  ∀ w1 : World,
  (w1 = World.alloc w (Obj.cells (Array.mk [Value.int IntKind.u32 1732584193, Value.int IntKind.u32 4023233417, Value.int IntKind.u32 2562383102, Value.int IntKind.u32 271733878, Value.int IntKind.u32 3285377520]) 94) →
    R (Value.slice (some (Addr.mk (Array.size (World.heap w)) 0 none)) 5 5) w1)
theorem vc_sha_start1_ok {w : World} {R : Value → World → Prop} {R' : Ending → World → Prop} (h : vc_sha_start1 w R) (hR : ∀ v w', R v w' → R' (.returned v) w') :
    Calls Tryd.prog 39 #[] w R' :=
  calls_of_body (vs := []) (ty := ty) (ann := ⟨[], [], [], []⟩) (c := Tryd.f39.body.getD .skip) (by kernel_rfl) Tryd.func39 (by kernel_rfl) (by kernel_rfl) (Eq.mp (by kernel_rfl) h) hR
/-- sha.block1 -/
def vc_sha_block1 (x0a : Option Addr) (x0n : Nat) (x0c : Nat) (x1 : ByteArray) (w : World) (R : Value → World → Prop) : Prop :=
  ∀ w1 : World,
  (w1 = World.alloc w (Obj.cells (Array.mk [Value.int IntKind.u32 0, Value.int IntKind.u32 0, Value.int IntKind.u32 0, Value.int IntKind.u32 0, Value.int IntKind.u32 0, Value.int IntKind.u32 0, Value.int IntKind.u32 0, Value.int IntKind.u32 0, Value.int IntKind.u32 0, Value.int IntKind.u32 0, Value.int IntKind.u32 0, Value.int IntKind.u32 0, Value.int IntKind.u32 0, Value.int IntKind.u32 0, Value.int IntKind.u32 0, Value.int IntKind.u32 0, Value.int IntKind.u32 0, Value.int IntKind.u32 0, Value.int IntKind.u32 0, Value.int IntKind.u32 0, Value.int IntKind.u32 0, Value.int IntKind.u32 0, Value.int IntKind.u32 0, Value.int IntKind.u32 0, Value.int IntKind.u32 0, Value.int IntKind.u32 0, Value.int IntKind.u32 0, Value.int IntKind.u32 0, Value.int IntKind.u32 0, Value.int IntKind.u32 0, Value.int IntKind.u32 0, Value.int IntKind.u32 0, Value.int IntKind.u32 0, Value.int IntKind.u32 0, Value.int IntKind.u32 0, Value.int IntKind.u32 0, Value.int IntKind.u32 0, Value.int IntKind.u32 0, Value.int IntKind.u32 0, Value.int IntKind.u32 0, Value.int IntKind.u32 0, Value.int IntKind.u32 0, Value.int IntKind.u32 0, Value.int IntKind.u32 0, Value.int IntKind.u32 0, Value.int IntKind.u32 0, Value.int IntKind.u32 0, Value.int IntKind.u32 0, Value.int IntKind.u32 0, Value.int IntKind.u32 0, Value.int IntKind.u32 0, Value.int IntKind.u32 0, Value.int IntKind.u32 0, Value.int IntKind.u32 0, Value.int IntKind.u32 0, Value.int IntKind.u32 0, Value.int IntKind.u32 0, Value.int IntKind.u32 0, Value.int IntKind.u32 0, Value.int IntKind.u32 0, Value.int IntKind.u32 0, Value.int IntKind.u32 0, Value.int IntKind.u32 0, Value.int IntKind.u32 0, Value.int IntKind.u32 0, Value.int IntKind.u32 0, Value.int IntKind.u32 0, Value.int IntKind.u32 0, Value.int IntKind.u32 0, Value.int IntKind.u32 0, Value.int IntKind.u32 0, Value.int IntKind.u32 0, Value.int IntKind.u32 0, Value.int IntKind.u32 0, Value.int IntKind.u32 0, Value.int IntKind.u32 0, Value.int IntKind.u32 0, Value.int IntKind.u32 0, Value.int IntKind.u32 0, Value.int IntKind.u32 0]) 101) →
    ∃ I2 : Int → World → Prop, ∃ I3 : Int → World → Nat, (I2 0 w1 ∧
     ∀ n4 : Int,
     ∀ w5 : World,
     (I2 n4 w5 →
       (((decide (n4 < 80) = true →
          (((decide (n4 < 16) = true →
             ((0 ≤ IntKind.wrap IntKind.i64 (4 * n4) ∧
               IntKind.wrap IntKind.i64 (4 * n4) ≤ (↑(ByteArray.size x1) : Int)) ∧
              Calls Tryd.prog (59 : Nat) (Array.mk [Value.string (ByteArray.extract x1 (Int.toNat (IntKind.wrap IntKind.i64 (4 * n4))) (ByteArray.size x1))]) (w5) (fun e6 w7 =>
                ∃ n8 : Int, (e6 = Ending.returned (Value.int IntKind.u32 n8) ∧
                 ((0 ≤ n4 ∧
                   n4 < (↑80 : Int)) ∧
                  (Wr w7 (Addr.add (Addr.mk (Array.size (World.heap w)) 0 none) (Int.toNat n4 * 1)) ∧
                   ∀ w9 : World,
                   (w9 = World.setCell w7 (Addr.add (Addr.mk (Array.size (World.heap w)) 0 none) (Int.toNat n4 * 1)) (Value.int IntKind.u32 n8) →
                     (I2 (IntKind.wrap IntKind.i64 (n4 + 1)) w9 ∧
                      I3 (IntKind.wrap IntKind.i64 (n4 + 1)) w9 < I3 n4 w5))))))))) ∧
           (decide (n4 < 16) = false →
             ∀ w10 : World,
             (Drew w5 w10 →
               ∃ I11 : World → Prop, (I11 w10 ∧
                ((0 ≤ IntKind.wrap IntKind.i64 (n4 - 3) ∧
                  IntKind.wrap IntKind.i64 (n4 - 3) < (↑80 : Int)) ∧
                 ∃ n12 : Int, ((∀ w13 : World,
                  (I11 w13 →
                    World.cell? w13 (Addr.add (Addr.mk (Array.size (World.heap w)) 0 none) (Int.toNat (IntKind.wrap IntKind.i64 (n4 - 3)) * 1)) = some (Value.int IntKind.u32 n12))) ∧
                  ((0 ≤ IntKind.wrap IntKind.i64 (n4 - 8) ∧
                    IntKind.wrap IntKind.i64 (n4 - 8) < (↑80 : Int)) ∧
                   ∃ n14 : Int, ((∀ w15 : World,
                    (I11 w15 →
                      World.cell? w15 (Addr.add (Addr.mk (Array.size (World.heap w)) 0 none) (Int.toNat (IntKind.wrap IntKind.i64 (n4 - 8)) * 1)) = some (Value.int IntKind.u32 n14))) ∧
                    ((0 ≤ IntKind.wrap IntKind.i64 (n4 - 14) ∧
                      IntKind.wrap IntKind.i64 (n4 - 14) < (↑80 : Int)) ∧
                     ∃ n16 : Int, ((∀ w17 : World,
                      (I11 w17 →
                        World.cell? w17 (Addr.add (Addr.mk (Array.size (World.heap w)) 0 none) (Int.toNat (IntKind.wrap IntKind.i64 (n4 - 14)) * 1)) = some (Value.int IntKind.u32 n16))) ∧
                      ((0 ≤ IntKind.wrap IntKind.i64 (n4 - 16) ∧
                        IntKind.wrap IntKind.i64 (n4 - 16) < (↑80 : Int)) ∧
                       ∃ n18 : Int, ((∀ w19 : World,
                        (I11 w19 →
                          World.cell? w19 (Addr.add (Addr.mk (Array.size (World.heap w)) 0 none) (Int.toNat (IntKind.wrap IntKind.i64 (n4 - 16)) * 1)) = some (Value.int IntKind.u32 n18))) ∧
                        Calls Tryd.prog (60 : Nat) (Array.mk [Value.int IntKind.u32 (IntKind.wrap IntKind.u32 (↑(BitVec.toNat (BitVec.ofInt 32 (IntKind.wrap IntKind.u32 (↑(BitVec.toNat (BitVec.ofInt 32 (IntKind.wrap IntKind.u32 (↑(BitVec.toNat (BitVec.ofInt 32 n12 ^^^ BitVec.ofInt 32 n14)) : Int)) ^^^ BitVec.ofInt 32 n16)) : Int)) ^^^ BitVec.ofInt 32 n18)) : Int)), Value.int IntKind.i64 1]) (w10) (fun e20 w21 =>
                          ∃ n22 : Int, (e20 = Ending.returned (Value.int IntKind.u32 n22) ∧
                           (I11 w21 ∧
                            ((0 ≤ n4 ∧
                              n4 < (↑80 : Int)) ∧
                             (Wr w21 (Addr.add (Addr.mk (Array.size (World.heap w)) 0 none) (Int.toNat n4 * 1)) ∧
                              ∀ w23 : World,
                              (w23 = World.setCell w21 (Addr.add (Addr.mk (Array.size (World.heap w)) 0 none) (Int.toNat n4 * 1)) (Value.int IntKind.u32 n22) →
                                (I2 (IntKind.wrap IntKind.i64 (n4 + 1)) w23 ∧
                                 I3 (IntKind.wrap IntKind.i64 (n4 + 1)) w23 < I3 n4 w5))))))))))))))))))))) ∧
        (decide (n4 < 80) = false →
          (((0 : Int) ≤ (0 : Int) ∧
            0 < (↑x0n : Int)) ∧
           ∃ a24 : Addr, (x0a = some a24 ∧
            ∃ n25 : Int, (World.cell? w5 (Addr.add a24 (Int.toNat 0 * 1)) = some (Value.int IntKind.u32 n25) ∧
             (((0 : Int) ≤ (1 : Int) ∧
               1 < (↑x0n : Int)) ∧
              ∃ a26 : Addr, (x0a = some a26 ∧
               ∃ n27 : Int, (World.cell? w5 (Addr.add a26 (Int.toNat 1 * 1)) = some (Value.int IntKind.u32 n27) ∧
                (((0 : Int) ≤ (2 : Int) ∧
                  2 < (↑x0n : Int)) ∧
                 ∃ a28 : Addr, (x0a = some a28 ∧
                  ∃ n29 : Int, (World.cell? w5 (Addr.add a28 (Int.toNat 2 * 1)) = some (Value.int IntKind.u32 n29) ∧
                   (((0 : Int) ≤ (3 : Int) ∧
                     3 < (↑x0n : Int)) ∧
                    ∃ a30 : Addr, (x0a = some a30 ∧
                     ∃ n31 : Int, (World.cell? w5 (Addr.add a30 (Int.toNat 3 * 1)) = some (Value.int IntKind.u32 n31) ∧
                      (((0 : Int) ≤ (4 : Int) ∧
                        4 < (↑x0n : Int)) ∧
                       ∃ a32 : Addr, (x0a = some a32 ∧
                        ∃ n33 : Int, (World.cell? w5 (Addr.add a32 (Int.toNat 4 * 1)) = some (Value.int IntKind.u32 n33) ∧
                         ∀ w34 : World,
                         (Drew w5 w34 →
                           ∃ v35 : Value, (Sem.run Tryd.prog (loadVar 101 (Addr.mk (Array.size (World.heap w)) 0 none)) w34 = Result.ok v35 w34 ∧
                            ∃ I36 : Int → Int → Int → Int → Int → Int → World → Prop, ∃ I37 : Int → Int → Int → Int → Int → Int → World → Nat, (I36 n25 n27 n29 n31 n33 0 w34 ∧
                             ∀ n38 : Int,
                             ∀ n39 : Int,
                             ∀ n40 : Int,
                             ∀ n41 : Int,
                             ∀ n42 : Int,
                             ∀ n43 : Int,
                             ∀ w44 : World,
                             (I36 n38 n39 n40 n41 n42 n43 w44 →
                               (((decide (n43 < 80) = true →
                                  ∃ w45 : World, ∃ n46 : Int, (Sem.run Tryd.prog (Instr.index 101 v35 (Value.int IntKind.i64 n43)) w44 = Result.ok (Value.int IntKind.u32 n46) w45 ∧
                                   ∃ I47 : Int → Int → World → Prop, (((20 : Int) ≠ (0 : Int) ∧
                                     ((((IntKind.wrap IntKind.i64 (Int.tdiv n43 20) == 0) = true →
                                        (I47 (IntKind.wrap IntKind.u32 (↑(BitVec.toNat (BitVec.ofInt 32 (IntKind.wrap IntKind.u32 (↑(BitVec.toNat (BitVec.ofInt 32 n39 &&& BitVec.ofInt 32 n40)) : Int)) ||| BitVec.ofInt 32 (IntKind.wrap IntKind.u32 (↑(BitVec.toNat (BitVec.ofInt 32 (IntKind.wrap IntKind.u32 (↑(BitVec.toNat (BitVec.ofInt 32 (if IntKind.signed IntKind.u32 = true then -1 else Int.ofNat (2 ^ 32 - Nat.succ 0)) ^^^ BitVec.ofInt 32 n39)) : Int)) &&& BitVec.ofInt 32 n41)) : Int)))) : Int)) 1518500249 w45))) ∧
                                      ((IntKind.wrap IntKind.i64 (Int.tdiv n43 20) == 0) = false →
                                        ((((IntKind.wrap IntKind.i64 (Int.tdiv n43 20) == 1) = true →
                                           I47 (IntKind.wrap IntKind.u32 (↑(BitVec.toNat (BitVec.ofInt 32 (IntKind.wrap IntKind.u32 (↑(BitVec.toNat (BitVec.ofInt 32 n39 ^^^ BitVec.ofInt 32 n40)) : Int)) ^^^ BitVec.ofInt 32 n41)) : Int)) 1859775393 w45)) ∧
                                         ((IntKind.wrap IntKind.i64 (Int.tdiv n43 20) == 1) = false →
                                           ((((IntKind.wrap IntKind.i64 (Int.tdiv n43 20) == 2) = true →
                                              I47 (IntKind.wrap IntKind.u32 (↑(BitVec.toNat (BitVec.ofInt 32 (IntKind.wrap IntKind.u32 (↑(BitVec.toNat (BitVec.ofInt 32 (IntKind.wrap IntKind.u32 (↑(BitVec.toNat (BitVec.ofInt 32 n39 &&& BitVec.ofInt 32 n40)) : Int)) ||| BitVec.ofInt 32 (IntKind.wrap IntKind.u32 (↑(BitVec.toNat (BitVec.ofInt 32 n39 &&& BitVec.ofInt 32 n41)) : Int)))) : Int)) ||| BitVec.ofInt 32 (IntKind.wrap IntKind.u32 (↑(BitVec.toNat (BitVec.ofInt 32 n40 &&& BitVec.ofInt 32 n41)) : Int)))) : Int)) 2400959708 w45)) ∧
                                            ((IntKind.wrap IntKind.i64 (Int.tdiv n43 20) == 2) = false →
                                              I47 (IntKind.wrap IntKind.u32 (↑(BitVec.toNat (BitVec.ofInt 32 (IntKind.wrap IntKind.u32 (↑(BitVec.toNat (BitVec.ofInt 32 n39 ^^^ BitVec.ofInt 32 n40)) : Int)) ^^^ BitVec.ofInt 32 n41)) : Int)) 3395469782 w45))))))) ∧
                                    ∀ n48 : Int,
                                    ∀ n49 : Int,
                                    ∀ w50 : World,
                                    (I47 n48 n49 w50 →
                                      Calls Tryd.prog (60 : Nat) (Array.mk [Value.int IntKind.u32 n38, Value.int IntKind.i64 5]) (w50) (fun e51 w52 =>
                                        ∃ n53 : Int, (e51 = Ending.returned (Value.int IntKind.u32 n53) ∧
                                         Calls Tryd.prog (60 : Nat) (Array.mk [Value.int IntKind.u32 n39, Value.int IntKind.i64 30]) (w52) (fun e54 w55 =>
                                           ∃ n56 : Int, (e54 = Ending.returned (Value.int IntKind.u32 n56) ∧
                                            (I36 (IntKind.wrap IntKind.u32 (IntKind.wrap IntKind.u32 (IntKind.wrap IntKind.u32 (IntKind.wrap IntKind.u32 (n53 + n48) + n42) + n49) + n46)) n38 n56 n40 n41 (IntKind.wrap IntKind.i64 (n43 + 1)) w55 ∧
                                             I37 (IntKind.wrap IntKind.u32 (IntKind.wrap IntKind.u32 (IntKind.wrap IntKind.u32 (IntKind.wrap IntKind.u32 (n53 + n48) + n42) + n49) + n46)) n38 n56 n40 n41 (IntKind.wrap IntKind.i64 (n43 + 1)) w55 < I37 n38 n39 n40 n41 n42 n43 w44)))))))))) ∧
                                (decide (n43 < 80) = false →
                                  (((0 : Int) ≤ (0 : Int) ∧
                                    0 < (↑x0n : Int)) ∧
                                   ∃ a57 : Addr, (x0a = some a57 ∧
                                    ∃ n58 : Int, (World.cell? w44 (Addr.add a57 (Int.toNat 0 * 1)) = some (Value.int IntKind.u32 n58) ∧
                                     (((0 : Int) ≤ (0 : Int) ∧
                                       0 < (↑x0n : Int)) ∧
                                      ∃ a59 : Addr, (x0a = some a59 ∧
                                       (Wr w44 (Addr.add a59 (Int.toNat 0 * 1)) ∧
                                        ∀ w60 : World,
                                        (w60 = World.setCell w44 (Addr.add a59 (Int.toNat 0 * 1)) (Value.int IntKind.u32 (IntKind.wrap IntKind.u32 (n58 + n38))) →
                                          (((0 : Int) ≤ (1 : Int) ∧
                                            1 < (↑x0n : Int)) ∧
                                           ∃ a61 : Addr, (x0a = some a61 ∧
                                            ∃ n62 : Int, (World.cell? w60 (Addr.add a61 (Int.toNat 1 * 1)) = some (Value.int IntKind.u32 n62) ∧
                                             (((0 : Int) ≤ (1 : Int) ∧
                                               1 < (↑x0n : Int)) ∧
                                              ∃ a63 : Addr, (x0a = some a63 ∧
                                               (Wr w60 (Addr.add a63 (Int.toNat 1 * 1)) ∧
                                                ∀ w64 : World,
                                                (w64 = World.setCell w60 (Addr.add a63 (Int.toNat 1 * 1)) (Value.int IntKind.u32 (IntKind.wrap IntKind.u32 (n62 + n39))) →
                                                  (((0 : Int) ≤ (2 : Int) ∧
                                                    2 < (↑x0n : Int)) ∧
                                                   ∃ a65 : Addr, (x0a = some a65 ∧
                                                    ∃ n66 : Int, (World.cell? w64 (Addr.add a65 (Int.toNat 2 * 1)) = some (Value.int IntKind.u32 n66) ∧
                                                     (((0 : Int) ≤ (2 : Int) ∧
                                                       2 < (↑x0n : Int)) ∧
                                                      ∃ a67 : Addr, (x0a = some a67 ∧
                                                       (Wr w64 (Addr.add a67 (Int.toNat 2 * 1)) ∧
                                                        ∀ w68 : World,
                                                        (w68 = World.setCell w64 (Addr.add a67 (Int.toNat 2 * 1)) (Value.int IntKind.u32 (IntKind.wrap IntKind.u32 (n66 + n40))) →
                                                          (((0 : Int) ≤ (3 : Int) ∧
                                                            3 < (↑x0n : Int)) ∧
                                                           ∃ a69 : Addr, (x0a = some a69 ∧
                                                            ∃ n70 : Int, (World.cell? w68 (Addr.add a69 (Int.toNat 3 * 1)) = some (Value.int IntKind.u32 n70) ∧
                                                             (((0 : Int) ≤ (3 : Int) ∧
                                                               3 < (↑x0n : Int)) ∧
                                                              ∃ a71 : Addr, (x0a = some a71 ∧
                                                               (Wr w68 (Addr.add a71 (Int.toNat 3 * 1)) ∧
                                                                ∀ w72 : World,
                                                                (w72 = World.setCell w68 (Addr.add a71 (Int.toNat 3 * 1)) (Value.int IntKind.u32 (IntKind.wrap IntKind.u32 (n70 + n41))) →
                                                                  (((0 : Int) ≤ (4 : Int) ∧
                                                                    4 < (↑x0n : Int)) ∧
                                                                   ∃ a73 : Addr, (x0a = some a73 ∧
                                                                    ∃ n74 : Int, (World.cell? w72 (Addr.add a73 (Int.toNat 4 * 1)) = some (Value.int IntKind.u32 n74) ∧
                                                                     (((0 : Int) ≤ (4 : Int) ∧
                                                                       4 < (↑x0n : Int)) ∧
                                                                      ∃ a75 : Addr, (x0a = some a75 ∧
                                                                       (Wr w72 (Addr.add a75 (Int.toNat 4 * 1)) ∧
                                                                        ∀ w76 : World,
                                                                        (w76 = World.setCell w72 (Addr.add a75 (Int.toNat 4 * 1)) (Value.int IntKind.u32 (IntKind.wrap IntKind.u32 (n74 + n42))) →
                                                                          R (Value.tuple (Array.mk [])) w76)))))))))))))))))))))))))))))))))))))))))))))))))))))))))))))
theorem vc_sha_block1_ok {x0a : Option Addr} {x0n : Nat} {x0c : Nat} {x1 : ByteArray} {w : World} {R : Value → World → Prop} {R' : Ending → World → Prop} (h : vc_sha_block1 x0a x0n x0c x1 w R) (hR : ∀ v w', R v w' → R' (.returned v) w') :
    Calls Tryd.prog 40 #[.slice x0a x0n x0c, .string x1] w R' :=
  calls_of_body (vs := [(.slice x0a x0n x0c, false), (.string x1, false)]) (ty := ty) (ann := ⟨[(20, [(13, .int .u32), (14, .int .u32)])], [(2, [(15, .int .i64)]), (10, [(6, .int .u32), (7, .int .u32), (8, .int .u32), (9, .int .u32), (10, .int .u32), (66, .int .i64)])], [(6, .held [(0, true), (1, true), (2, true), (3, true), (4, true), (5, true), (6, true), (7, true), (8, true), (9, true), (10, true), (11, true), (12, true), (13, true), (14, true), (15, true), (16, true), (17, true), (18, true), (19, true), (20, false), (21, true), (22, false)]), (8, .quiet)], []⟩) (c := Tryd.f40.body.getD .skip) (by kernel_rfl) Tryd.func40 (by kernel_rfl) (by kernel_rfl) (Eq.mp (by kernel_rfl) h) hR
/-- (*sha.hash).write#1 -/
def vc_sha_hash_write_1 (x0 : Nat) (x1 : ByteArray) (x2a : Option Addr) (x2n : Nat) (x2c : Nat) (w : World) (R : Value → World → Prop) : Prop :=
  ∃ I1 : World → Prop, ((∃ l2 : Sl, (World.cell? w (Addr.mk x0 0 none) = some (Value.slice l2.1 l2.2 l2.3) ∧
    (((Option.isNone l2.1 = true →
       ∃ w3 : World, ∃ l4 : Sl, (Sem.run Tryd.prog (Builtin.append_ (Array.mk [60, 60]) 60 (Array.mk [Value.slice none 0 0, Value.slice x2a x2n x2c])) w = Result.ok (Value.slice l4.1 l4.2 l4.3) w3 ∧
        (Wr w3 (Addr.mk x0 0 none) ∧
         ∀ w5 : World,
         (w5 = World.setCell w3 (Addr.mk x0 0 none) (Value.slice l4.1 l4.2 l4.3) →
           I1 w5))))) ∧
     (Option.isNone l2.1 = false →
       I1 w)))) ∧
   ∀ w6 : World,
   (I1 w6 →
     ∃ n7 : Int, (World.cell? w6 (Addr.mk x0 2 none) = some (Value.int IntKind.u64 n7) ∧
      (Wr w6 (Addr.mk x0 2 none) ∧
       ∀ w8 : World,
       (w8 = World.setCell w6 (Addr.mk x0 2 none) (Value.int IntKind.u64 (IntKind.wrap IntKind.u64 (n7 + IntKind.wrap IntKind.u64 (↑(ByteArray.size x1) : Int)))) →
         ∃ s9 : ByteArray, (World.cell? w8 (Addr.mk x0 1 none) = some (Value.string s9) ∧
          (ByteArray.size s9 + ByteArray.size x1 ≤ 9223372036854775807 ∧
           ∃ I10 : ByteArray → World → Prop, ∃ I11 : ByteArray → World → Nat, (I10 (s9 ++ x1) w8 ∧
            ∀ s12 : ByteArray,
            ∀ w13 : World,
            (I10 s12 w13 →
              (((decide ((↑(ByteArray.size s12) : Int) ≥ 64) = true →
                 ∀ w14 : World,
                 (Drew w13 w14 →
                   ∃ I15 : World → Prop, (I15 w14 ∧
                    ∃ l16 : Sl, ((∀ w17 : World,
                     (I15 w17 →
                       World.cell? w17 (Addr.mk x0 0 none) = some (Value.slice l16.1 l16.2 l16.3))) ∧
                     (((0 : Int) ≤ (64 : Int) ∧
                       64 ≤ (↑(ByteArray.size s12) : Int)) ∧
                      Calls Tryd.prog (40 : FuncId) (Array.mk [Value.slice l16.1 l16.2 l16.3, Value.string (ByteArray.extract s12 0 (Int.toNat 64))]) (w14) (fun e18 w19 =>
                        (e18 = Ending.returned (Value.tuple (Array.mk [])) ∧
                         (((0 : Int) ≤ (64 : Int) ∧
                           64 ≤ (↑(ByteArray.size s12) : Int)) ∧
                          (I10 (ByteArray.extract s12 (Int.toNat 64) (ByteArray.size s12)) w19 ∧
                           I11 (ByteArray.extract s12 (Int.toNat 64) (ByteArray.size s12)) w19 < I11 s12 w13)))))))))) ∧
               (decide ((↑(ByteArray.size s12) : Int) ≥ 64) = false →
                 (Wr w13 (Addr.mk x0 1 none) ∧
                  ∀ w20 : World,
                  (w20 = World.setCell w13 (Addr.mk x0 1 none) (Value.string s12) →
                    R (Value.tuple (Array.mk [])) w20)))))))))))))
theorem vc_sha_hash_write_1_ok {x0 : Nat} {x1 : ByteArray} {x2a : Option Addr} {x2n : Nat} {x2c : Nat} {w : World} {R : Value → World → Prop} {R' : Ending → World → Prop} (h : vc_sha_hash_write_1 x0 x1 x2a x2n x2c w R) (hR : ∀ v w', R v w' → R' (.returned v) w') :
    Calls Tryd.prog 38 #[.pointer (some ⟨x0, 0, none⟩), .string x1, .slice x2a x2n x2c, .func (.func 40) #[] #[]] w R' :=
  calls_of_body (vs := [(.pointer (some ⟨x0, 0, none⟩), true), (.string x1, false), (.slice x2a x2n x2c, false), (.func (.func 40) #[] #[], false)]) (ty := ty) (ann := ⟨[(2, [])], [(4, [(1, .str)])], [(5, .held [(0, true), (1, true), (2, true), (3, true), (4, true), (5, true), (6, true), (7, false)])], []⟩) (c := Tryd.f38.body.getD .skip) (by kernel_rfl) Tryd.func38 (by kernel_rfl) (by kernel_rfl) (Eq.mp (by kernel_rfl) h) hR
/-- (*sha.hash).sum#1 -/
def vc_sha_hash_sum_1 (x0 : Nat) (x1a : Option Addr) (x1n : Nat) (x1c : Nat) (w : World) (R : Value → World → Prop) : Prop :=
  ∃ I1 : Addr → World → Prop, ((∀ w2 : World,
   (Drew w w2 →
     ∃ I3 : World → Prop, (I3 w2 ∧
      ∃ l4 : Sl, ((∀ w5 : World,
       (I3 w5 →
         World.cell? w5 (Addr.mk x0 0 none) = some (Value.slice l4.1 l4.2 l4.3))) ∧
       ∃ s6 : ByteArray, ((∀ w7 : World,
        (I3 w7 →
          World.cell? w7 (Addr.mk x0 1 none) = some (Value.string s6))) ∧
        ∃ n8 : Int, ((∀ w9 : World,
         (I3 w9 →
           World.cell? w9 (Addr.mk x0 2 none) = some (Value.int IntKind.u64 n8))) ∧
         ((∃ w10 : World, ∃ l11 : Sl, (Sem.run Tryd.prog (Builtin.append_ (Array.mk [60, 60]) 60 (Array.mk [Value.slice none 0 0, Value.slice l4.1 l4.2 l4.3])) w2 = Result.ok (Value.slice l11.1 l11.2 l11.3) w10 ∧
           (I3 w10 ∧
            ∀ w12 : World,
            (w12 = World.alloc w10 (Obj.cells (Array.mk [Value.slice none 0 0, Value.string (ByteArray.mk (Array.mk [])), Value.int IntKind.u64 0]) 63) →
              (I3 w12 ∧
               ∃ w13 : World, (Sem.run Tryd.prog (storeVar 63 (Addr.mk (Array.size (World.heap w10)) 0 none) (Value.agg (Array.mk [Value.slice l11.1 l11.2 l11.3, Value.string s6, Value.int IntKind.u64 n8]))) w12 = Result.ok PUnit.unit w13 ∧
                I1 (Addr.mk (Array.size (World.heap w10)) 0 none) w13)))))) ∧
          ∀ w14 : World,
          (w14 = World.alloc w2 (Obj.cells (Array.mk [Value.slice none 0 0, Value.string (ByteArray.mk (Array.mk [])), Value.int IntKind.u64 0]) 63) →
            (I3 w14 ∧
             ∃ w15 : World, ∃ l16 : Sl, (Sem.run Tryd.prog (Builtin.append_ (Array.mk [60, 60]) 60 (Array.mk [Value.slice none 0 0, Value.slice l4.1 l4.2 l4.3])) w14 = Result.ok (Value.slice l16.1 l16.2 l16.3) w15 ∧
              (I3 w15 ∧
               ∃ w17 : World, (Sem.run Tryd.prog (storeVar 63 (Addr.mk (Array.size (World.heap w2)) 0 none) (Value.agg (Array.mk [Value.slice l16.1 l16.2 l16.3, Value.string s6, Value.int IntKind.u64 n8]))) w15 = Result.ok PUnit.unit w17 ∧
                I1 (Addr.mk (Array.size (World.heap w2)) 0 none) w17)))))))))))) ∧
   ∀ a18 : Addr,
   ∀ w19 : World,
   (I1 a18 w19 →
     ∃ I20 : World → Prop, ((∃ l21 : Sl, (World.cell? w19 (Addr.mk x0 0 none) = some (Value.slice l21.1 l21.2 l21.3) ∧
       (((Option.isNone l21.1 = true →
          (Wr w19 a18 ∧
           ∀ w22 : World,
           (w22 = World.setCell w19 a18 (Value.slice none 0 0) →
             I20 w22)))) ∧
        (Option.isNone l21.1 = false →
          I20 w19)))) ∧
      ∀ w23 : World,
      (I20 w23 →
        ∃ I24 : ByteArray → World → Prop, ∃ I25 : ByteArray → World → Nat, (I24 (ByteArray.mk (Array.mk [128])) w23 ∧
         ∀ s26 : ByteArray,
         ∀ w27 : World,
         (I24 s26 w27 →
           ∃ s28 : ByteArray, (World.cell? w27 (Addr.mk x0 1 none) = some (Value.string s28) ∧
            ((64 : Int) ≠ (0 : Int) ∧
             ((((Int.tmod (IntKind.wrap IntKind.i64 ((↑(ByteArray.size s28) : Int) + (↑(ByteArray.size s26) : Int))) 64 != 56) = true →
                (ByteArray.size s26 + ByteArray.size (ByteArray.mk (Array.mk [0])) ≤ 9223372036854775807 ∧
                 (I24 (s26 ++ ByteArray.mk (Array.mk [0])) w27 ∧
                  I25 (s26 ++ ByteArray.mk (Array.mk [0])) w27 < I25 s26 w27)))) ∧
              ((Int.tmod (IntKind.wrap IntKind.i64 ((↑(ByteArray.size s28) : Int) + (↑(ByteArray.size s26) : Int))) 64 != 56) = false →
                ∃ I29 : Sl → Int → World → Prop, ∃ I30 : Sl → Int → World → Nat, (I29 (Sl.mk none 0 0) 56 w27 ∧
                 ∀ l31 : Sl,
                 ∀ n32 : Int,
                 ∀ w33 : World,
                 (I29 l31 n32 w33 →
                   (((decide (n32 ≥ 0) = true →
                      ∃ n34 : Int, (World.cell? w33 (Addr.mk x0 2 none) = some (Value.int IntKind.u64 n34) ∧
                       (0 ≤ n32 ∧
                        ∀ w35 : World,
                        (w35 = World.alloc w33 (Obj.cells (Array.mk [Value.int IntKind.u8 (IntKind.wrap IntKind.u8 (Int.fdiv (IntKind.wrap IntKind.u64 (n34 * 8)) (2 ^ min (Int.toNat n32) 64)))]) 5) →
                          ∃ w36 : World, ∃ l37 : Sl, (Sem.run Tryd.prog (Builtin.append_ (Array.mk [58, 58]) 58 (Array.mk [Value.slice l31.1 l31.2 l31.3, Value.slice (some (Addr.mk (Array.size (World.heap w33)) 0 none)) 1 1])) w35 = Result.ok (Value.slice l37.1 l37.2 l37.3) w36 ∧
                           (I29 (Sl.mk l37.1 l37.2 l37.3) (IntKind.wrap IntKind.i64 (n32 - 8)) w36 ∧
                            I30 (Sl.mk l37.1 l37.2 l37.3) (IntKind.wrap IntKind.i64 (n32 - 8)) w36 < I30 l31 n32 w33))))))) ∧
                    (decide (n32 ≥ 0) = false →
                      ∃ w38 : World, ∃ s39 : ByteArray, (Sem.run Tryd.prog (convert 58 9 (Value.slice l31.1 l31.2 l31.3)) w33 = Result.ok (Value.string s39) w38 ∧
                       (ByteArray.size s26 + ByteArray.size s39 ≤ 9223372036854775807 ∧
                        Calls Tryd.prog (38 : Nat) (Array.mk [Value.pointer (some a18), Value.string (s26 ++ s39), Value.slice x1a x1n x1c, Value.func (Fn.func 40) (Array.mk []) (Array.mk [])]) (w38) (fun e40 w41 =>
                          (e40 = Ending.returned (Value.tuple (Array.mk [])) ∧
                           ∃ l42 : Sl, (World.cell? w41 a18 = some (Value.slice l42.1 l42.2 l42.3) ∧
                            ∃ I43 : Sl → Int → World → Prop, ∃ I44 : Sl → Int → World → Nat, (I43 (Sl.mk none 0 0) 0 w41 ∧
                             ∀ l45 : Sl,
                             ∀ n46 : Int,
                             ∀ w47 : World,
                             (I43 l45 n46 w47 →
                               (((decide (n46 < (↑l42.2 : Int)) = true →
                                  ((0 ≤ n46 ∧
                                    n46 < (↑l42.2 : Int)) ∧
                                   ∃ a48 : Addr, (l42.1 = some a48 ∧
                                    ∃ n49 : Int, (World.cell? w47 (Addr.add a48 (Int.toNat n46 * 1)) = some (Value.int IntKind.u32 n49) ∧
                                     ((0 : Int) ≤ (24 : Int) ∧
                                      ((0 : Int) ≤ (16 : Int) ∧
                                       ((0 : Int) ≤ (8 : Int) ∧
                                        ∀ w50 : World,
                                        (w50 = World.alloc w47 (Obj.cells (Array.mk [Value.int IntKind.u8 (IntKind.wrap IntKind.u8 (Int.fdiv n49 (2 ^ min (Int.toNat 24) 32))), Value.int IntKind.u8 (IntKind.wrap IntKind.u8 (Int.fdiv n49 (2 ^ min (Int.toNat 16) 32))), Value.int IntKind.u8 (IntKind.wrap IntKind.u8 (Int.fdiv n49 (2 ^ min (Int.toNat 8) 32))), Value.int IntKind.u8 (IntKind.wrap IntKind.u8 n49)]) 5) →
                                          ∃ w51 : World, ∃ l52 : Sl, (Sem.run Tryd.prog (Builtin.append_ (Array.mk [58, 58]) 58 (Array.mk [Value.slice l45.1 l45.2 l45.3, Value.slice (some (Addr.mk (Array.size (World.heap w47)) 0 none)) 4 4])) w50 = Result.ok (Value.slice l52.1 l52.2 l52.3) w51 ∧
                                           (I43 (Sl.mk l52.1 l52.2 l52.3) (IntKind.wrap IntKind.i64 (n46 + 1)) w51 ∧
                                            I44 (Sl.mk l52.1 l52.2 l52.3) (IntKind.wrap IntKind.i64 (n46 + 1)) w51 < I44 l45 n46 w47))))))))))) ∧
                                (decide (n46 < (↑l42.2 : Int)) = false →
                                  ∃ w53 : World, ∃ s54 : ByteArray, (Sem.run Tryd.prog (convert 58 9 (Value.slice l45.1 l45.2 l45.3)) w47 = Result.ok (Value.string s54) w53 ∧
                                   R (Value.string s54) w53))))))))))))))))))))))))
theorem vc_sha_hash_sum_1_ok {x0 : Nat} {x1a : Option Addr} {x1n : Nat} {x1c : Nat} {w : World} {R : Value → World → Prop} {R' : Ending → World → Prop} (h : vc_sha_hash_sum_1 x0 x1a x1n x1c w R) (hR : ∀ v w', R v w' → R' (.returned v) w') :
    Calls Tryd.prog 41 #[.pointer (some ⟨x0, 0, none⟩), .slice x1a x1n x1c, .func (.func 40) #[] #[]] w R' :=
  calls_of_body (vs := [(.pointer (some ⟨x0, 0, none⟩), true), (.slice x1a x1n x1c, false), (.func (.func 40) #[] #[], false)]) (ty := ty) (ann := ⟨[(2, [(7, .addr)]), (4, [])], [(5, [(8, .str)]), (9, [(9, .slice), (10, .int .i64)]), (15, [(11, .slice), (71, .int .i64)])], [(1, .tree (.rd 0 (.rd 1 (.rd 2 (.rd 3 (.rd 5 (.rd 6 (.rd 7 (.rd 8 (.rd 9 (.rd 10 (.rd 11 (.rd 12 (.ef 4 (.rd 13 (.ef 14 (.ef 15 .done .done) .done)) (.ef 14 (.ef 4 (.rd 13 (.ef 15 .done .done)) .done) .done)))))))))))))))], []⟩) (c := Tryd.f41.body.getD .skip) (by kernel_rfl) Tryd.func41 (by kernel_rfl) (by kernel_rfl) (Eq.mp (by kernel_rfl) h) hR
/-- (*sha.Hash1).Write -/
def vc_sha_Hash1_Write (x0 : Nat) (x1 : ByteArray) (w : World) (R : Value → World → Prop) : Prop :=
  ∀ w1 : World,
  (Drew w w1 →
    ∃ I2 : World → Prop, (I2 w1 ∧
     Calls Tryd.prog (39 : Nat) (Array.mk []) (w1) (fun e3 w4 =>
       ∃ l5 : Sl, (e3 = Ending.returned (Value.slice l5.1 l5.2 l5.3) ∧
        (I2 w4 ∧
         Calls Tryd.prog (38 : Nat) (Array.mk [Value.pointer (some (Addr.mk x0 0 none)), Value.string x1, Value.slice l5.1 l5.2 l5.3, Value.func (Fn.func 40) (Array.mk []) (Array.mk [])]) (w4) (fun e6 w7 =>
           (e6 = Ending.returned (Value.tuple (Array.mk [])) ∧
            R (Value.tuple (Array.mk [])) w7)))))))
theorem vc_sha_Hash1_Write_ok {x0 : Nat} {x1 : ByteArray} {w : World} {R : Value → World → Prop} {R' : Ending → World → Prop} (h : vc_sha_Hash1_Write x0 x1 w R) (hR : ∀ v w', R v w' → R' (.returned v) w') :
    Calls Tryd.prog 26 #[.pointer (some ⟨x0, 0, none⟩), .string x1] w R' :=
  calls_of_body (vs := [(.pointer (some ⟨x0, 0, none⟩), true), (.string x1, false)]) (ty := ty) (ann := ⟨[], [], [(0, .held [(0, true), (1, true), (2, true), (3, true), (4, false), (5, false)])], []⟩) (c := Tryd.f26.body.getD .skip) (by kernel_rfl) Tryd.func26 (by kernel_rfl) (by kernel_rfl) (Eq.mp (by kernel_rfl) h) hR
/-- (*sha.Hash1).Sum -/
def vc_sha_Hash1_Sum (x0 : Nat) (w : World) (R : Value → World → Prop) : Prop :=
  ∀ w1 : World,
  (Drew w w1 →
    ∃ I2 : World → Prop, (I2 w1 ∧
     Calls Tryd.prog (39 : Nat) (Array.mk []) (w1) (fun e3 w4 =>
       ∃ l5 : Sl, (e3 = Ending.returned (Value.slice l5.1 l5.2 l5.3) ∧
        (I2 w4 ∧
         Calls Tryd.prog (41 : Nat) (Array.mk [Value.pointer (some (Addr.mk x0 0 none)), Value.slice l5.1 l5.2 l5.3, Value.func (Fn.func 40) (Array.mk []) (Array.mk [])]) (w4) (fun e6 w7 =>
           ∃ s8 : ByteArray, (e6 = Ending.returned (Value.string s8) ∧
            (I2 w7 ∧
             R (Value.string s8) w7))))))))
theorem vc_sha_Hash1_Sum_ok {x0 : Nat} {w : World} {R : Value → World → Prop} {R' : Ending → World → Prop} (h : vc_sha_Hash1_Sum x0 w R) (hR : ∀ v w', R v w' → R' (.returned v) w') :
    Calls Tryd.prog 27 #[.pointer (some ⟨x0, 0, none⟩)] w R' :=
  calls_of_body (vs := [(.pointer (some ⟨x0, 0, none⟩), true)]) (ty := ty) (ann := ⟨[], [], [(1, .held [(0, true), (1, true), (2, true), (3, false), (4, false), (5, true)])], []⟩) (c := Tryd.f27.body.getD .skip) (by kernel_rfl) Tryd.func27 (by kernel_rfl) (by kernel_rfl) (Eq.mp (by kernel_rfl) h) hR
/-- sha.Sum1 -/
def vc_sha_Sum1 (x0 : ByteArray) (w : World) (R : Value → World → Prop) : Prop :=
  ∀ w1 : World,
  (w1 = World.alloc w (Obj.cells (Array.mk [Value.slice none 0 0, Value.string (ByteArray.mk (Array.mk [])), Value.int IntKind.u64 0]) 65) →
    Calls Tryd.prog (26 : Nat) (Array.mk [Value.pointer (some (Addr.mk (Array.size (World.heap w)) 0 none)), Value.string x0]) (w1) (fun e2 w3 =>
      (e2 = Ending.returned (Value.tuple (Array.mk [])) ∧
       Calls Tryd.prog (27 : Nat) (Array.mk [Value.pointer (some (Addr.mk (Array.size (World.heap w)) 0 none))]) (w3) (fun e4 w5 =>
         ∃ s6 : ByteArray, (e4 = Ending.returned (Value.string s6) ∧
          R (Value.string s6) w5)))))
theorem vc_sha_Sum1_ok {x0 : ByteArray} {w : World} {R : Value → World → Prop} {R' : Ending → World → Prop} (h : vc_sha_Sum1 x0 w R) (hR : ∀ v w', R v w' → R' (.returned v) w') :
    Calls Tryd.prog 13 #[.string x0] w R' :=
  calls_of_body (vs := [(.string x0, false)]) (ty := ty) (ann := ⟨[], [], [], []⟩) (c := Tryd.f13.body.getD .skip) (by kernel_rfl) Tryd.func13 (by kernel_rfl) (by kernel_rfl) (Eq.mp (by kernel_rfl) h) hR
end Go.Proofs.YtoagdpjickippaaDoor

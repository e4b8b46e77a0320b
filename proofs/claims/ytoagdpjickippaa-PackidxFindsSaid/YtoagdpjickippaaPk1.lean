/- Formulas of 1 Go functions of this seat (written by a program of the author's, vcgen.py), and that each is enough for the call. No condition. -/
import Derived.Test.YtoagdpjickippaaTy
import Derived.Test.YtoagdpjickippaaProg
set_option linter.unusedVariables false
namespace Go.Proofs.Ytoagdpjickippaa
open Go Vc Go.Proofs
set_option maxRecDepth 100000
/-- packidx.Parse -/
def vc_packidx_Parse (x0 : ByteArray) (w : World) (R : Value → World → Prop) : Prop :=
  (((decide ((↑(ByteArray.size x0) : Int) < 1072) = true →
     R (Value.tuple (Array.mk [Value.pointer none, Value.int IntKind.i64 6])) w)) ∧
   (decide ((↑(ByteArray.size x0) : Int) < 1072) = false →
     (((0 : Int) ≤ (8 : Int) ∧
       8 ≤ (↑(ByteArray.size x0) : Int)) ∧
      ((((!ByteArray.toList (ByteArray.extract x0 0 (Int.toNat 8)) == ByteArray.toList (ByteArray.mk (Array.mk [255, 116, 79, 99, 0, 0, 0, 2]))) = true →
         R (Value.tuple (Array.mk [Value.pointer none, Value.int IntKind.i64 3])) w)) ∧
       ((!ByteArray.toList (ByteArray.extract x0 0 (Int.toNat 8)) == ByteArray.toList (ByteArray.mk (Array.mk [255, 116, 79, 99, 0, 0, 0, 2]))) = false →
         ∀ w1 : World,
         (w1 = World.alloc w (Obj.cells (Array.mk [Value.slice none 0 0, Value.int IntKind.i64 0, Value.int IntKind.i64 0, Value.int IntKind.i64 0, Value.int IntKind.i64 0, Value.int IntKind.i64 0, Value.int IntKind.i64 0, Value.int IntKind.i64 0, Value.int IntKind.i64 0, Value.int IntKind.i64 0, Value.int IntKind.i64 0, Value.int IntKind.i64 0, Value.int IntKind.i64 0, Value.int IntKind.i64 0, Value.int IntKind.i64 0, Value.int IntKind.i64 0, Value.int IntKind.i64 0, Value.int IntKind.i64 0, Value.int IntKind.i64 0, Value.int IntKind.i64 0, Value.int IntKind.i64 0, Value.int IntKind.i64 0, Value.int IntKind.i64 0, Value.int IntKind.i64 0, Value.int IntKind.i64 0, Value.int IntKind.i64 0, Value.int IntKind.i64 0, Value.int IntKind.i64 0, Value.int IntKind.i64 0, Value.int IntKind.i64 0, Value.int IntKind.i64 0, Value.int IntKind.i64 0, Value.int IntKind.i64 0, Value.int IntKind.i64 0, Value.int IntKind.i64 0, Value.int IntKind.i64 0, Value.int IntKind.i64 0, Value.int IntKind.i64 0, Value.int IntKind.i64 0, Value.int IntKind.i64 0, Value.int IntKind.i64 0, Value.int IntKind.i64 0, Value.int IntKind.i64 0, Value.int IntKind.i64 0, Value.int IntKind.i64 0, Value.int IntKind.i64 0, Value.int IntKind.i64 0, Value.int IntKind.i64 0, Value.int IntKind.i64 0, Value.int IntKind.i64 0, Value.int IntKind.i64 0, Value.int IntKind.i64 0, Value.int IntKind.i64 0, Value.int IntKind.i64 0, Value.int IntKind.i64 0, Value.int IntKind.i64 0, Value.int IntKind.i64 0, Value.int IntKind.i64 0, Value.int IntKind.i64 0, Value.int IntKind.i64 0, Value.int IntKind.i64 0, Value.int IntKind.i64 0, Value.int IntKind.i64 0, Value.int IntKind.i64 0, Value.int IntKind.i64 0, Value.int IntKind.i64 0, Value.int IntKind.i64 0, Value.int IntKind.i64 0, Value.int IntKind.i64 0, Value.int IntKind.i64 0, Value.int IntKind.i64 0, Value.int IntKind.i64 0, Value.int IntKind.i64 0, Value.int IntKind.i64 0, Value.int IntKind.i64 0, Value.int IntKind.i64 0, Value.int IntKind.i64 0, Value.int IntKind.i64 0, Value.int IntKind.i64 0, Value.int IntKind.i64 0, Value.int IntKind.i64 0, Value.int IntKind.i64 0, Value.int IntKind.i64 0, Value.int IntKind.i64 0, Value.int IntKind.i64 0, Value.int IntKind.i64 0, Value.int IntKind.i64 0, Value.int IntKind.i64 0, Value.int IntKind.i64 0, Value.int IntKind.i64 0, Value.int IntKind.i64 0, Value.int IntKind.i64 0, Value.int IntKind.i64 0, Value.int IntKind.i64 0, Value.int IntKind.i64 0, Value.int IntKind.i64 0, Value.int IntKind.i64 0, Value.int IntKind.i64 0, Value.int IntKind.i64 0, Value.int IntKind.i64 0, Value.int IntKind.i64 0, Value.int IntKind.i64 0, Value.int IntKind.i64 0, Value.int IntKind.i64 0, Value.int IntKind.i64 0, Value.int IntKind.i64 0, Value.int IntKind.i64 0, Value.int IntKind.i64 0, Value.int IntKind.i64 0, Value.int IntKind.i64 0, Value.int IntKind.i64 0, Value.int IntKind.i64 0, Value.int IntKind.i64 0, Value.int IntKind.i64 0, Value.int IntKind.i64 0, Value.int IntKind.i64 0, Value.int IntKind.i64 0, Value.int IntKind.i64 0, Value.int IntKind.i64 0, Value.int IntKind.i64 0, Value.int IntKind.i64 0, Value.int IntKind.i64 0, Value.int IntKind.i64 0, Value.int IntKind.i64 0, Value.int IntKind.i64 0, Value.int IntKind.i64 0, Value.int IntKind.i64 0, Value.int IntKind.i64 0, Value.int IntKind.i64 0, Value.int IntKind.i64 0, Value.int IntKind.i64 0, Value.int IntKind.i64 0, Value.int IntKind.i64 0, Value.int IntKind.i64 0, Value.int IntKind.i64 0, Value.int IntKind.i64 0, Value.int IntKind.i64 0, Value.int IntKind.i64 0, Value.int IntKind.i64 0, Value.int IntKind.i64 0, Value.int IntKind.i64 0, Value.int IntKind.i64 0, Value.int IntKind.i64 0, Value.int IntKind.i64 0, Value.int IntKind.i64 0, Value.int IntKind.i64 0, Value.int IntKind.i64 0, Value.int IntKind.i64 0, Value.int IntKind.i64 0, Value.int IntKind.i64 0, Value.int IntKind.i64 0, Value.int IntKind.i64 0, Value.int IntKind.i64 0, Value.int IntKind.i64 0, Value.int IntKind.i64 0, Value.int IntKind.i64 0, Value.int IntKind.i64 0, Value.int IntKind.i64 0, Value.int IntKind.i64 0, Value.int IntKind.i64 0, Value.int IntKind.i64 0, Value.int IntKind.i64 0, Value.int IntKind.i64 0, Value.int IntKind.i64 0, Value.int IntKind.i64 0, Value.int IntKind.i64 0, Value.int IntKind.i64 0, Value.int IntKind.i64 0, Value.int IntKind.i64 0, Value.int IntKind.i64 0, Value.int IntKind.i64 0, Value.int IntKind.i64 0, Value.int IntKind.i64 0, Value.int IntKind.i64 0, Value.int IntKind.i64 0, Value.int IntKind.i64 0, Value.int IntKind.i64 0, Value.int IntKind.i64 0, Value.int IntKind.i64 0, Value.int IntKind.i64 0, Value.int IntKind.i64 0, Value.int IntKind.i64 0, Value.int IntKind.i64 0, Value.int IntKind.i64 0, Value.int IntKind.i64 0, Value.int IntKind.i64 0, Value.int IntKind.i64 0, Value.int IntKind.i64 0, Value.int IntKind.i64 0, Value.int IntKind.i64 0, Value.int IntKind.i64 0, Value.int IntKind.i64 0, Value.int IntKind.i64 0, Value.int IntKind.i64 0, Value.int IntKind.i64 0, Value.int IntKind.i64 0, Value.int IntKind.i64 0, Value.int IntKind.i64 0, Value.int IntKind.i64 0, Value.int IntKind.i64 0, Value.int IntKind.i64 0, Value.int IntKind.i64 0, Value.int IntKind.i64 0, Value.int IntKind.i64 0, Value.int IntKind.i64 0, Value.int IntKind.i64 0, Value.int IntKind.i64 0, Value.int IntKind.i64 0, Value.int IntKind.i64 0, Value.int IntKind.i64 0, Value.int IntKind.i64 0, Value.int IntKind.i64 0, Value.int IntKind.i64 0, Value.int IntKind.i64 0, Value.int IntKind.i64 0, Value.int IntKind.i64 0, Value.int IntKind.i64 0, Value.int IntKind.i64 0, Value.int IntKind.i64 0, Value.int IntKind.i64 0, Value.int IntKind.i64 0, Value.int IntKind.i64 0, Value.int IntKind.i64 0, Value.int IntKind.i64 0, Value.int IntKind.i64 0, Value.int IntKind.i64 0, Value.int IntKind.i64 0, Value.int IntKind.i64 0, Value.int IntKind.i64 0, Value.int IntKind.i64 0, Value.int IntKind.i64 0, Value.int IntKind.i64 0, Value.int IntKind.i64 0, Value.int IntKind.i64 0, Value.int IntKind.i64 0, Value.int IntKind.i64 0, Value.int IntKind.i64 0, Value.int IntKind.i64 0, Value.int IntKind.i64 0, Value.int IntKind.i64 0, Value.int IntKind.i64 0, Value.int IntKind.i64 0, Value.int IntKind.i64 0, Value.int IntKind.i64 0, Value.int IntKind.i64 0, Value.int IntKind.i64 0, Value.int IntKind.i64 0, Value.int IntKind.i64 0, Value.int IntKind.i64 0, Value.int IntKind.i64 0, Value.int IntKind.i64 0, Value.int IntKind.i64 0, Value.int IntKind.i64 0, Value.int IntKind.i64 0, Value.int IntKind.i64 0, Value.int IntKind.i64 0, Value.int IntKind.i64 0, Value.int IntKind.i64 0, Value.string (ByteArray.mk (Array.mk []))]) 63) →
           ∃ I2 : Int → World → Prop, ∃ I3 : Int → World → Nat, (I2 0 w1 ∧
            ∀ n4 : Int,
            ∀ w5 : World,
            (I2 n4 w5 →
              (((decide (n4 < 256) = true →
                 ∀ w6 : World,
                 (Drew w5 w6 →
                   ∃ I7 : World → Prop, (I7 w6 ∧
                    ((0 ≤ IntKind.wrap IntKind.i64 (8 + IntKind.wrap IntKind.i64 (4 * n4)) ∧
                      (IntKind.wrap IntKind.i64 (8 + IntKind.wrap IntKind.i64 (4 * n4)) ≤ IntKind.wrap IntKind.i64 (12 + IntKind.wrap IntKind.i64 (4 * n4)) ∧
                       IntKind.wrap IntKind.i64 (12 + IntKind.wrap IntKind.i64 (4 * n4)) ≤ (↑(ByteArray.size x0) : Int))) ∧
                     Calls Try.prog (26 : Nat) (Array.mk [Value.string (ByteArray.extract x0 (Int.toNat (IntKind.wrap IntKind.i64 (8 + IntKind.wrap IntKind.i64 (4 * n4)))) (Int.toNat (IntKind.wrap IntKind.i64 (12 + IntKind.wrap IntKind.i64 (4 * n4)))))]) (w6) (fun e8 w9 =>
                       ∃ n10 : Int, (e8 = Ending.returned (Value.int IntKind.u64 n10) ∧
                        (I7 w9 ∧
                         ((0 ≤ IntKind.wrap IntKind.i64 (n4 + 1) ∧
                           IntKind.wrap IntKind.i64 (n4 + 1) < (↑257 : Int)) ∧
                          (Wr w9 (Addr.add (Addr.mk (Array.size (World.heap w)) 1 none) (Int.toNat (IntKind.wrap IntKind.i64 (n4 + 1)) * 1)) ∧
                           ∀ w11 : World,
                           (w11 = World.setCell w9 (Addr.add (Addr.mk (Array.size (World.heap w)) 1 none) (Int.toNat (IntKind.wrap IntKind.i64 (n4 + 1)) * 1)) (Value.int IntKind.i64 (IntKind.wrap IntKind.i64 n10)) →
                             ((0 ≤ IntKind.wrap IntKind.i64 (n4 + 1) ∧
                               IntKind.wrap IntKind.i64 (n4 + 1) < (↑257 : Int)) ∧
                              ∃ n12 : Int, (World.cell? w11 (Addr.add (Addr.mk (Array.size (World.heap w)) 1 none) (Int.toNat (IntKind.wrap IntKind.i64 (n4 + 1)) * 1)) = some (Value.int IntKind.i64 n12) ∧
                               ((0 ≤ n4 ∧
                                 n4 < (↑257 : Int)) ∧
                                ∃ n13 : Int, (World.cell? w11 (Addr.add (Addr.mk (Array.size (World.heap w)) 1 none) (Int.toNat n4 * 1)) = some (Value.int IntKind.i64 n13) ∧
                                 ∀ w14 : World,
                                 (Drew w11 w14 →
                                   (((decide (n12 < n13) = true →
                                      R (Value.tuple (Array.mk [Value.pointer none, Value.int IntKind.i64 3])) w14)) ∧
                                    (decide (n12 < n13) = false →
                                      (I2 (IntKind.wrap IntKind.i64 (n4 + 1)) w14 ∧
                                       I3 (IntKind.wrap IntKind.i64 (n4 + 1)) w14 < I3 n4 w5))))))))))))))))))) ∧
               (decide (n4 < 256) = false →
                 (((0 : Int) ≤ (256 : Int) ∧
                   (256 : Int) < (↑(257 : Nat) : Int)) ∧
                  ∃ n15 : Int, (World.cell? w5 (Addr.add (Addr.mk (Array.size (World.heap w)) 1 none) (Int.toNat 256 * 1)) = some (Value.int IntKind.i64 n15) ∧
                   (((decide (n15 > 1000) = true →
                      R (Value.tuple (Array.mk [Value.pointer none, Value.int IntKind.i64 2])) w5)) ∧
                    (decide (n15 > 1000) = false →
                      (((decide ((↑(ByteArray.size x0) : Int) < IntKind.wrap IntKind.i64 (IntKind.wrap IntKind.i64 (1032 + IntKind.wrap IntKind.i64 (28 * n15)) + 40)) = true →
                         R (Value.tuple (Array.mk [Value.pointer none, Value.int IntKind.i64 6])) w5)) ∧
                       (decide ((↑(ByteArray.size x0) : Int) < IntKind.wrap IntKind.i64 (IntKind.wrap IntKind.i64 (1032 + IntKind.wrap IntKind.i64 (28 * n15)) + 40)) = false →
                         ((0 ≤ IntKind.wrap IntKind.i64 (1032 + IntKind.wrap IntKind.i64 (28 * n15)) ∧
                           (IntKind.wrap IntKind.i64 (1032 + IntKind.wrap IntKind.i64 (28 * n15)) ≤ IntKind.wrap IntKind.i64 ((↑(ByteArray.size x0) : Int) - 40) ∧
                            IntKind.wrap IntKind.i64 ((↑(ByteArray.size x0) : Int) - 40) ≤ (↑(ByteArray.size x0) : Int))) ∧
                          ((8 : Int) ≠ (0 : Int) ∧
                           ((((Int.tmod (↑(ByteArray.size (ByteArray.extract x0 (Int.toNat (IntKind.wrap IntKind.i64 (1032 + IntKind.wrap IntKind.i64 (28 * n15)))) (Int.toNat (IntKind.wrap IntKind.i64 ((↑(ByteArray.size x0) : Int) - 40))))) : Int) 8 != 0) = true →
                              R (Value.tuple (Array.mk [Value.pointer none, Value.int IntKind.i64 3])) w5)) ∧
                            ((Int.tmod (↑(ByteArray.size (ByteArray.extract x0 (Int.toNat (IntKind.wrap IntKind.i64 (1032 + IntKind.wrap IntKind.i64 (28 * n15)))) (Int.toNat (IntKind.wrap IntKind.i64 ((↑(ByteArray.size x0) : Int) - 40))))) : Int) 8 != 0) = false →
                              ∃ I16 : Int → World → Prop, ∃ I17 : Int → World → Nat, (I16 0 w5 ∧
                               ∀ n18 : Int,
                               ∀ w19 : World,
                               (I16 n18 w19 →
                                 (((decide (n18 < n15) = true →
                                    ((0 ≤ IntKind.wrap IntKind.i64 (1032 + IntKind.wrap IntKind.i64 (20 * n18)) ∧
                                      (IntKind.wrap IntKind.i64 (1032 + IntKind.wrap IntKind.i64 (20 * n18)) ≤ IntKind.wrap IntKind.i64 (IntKind.wrap IntKind.i64 (1032 + IntKind.wrap IntKind.i64 (20 * n18)) + 20) ∧
                                       IntKind.wrap IntKind.i64 (IntKind.wrap IntKind.i64 (1032 + IntKind.wrap IntKind.i64 (20 * n18)) + 20) ≤ (↑(ByteArray.size x0) : Int))) ∧
                                     ∃ I20 : World → Prop, ((((decide (n18 > 0) = true →
                                         ((0 ≤ IntKind.wrap IntKind.i64 (IntKind.wrap IntKind.i64 (1032 + IntKind.wrap IntKind.i64 (20 * n18)) - 20) ∧
                                           (IntKind.wrap IntKind.i64 (IntKind.wrap IntKind.i64 (1032 + IntKind.wrap IntKind.i64 (20 * n18)) - 20) ≤ IntKind.wrap IntKind.i64 (1032 + IntKind.wrap IntKind.i64 (20 * n18)) ∧
                                            IntKind.wrap IntKind.i64 (1032 + IntKind.wrap IntKind.i64 (20 * n18)) ≤ (↑(ByteArray.size x0) : Int))) ∧
                                          ((((!Op.bytesLess (ByteArray.toList (ByteArray.extract x0 (Int.toNat (IntKind.wrap IntKind.i64 (IntKind.wrap IntKind.i64 (1032 + IntKind.wrap IntKind.i64 (20 * n18)) - 20))) (Int.toNat (IntKind.wrap IntKind.i64 (1032 + IntKind.wrap IntKind.i64 (20 * n18)))))) (ByteArray.toList (ByteArray.extract x0 (Int.toNat (IntKind.wrap IntKind.i64 (1032 + IntKind.wrap IntKind.i64 (20 * n18)))) (Int.toNat (IntKind.wrap IntKind.i64 (IntKind.wrap IntKind.i64 (1032 + IntKind.wrap IntKind.i64 (20 * n18)) + 20)))))) = true →
                                             ∀ w21 : World,
                                             (Drew w19 w21 →
                                               R (Value.tuple (Array.mk [Value.pointer none, Value.int IntKind.i64 3])) w21))) ∧
                                           ((!Op.bytesLess (ByteArray.toList (ByteArray.extract x0 (Int.toNat (IntKind.wrap IntKind.i64 (IntKind.wrap IntKind.i64 (1032 + IntKind.wrap IntKind.i64 (20 * n18)) - 20))) (Int.toNat (IntKind.wrap IntKind.i64 (1032 + IntKind.wrap IntKind.i64 (20 * n18)))))) (ByteArray.toList (ByteArray.extract x0 (Int.toNat (IntKind.wrap IntKind.i64 (1032 + IntKind.wrap IntKind.i64 (20 * n18)))) (Int.toNat (IntKind.wrap IntKind.i64 (IntKind.wrap IntKind.i64 (1032 + IntKind.wrap IntKind.i64 (20 * n18)) + 20)))))) = false →
                                             (((0 : Int) ≤ (0 : Int) ∧
                                               0 < (↑(ByteArray.size (ByteArray.extract x0 (Int.toNat (IntKind.wrap IntKind.i64 (1032 + IntKind.wrap IntKind.i64 (20 * n18)))) (Int.toNat (IntKind.wrap IntKind.i64 (IntKind.wrap IntKind.i64 (1032 + IntKind.wrap IntKind.i64 (20 * n18)) + 20))))) : Int)) ∧
                                              ((0 ≤ byteAt (ByteArray.extract x0 (Int.toNat (IntKind.wrap IntKind.i64 (1032 + IntKind.wrap IntKind.i64 (20 * n18)))) (Int.toNat (IntKind.wrap IntKind.i64 (IntKind.wrap IntKind.i64 (1032 + IntKind.wrap IntKind.i64 (20 * n18)) + 20)))) 0 ∧
                                                byteAt (ByteArray.extract x0 (Int.toNat (IntKind.wrap IntKind.i64 (1032 + IntKind.wrap IntKind.i64 (20 * n18)))) (Int.toNat (IntKind.wrap IntKind.i64 (IntKind.wrap IntKind.i64 (1032 + IntKind.wrap IntKind.i64 (20 * n18)) + 20)))) 0 < (↑257 : Int)) ∧
                                               ∃ n22 : Int, (World.cell? w19 (Addr.add (Addr.mk (Array.size (World.heap w)) 1 none) (Int.toNat (byteAt (ByteArray.extract x0 (Int.toNat (IntKind.wrap IntKind.i64 (1032 + IntKind.wrap IntKind.i64 (20 * n18)))) (Int.toNat (IntKind.wrap IntKind.i64 (IntKind.wrap IntKind.i64 (1032 + IntKind.wrap IntKind.i64 (20 * n18)) + 20)))) 0) * 1)) = some (Value.int IntKind.i64 n22) ∧
                                                (((decide (n18 < n22) = true →
                                                   ∀ w23 : World,
                                                   (Drew w19 w23 →
                                                     R (Value.tuple (Array.mk [Value.pointer none, Value.int IntKind.i64 3])) w23))) ∧
                                                 (decide (n18 < n22) = false →
                                                   (((0 : Int) ≤ (0 : Int) ∧
                                                     0 < (↑(ByteArray.size (ByteArray.extract x0 (Int.toNat (IntKind.wrap IntKind.i64 (1032 + IntKind.wrap IntKind.i64 (20 * n18)))) (Int.toNat (IntKind.wrap IntKind.i64 (IntKind.wrap IntKind.i64 (1032 + IntKind.wrap IntKind.i64 (20 * n18)) + 20))))) : Int)) ∧
                                                    ((0 ≤ IntKind.wrap IntKind.i64 (IntKind.wrap IntKind.i64 (byteAt (ByteArray.extract x0 (Int.toNat (IntKind.wrap IntKind.i64 (1032 + IntKind.wrap IntKind.i64 (20 * n18)))) (Int.toNat (IntKind.wrap IntKind.i64 (IntKind.wrap IntKind.i64 (1032 + IntKind.wrap IntKind.i64 (20 * n18)) + 20)))) 0) + 1) ∧
                                                      IntKind.wrap IntKind.i64 (IntKind.wrap IntKind.i64 (byteAt (ByteArray.extract x0 (Int.toNat (IntKind.wrap IntKind.i64 (1032 + IntKind.wrap IntKind.i64 (20 * n18)))) (Int.toNat (IntKind.wrap IntKind.i64 (IntKind.wrap IntKind.i64 (1032 + IntKind.wrap IntKind.i64 (20 * n18)) + 20)))) 0) + 1) < (↑257 : Int)) ∧
                                                     ∃ n24 : Int, (World.cell? w19 (Addr.add (Addr.mk (Array.size (World.heap w)) 1 none) (Int.toNat (IntKind.wrap IntKind.i64 (IntKind.wrap IntKind.i64 (byteAt (ByteArray.extract x0 (Int.toNat (IntKind.wrap IntKind.i64 (1032 + IntKind.wrap IntKind.i64 (20 * n18)))) (Int.toNat (IntKind.wrap IntKind.i64 (IntKind.wrap IntKind.i64 (1032 + IntKind.wrap IntKind.i64 (20 * n18)) + 20)))) 0) + 1)) * 1)) = some (Value.int IntKind.i64 n24) ∧
                                                      ∀ w25 : World,
                                                      (Drew w19 w25 →
                                                        (((decide (n18 ≥ n24) = true →
                                                           R (Value.tuple (Array.mk [Value.pointer none, Value.int IntKind.i64 3])) w25)) ∧
                                                         (decide (n18 ≥ n24) = false →
                                                           I20 w25)))))))))))))))) ∧
                                       (decide (n18 > 0) = false →
                                         (((0 : Int) ≤ (0 : Int) ∧
                                           0 < (↑(ByteArray.size (ByteArray.extract x0 (Int.toNat (IntKind.wrap IntKind.i64 (1032 + IntKind.wrap IntKind.i64 (20 * n18)))) (Int.toNat (IntKind.wrap IntKind.i64 (IntKind.wrap IntKind.i64 (1032 + IntKind.wrap IntKind.i64 (20 * n18)) + 20))))) : Int)) ∧
                                          ((0 ≤ byteAt (ByteArray.extract x0 (Int.toNat (IntKind.wrap IntKind.i64 (1032 + IntKind.wrap IntKind.i64 (20 * n18)))) (Int.toNat (IntKind.wrap IntKind.i64 (IntKind.wrap IntKind.i64 (1032 + IntKind.wrap IntKind.i64 (20 * n18)) + 20)))) 0 ∧
                                            byteAt (ByteArray.extract x0 (Int.toNat (IntKind.wrap IntKind.i64 (1032 + IntKind.wrap IntKind.i64 (20 * n18)))) (Int.toNat (IntKind.wrap IntKind.i64 (IntKind.wrap IntKind.i64 (1032 + IntKind.wrap IntKind.i64 (20 * n18)) + 20)))) 0 < (↑257 : Int)) ∧
                                           ∃ n26 : Int, (World.cell? w19 (Addr.add (Addr.mk (Array.size (World.heap w)) 1 none) (Int.toNat (byteAt (ByteArray.extract x0 (Int.toNat (IntKind.wrap IntKind.i64 (1032 + IntKind.wrap IntKind.i64 (20 * n18)))) (Int.toNat (IntKind.wrap IntKind.i64 (IntKind.wrap IntKind.i64 (1032 + IntKind.wrap IntKind.i64 (20 * n18)) + 20)))) 0) * 1)) = some (Value.int IntKind.i64 n26) ∧
                                            (((decide (n18 < n26) = true →
                                               ∀ w27 : World,
                                               (Drew w19 w27 →
                                                 R (Value.tuple (Array.mk [Value.pointer none, Value.int IntKind.i64 3])) w27))) ∧
                                             (decide (n18 < n26) = false →
                                               (((0 : Int) ≤ (0 : Int) ∧
                                                 0 < (↑(ByteArray.size (ByteArray.extract x0 (Int.toNat (IntKind.wrap IntKind.i64 (1032 + IntKind.wrap IntKind.i64 (20 * n18)))) (Int.toNat (IntKind.wrap IntKind.i64 (IntKind.wrap IntKind.i64 (1032 + IntKind.wrap IntKind.i64 (20 * n18)) + 20))))) : Int)) ∧
                                                ((0 ≤ IntKind.wrap IntKind.i64 (IntKind.wrap IntKind.i64 (byteAt (ByteArray.extract x0 (Int.toNat (IntKind.wrap IntKind.i64 (1032 + IntKind.wrap IntKind.i64 (20 * n18)))) (Int.toNat (IntKind.wrap IntKind.i64 (IntKind.wrap IntKind.i64 (1032 + IntKind.wrap IntKind.i64 (20 * n18)) + 20)))) 0) + 1) ∧
                                                  IntKind.wrap IntKind.i64 (IntKind.wrap IntKind.i64 (byteAt (ByteArray.extract x0 (Int.toNat (IntKind.wrap IntKind.i64 (1032 + IntKind.wrap IntKind.i64 (20 * n18)))) (Int.toNat (IntKind.wrap IntKind.i64 (IntKind.wrap IntKind.i64 (1032 + IntKind.wrap IntKind.i64 (20 * n18)) + 20)))) 0) + 1) < (↑257 : Int)) ∧
                                                 ∃ n28 : Int, (World.cell? w19 (Addr.add (Addr.mk (Array.size (World.heap w)) 1 none) (Int.toNat (IntKind.wrap IntKind.i64 (IntKind.wrap IntKind.i64 (byteAt (ByteArray.extract x0 (Int.toNat (IntKind.wrap IntKind.i64 (1032 + IntKind.wrap IntKind.i64 (20 * n18)))) (Int.toNat (IntKind.wrap IntKind.i64 (IntKind.wrap IntKind.i64 (1032 + IntKind.wrap IntKind.i64 (20 * n18)) + 20)))) 0) + 1)) * 1)) = some (Value.int IntKind.i64 n28) ∧
                                                  ∀ w29 : World,
                                                  (Drew w19 w29 →
                                                    (((decide (n18 ≥ n28) = true →
                                                       R (Value.tuple (Array.mk [Value.pointer none, Value.int IntKind.i64 3])) w29)) ∧
                                                     (decide (n18 ≥ n28) = false →
                                                       I20 w29))))))))))))) ∧
                                      ∀ w30 : World,
                                      (I20 w30 →
                                        ((0 ≤ IntKind.wrap IntKind.i64 (IntKind.wrap IntKind.i64 (1032 + IntKind.wrap IntKind.i64 (24 * n15)) + IntKind.wrap IntKind.i64 (4 * n18)) ∧
                                          (IntKind.wrap IntKind.i64 (IntKind.wrap IntKind.i64 (1032 + IntKind.wrap IntKind.i64 (24 * n15)) + IntKind.wrap IntKind.i64 (4 * n18)) ≤ IntKind.wrap IntKind.i64 (IntKind.wrap IntKind.i64 (IntKind.wrap IntKind.i64 (1032 + IntKind.wrap IntKind.i64 (24 * n15)) + IntKind.wrap IntKind.i64 (4 * n18)) + 4) ∧
                                           IntKind.wrap IntKind.i64 (IntKind.wrap IntKind.i64 (IntKind.wrap IntKind.i64 (1032 + IntKind.wrap IntKind.i64 (24 * n15)) + IntKind.wrap IntKind.i64 (4 * n18)) + 4) ≤ (↑(ByteArray.size x0) : Int))) ∧
                                         Calls Try.prog (26 : Nat) (Array.mk [Value.string (ByteArray.extract x0 (Int.toNat (IntKind.wrap IntKind.i64 (IntKind.wrap IntKind.i64 (1032 + IntKind.wrap IntKind.i64 (24 * n15)) + IntKind.wrap IntKind.i64 (4 * n18)))) (Int.toNat (IntKind.wrap IntKind.i64 (IntKind.wrap IntKind.i64 (IntKind.wrap IntKind.i64 (1032 + IntKind.wrap IntKind.i64 (24 * n15)) + IntKind.wrap IntKind.i64 (4 * n18)) + 4))))]) (w30) (fun e31 w32 =>
                                           ∃ n33 : Int, (e31 = Ending.returned (Value.int IntKind.u64 n33) ∧
                                            ∃ I34 : Int → World → Prop, ((((decide (n33 ≥ 2147483648) = true →
                                                ((8 : Int) ≠ (0 : Int) ∧
                                                 (((decide (IntKind.wrap IntKind.i64 (IntKind.wrap IntKind.u64 (n33 - 2147483648)) ≥ IntKind.wrap IntKind.i64 (Int.tdiv (↑(ByteArray.size (ByteArray.extract x0 (Int.toNat (IntKind.wrap IntKind.i64 (1032 + IntKind.wrap IntKind.i64 (28 * n15)))) (Int.toNat (IntKind.wrap IntKind.i64 ((↑(ByteArray.size x0) : Int) - 40))))) : Int) 8)) = true →
                                                    R (Value.tuple (Array.mk [Value.pointer none, Value.int IntKind.i64 3])) w32)) ∧
                                                  (decide (IntKind.wrap IntKind.i64 (IntKind.wrap IntKind.u64 (n33 - 2147483648)) ≥ IntKind.wrap IntKind.i64 (Int.tdiv (↑(ByteArray.size (ByteArray.extract x0 (Int.toNat (IntKind.wrap IntKind.i64 (1032 + IntKind.wrap IntKind.i64 (28 * n15)))) (Int.toNat (IntKind.wrap IntKind.i64 ((↑(ByteArray.size x0) : Int) - 40))))) : Int) 8)) = false →
                                                    ((0 ≤ IntKind.wrap IntKind.i64 (8 * IntKind.wrap IntKind.i64 (IntKind.wrap IntKind.u64 (n33 - 2147483648))) ∧
                                                      (IntKind.wrap IntKind.i64 (8 * IntKind.wrap IntKind.i64 (IntKind.wrap IntKind.u64 (n33 - 2147483648))) ≤ IntKind.wrap IntKind.i64 (IntKind.wrap IntKind.i64 (8 * IntKind.wrap IntKind.i64 (IntKind.wrap IntKind.u64 (n33 - 2147483648))) + 8) ∧
                                                       IntKind.wrap IntKind.i64 (IntKind.wrap IntKind.i64 (8 * IntKind.wrap IntKind.i64 (IntKind.wrap IntKind.u64 (n33 - 2147483648))) + 8) ≤ (↑(ByteArray.size (ByteArray.extract x0 (Int.toNat (IntKind.wrap IntKind.i64 (1032 + IntKind.wrap IntKind.i64 (28 * n15)))) (Int.toNat (IntKind.wrap IntKind.i64 ((↑(ByteArray.size x0) : Int) - 40))))) : Int))) ∧
                                                     Calls Try.prog (26 : Nat) (Array.mk [Value.string (ByteArray.extract (ByteArray.extract x0 (Int.toNat (IntKind.wrap IntKind.i64 (1032 + IntKind.wrap IntKind.i64 (28 * n15)))) (Int.toNat (IntKind.wrap IntKind.i64 ((↑(ByteArray.size x0) : Int) - 40)))) (Int.toNat (IntKind.wrap IntKind.i64 (8 * IntKind.wrap IntKind.i64 (IntKind.wrap IntKind.u64 (n33 - 2147483648))))) (Int.toNat (IntKind.wrap IntKind.i64 (IntKind.wrap IntKind.i64 (8 * IntKind.wrap IntKind.i64 (IntKind.wrap IntKind.u64 (n33 - 2147483648))) + 8))))]) (w32) (fun e35 w36 =>
                                                       ∃ n37 : Int, (e35 = Ending.returned (Value.int IntKind.u64 n37) ∧
                                                        I34 n37 w36)))))))) ∧
                                              (decide (n33 ≥ 2147483648) = false →
                                                I34 n33 w32)) ∧
                                             ∀ n38 : Int,
                                             ∀ w39 : World,
                                             (I34 n38 w39 →
                                               (((decide (n38 > 1099511627776) = true →
                                                  R (Value.tuple (Array.mk [Value.pointer none, Value.int IntKind.i64 2])) w39)) ∧
                                                (decide (n38 > 1099511627776) = false →
                                                  ∀ w40 : World,
                                                  (Drew w39 w40 →
                                                    ∃ I41 : World → Prop, (I41 w40 ∧
                                                     ∃ l42 : Sl, ((∀ w43 : World,
                                                      (I41 w43 →
                                                        World.cell? w43 (Addr.mk (Array.size (World.heap w)) 0 none) = some (Value.slice l42.1 l42.2 l42.3))) ∧
                                                      ((0 ≤ IntKind.wrap IntKind.i64 (IntKind.wrap IntKind.i64 (1032 + IntKind.wrap IntKind.i64 (20 * n15)) + IntKind.wrap IntKind.i64 (4 * n18)) ∧
                                                        (IntKind.wrap IntKind.i64 (IntKind.wrap IntKind.i64 (1032 + IntKind.wrap IntKind.i64 (20 * n15)) + IntKind.wrap IntKind.i64 (4 * n18)) ≤ IntKind.wrap IntKind.i64 (IntKind.wrap IntKind.i64 (IntKind.wrap IntKind.i64 (1032 + IntKind.wrap IntKind.i64 (20 * n15)) + IntKind.wrap IntKind.i64 (4 * n18)) + 4) ∧
                                                         IntKind.wrap IntKind.i64 (IntKind.wrap IntKind.i64 (IntKind.wrap IntKind.i64 (1032 + IntKind.wrap IntKind.i64 (20 * n15)) + IntKind.wrap IntKind.i64 (4 * n18)) + 4) ≤ (↑(ByteArray.size x0) : Int))) ∧
                                                       Calls Try.prog (27 : Nat) (Array.mk [Value.string (ByteArray.extract x0 (Int.toNat (IntKind.wrap IntKind.i64 (1032 + IntKind.wrap IntKind.i64 (20 * n18)))) (Int.toNat (IntKind.wrap IntKind.i64 (IntKind.wrap IntKind.i64 (1032 + IntKind.wrap IntKind.i64 (20 * n18)) + 20))))]) (w40) (fun e44 w45 =>
                                                         ∃ s46 : ByteArray, (e44 = Ending.returned (Value.string s46) ∧
                                                          (I41 w45 ∧
                                                           Calls Try.prog (26 : Nat) (Array.mk [Value.string (ByteArray.extract x0 (Int.toNat (IntKind.wrap IntKind.i64 (IntKind.wrap IntKind.i64 (1032 + IntKind.wrap IntKind.i64 (20 * n15)) + IntKind.wrap IntKind.i64 (4 * n18)))) (Int.toNat (IntKind.wrap IntKind.i64 (IntKind.wrap IntKind.i64 (IntKind.wrap IntKind.i64 (1032 + IntKind.wrap IntKind.i64 (20 * n15)) + IntKind.wrap IntKind.i64 (4 * n18)) + 4))))]) (w45) (fun e47 w48 =>
                                                             ∃ n49 : Int, (e47 = Ending.returned (Value.int IntKind.u64 n49) ∧
                                                              (I41 w48 ∧
                                                               ∀ w50 : World,
                                                               (w50 = World.alloc w48 (Obj.cells (Array.mk [Value.string s46, Value.int IntKind.i64 (IntKind.wrap IntKind.i64 n38), Value.int IntKind.u32 (IntKind.wrap IntKind.u32 n49)]) 32) →
                                                                 (I41 w50 ∧
                                                                  ∃ w51 : World, ∃ l52 : Sl, (Sem.run Try.prog (Builtin.append_ (Array.mk [22, 22]) 22 (Array.mk [Value.slice l42.1 l42.2 l42.3, Value.slice (some (Addr.mk (Array.size (World.heap w48)) 0 none)) 1 1])) w50 = Result.ok (Value.slice l52.1 l52.2 l52.3) w51 ∧
                                                                   (I41 w51 ∧
                                                                    (Wr w51 (Addr.mk (Array.size (World.heap w)) 0 none) ∧
                                                                     ∀ w53 : World,
                                                                     (w53 = World.setCell w51 (Addr.mk (Array.size (World.heap w)) 0 none) (Value.slice l52.1 l52.2 l52.3) →
                                                                       (I16 (IntKind.wrap IntKind.i64 (n18 + 1)) w53 ∧
                                                                        I17 (IntKind.wrap IntKind.i64 (n18 + 1)) w53 < I17 n18 w19))))))))))))))))))))))))))))) ∧
                                  (decide (n18 < n15) = false →
                                    ∀ w54 : World,
                                    (Drew w19 w54 →
                                      ∃ I55 : World → Prop, (I55 w54 ∧
                                       ((0 ≤ IntKind.wrap IntKind.i64 ((↑(ByteArray.size x0) : Int) - 20) ∧
                                         IntKind.wrap IntKind.i64 ((↑(ByteArray.size x0) : Int) - 20) ≤ (↑(ByteArray.size x0) : Int)) ∧
                                        ((0 ≤ IntKind.wrap IntKind.i64 ((↑(ByteArray.size x0) : Int) - 20) ∧
                                          IntKind.wrap IntKind.i64 ((↑(ByteArray.size x0) : Int) - 20) ≤ (↑(ByteArray.size x0) : Int)) ∧
                                         Calls Try.prog (24 : Nat) (Array.mk [Value.string (ByteArray.extract x0 0 (Int.toNat (IntKind.wrap IntKind.i64 ((↑(ByteArray.size x0) : Int) - 20))))]) (w54) (fun e56 w57 =>
                                           ∃ s58 : ByteArray, (e56 = Ending.returned (Value.string s58) ∧
                                            (I55 w57 ∧
                                             ((((!ByteArray.toList s58 == ByteArray.toList (ByteArray.extract x0 (Int.toNat (IntKind.wrap IntKind.i64 ((↑(ByteArray.size x0) : Int) - 20))) (ByteArray.size x0))) = true →
                                                R (Value.tuple (Array.mk [Value.pointer none, Value.int IntKind.i64 5])) w57)) ∧
                                              ((!ByteArray.toList s58 == ByteArray.toList (ByteArray.extract x0 (Int.toNat (IntKind.wrap IntKind.i64 ((↑(ByteArray.size x0) : Int) - 20))) (ByteArray.size x0))) = false →
                                                ((0 ≤ IntKind.wrap IntKind.i64 ((↑(ByteArray.size x0) : Int) - 40) ∧
                                                  (IntKind.wrap IntKind.i64 ((↑(ByteArray.size x0) : Int) - 40) ≤ IntKind.wrap IntKind.i64 ((↑(ByteArray.size x0) : Int) - 20) ∧
                                                   IntKind.wrap IntKind.i64 ((↑(ByteArray.size x0) : Int) - 20) ≤ (↑(ByteArray.size x0) : Int))) ∧
                                                 Calls Try.prog (27 : Nat) (Array.mk [Value.string (ByteArray.extract x0 (Int.toNat (IntKind.wrap IntKind.i64 ((↑(ByteArray.size x0) : Int) - 40))) (Int.toNat (IntKind.wrap IntKind.i64 ((↑(ByteArray.size x0) : Int) - 20))))]) (w57) (fun e59 w60 =>
                                                   ∃ s61 : ByteArray, (e59 = Ending.returned (Value.string s61) ∧
                                                    (Wr w60 (Addr.mk (Array.size (World.heap w)) 258 none) ∧
                                                     ∀ w62 : World,
                                                     (w62 = World.setCell w60 (Addr.mk (Array.size (World.heap w)) 258 none) (Value.string s61) →
                                                       R (Value.tuple (Array.mk [Value.pointer (some (Addr.mk (Array.size (World.heap w)) 0 none)), Value.int IntKind.i64 0])) w62))))))))))))))))))))))))))))))))))))))
theorem vc_packidx_Parse_ok {x0 : ByteArray} {w : World} {R : Value → World → Prop} {R' : Ending → World → Prop} (h : vc_packidx_Parse x0 w R) (hR : ∀ v w', R v w' → R' (.returned v) w') :
    Calls Try.prog 8 #[.string x0] w R' :=
  calls_of_body (vs := [(.string x0, false)]) (ty := ty) (ann := ⟨[(27, []), (33, [(10, .int .u64)])], [(7, [(20, .int .i64)]), (22, [(81, .int .i64)])], [(9, .held [(0, true), (1, true), (2, true), (3, true), (4, true), (5, true), (6, true), (7, true), (8, true), (9, true), (10, true), (13, true), (14, true), (11, false), (12, true), (15, true), (16, false)]), (10, .quiet), (25, .quiet), (35, .held [(0, true), (1, true), (2, true), (3, true), (4, true), (5, true), (7, true), (8, true), (9, true), (10, true), (11, true), (12, true), (13, true), (14, true), (15, true), (16, true), (17, true), (18, true), (19, true), (20, true), (21, true), (22, true), (23, true), (6, false), (24, false), (25, true), (26, true), (27, false), (28, false), (29, true), (30, true), (31, false)]), (37, .held [(0, true), (1, true), (2, true), (3, true), (4, true), (6, true), (7, true), (8, true), (9, true), (10, true), (5, false), (11, true)])], []⟩) (c := Try.f8.body.getD .skip) (by kernel_rfl) Try.func8 (by kernel_rfl) (by kernel_rfl) (Eq.mp (by kernel_rfl) h) hR
end Go.Proofs.Ytoagdpjickippaa

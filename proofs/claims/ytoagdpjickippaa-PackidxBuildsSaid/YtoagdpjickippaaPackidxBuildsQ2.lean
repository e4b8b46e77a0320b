/- Texts of this seat in one: made by a program of ours. -/
import Derived.Test.YtoagdpjickippaaPackidxBuildsQ0
import Derived.Test.YtoagdpjickippaaPackidxBuildsQ1
import Derived.Test.YtoagdpjickippaaProg
import Derived.Laws.IdiomCopy
import Derived.Laws.IdiomStrings
import Derived.Shelf.Lays
import Derived.Shelf.Strings.BuilderX
/- Formulas of 1 Go functions of this seat (written by a program of the author's, vcgen.py), and that each is enough for the call. No condition. -/
set_option linter.unusedVariables false
namespace Go.Proofs.Ytoagdpjickippaa
open Go Vc Go.Proofs
set_option maxRecDepth 100000
/-- packidx.Parse -/
def vc_packidx_Parse (x0 : ByteArray) (w : World) (R : Value → World → Prop) : Prop :=
  (((decide ((↑(ByteArray.size x0) : Int) < 1072) = true →
     R (Value.tuple (Array.mk [Value.pointer none, Value.int IntKind.i64 6])) w)) ∧
   (decide ((↑(ByteArray.size x0) : Int) < 1072) = false →
     (((0 : Int) ≤ (8 : Int) ∧
       8 ≤ (↑(ByteArray.size x0) : Int)) ∧
      ((((!ByteArray.toList (ByteArray.extract x0 0 (Int.toNat 8)) == ByteArray.toList (ByteArray.mk (Array.mk [255, 116, 79, 99, 0, 0, 0, 2]))) = true →
         R (Value.tuple (Array.mk [Value.pointer none, Value.int IntKind.i64 3])) w)) ∧
       ((!ByteArray.toList (ByteArray.extract x0 0 (Int.toNat 8)) == ByteArray.toList (ByteArray.mk (Array.mk [255, 116, 79, 99, 0, 0, 0, 2]))) = false →
         ∀ w1 : World,
         (w1 = World.alloc w (Obj.cells (Array.mk [Value.slice none 0 0, Value.int IntKind.i64 0, Value.int IntKind.i64 0, Value.int IntKind.i64 0, Value.int IntKind.i64 0, Value.int IntKind.i64 0, Value.int IntKind.i64 0, Value.int IntKind.i64 0, Value.int IntKind.i64 0, Value.int IntKind.i64 0, Value.int IntKind.i64 0, Value.int IntKind.i64 0, Value.int IntKind.i64 0, Value.int IntKind.i64 0, Value.int IntKind.i64 0, Value.int IntKind.i64 0, Value.int IntKind.i64 0, Value.int IntKind.i64 0, Value.int IntKind.i64 0, Value.int IntKind.i64 0, Value.int IntKind.i64 0, Value.int IntKind.i64 0, Value.int IntKind.i64 0, Value.int IntKind.i64 0, Value.int IntKind.i64 0, Value.int IntKind.i64 0, Value.int IntKind.i64 0, Value.int IntKind.i64 0, Value.int IntKind.i64 0, Value.int IntKind.i64 0, Value.int IntKind.i64 0, Value.int IntKind.i64 0, Value.int IntKind.i64 0, Value.int IntKind.i64 0, Value.int IntKind.i64 0, Value.int IntKind.i64 0, Value.int IntKind.i64 0, Value.int IntKind.i64 0, Value.int IntKind.i64 0, Value.int IntKind.i64 0, Value.int IntKind.i64 0, Value.int IntKind.i64 0, Value.int IntKind.i64 0, Value.int IntKind.i64 0, Value.int IntKind.i64 0, Value.int IntKind.i64 0, Value.int IntKind.i64 0, Value.int IntKind.i64 0, Value.int IntKind.i64 0, Value.int IntKind.i64 0, Value.int IntKind.i64 0, Value.int IntKind.i64 0, Value.int IntKind.i64 0, Value.int IntKind.i64 0, Value.int IntKind.i64 0, Value.int IntKind.i64 0, Value.int IntKind.i64 0, Value.int IntKind.i64 0, Value.int IntKind.i64 0, Value.int IntKind.i64 0, Value.int IntKind.i64 0, Value.int IntKind.i64 0, Value.int IntKind.i64 0, Value.int IntKind.i64 0, Value.int IntKind.i64 0, Value.int IntKind.i64 0, Value.int IntKind.i64 0, Value.int IntKind.i64 0, Value.int IntKind.i64 0, Value.int IntKind.i64 0, Value.int IntKind.i64 0, Value.int IntKind.i64 0, Value.int IntKind.i64 0, Value.int IntKind.i64 0, Value.int IntKind.i64 0, Value.int IntKind.i64 0, Value.int IntKind.i64 0, Value.int IntKind.i64 0, Value.int IntKind.i64 0, Value.int IntKind.i64 0, Value.int IntKind.i64 0, Value.int IntKind.i64 0, Value.int IntKind.i64 0, Value.int IntKind.i64 0, Value.int IntKind.i64 0, Value.int IntKind.i64 0, Value.int IntKind.i64 0, Value.int IntKind.i64 0, Value.int IntKind.i64 0, Value.int IntKind.i64 0, Value.int IntKind.i64 0, Value.int IntKind.i64 0, Value.int IntKind.i64 0, Value.int IntKind.i64 0, Value.int IntKind.i64 0, Value.int IntKind.i64 0, Value.int IntKind.i64 0, Value.int IntKind.i64 0, Value.int IntKind.i64 0, Value.int IntKind.i64 0, Value.int IntKind.i64 0, Value.int IntKind.i64 0, Value.int IntKind.i64 0, Value.int IntKind.i64 0, Value.int IntKind.i64 0, Value.int IntKind.i64 0, Value.int IntKind.i64 0, Value.int IntKind.i64 0, Value.int IntKind.i64 0, Value.int IntKind.i64 0, Value.int IntKind.i64 0, Value.int IntKind.i64 0, Value.int IntKind.i64 0, Value.int IntKind.i64 0, Value.int IntKind.i64 0, Value.int IntKind.i64 0, Value.int IntKind.i64 0, Value.int IntKind.i64 0, Value.int IntKind.i64 0, Value.int IntKind.i64 0, Value.int IntKind.i64 0, Value.int IntKind.i64 0, Value.int IntKind.i64 0, Value.int IntKind.i64 0, Value.int IntKind.i64 0, Value.int IntKind.i64 0, Value.int IntKind.i64 0, Value.int IntKind.i64 0, Value.int IntKind.i64 0, Value.int IntKind.i64 0, Value.int IntKind.i64 0, Value.int IntKind.i64 0, Value.int IntKind.i64 0, Value.int IntKind.i64 0, Value.int IntKind.i64 0, Value.int IntKind.i64 0, Value.int IntKind.i64 0, Value.int IntKind.i64 0, Value.int IntKind.i64 0, Value.int IntKind.i64 0, Value.int IntKind.i64 0, Value.int IntKind.i64 0, Value.int IntKind.i64 0, Value.int IntKind.i64 0, Value.int IntKind.i64 0, Value.int IntKind.i64 0, Value.int IntKind.i64 0, Value.int IntKind.i64 0, Value.int IntKind.i64 0, Value.int IntKind.i64 0, Value.int IntKind.i64 0, Value.int IntKind.i64 0, Value.int IntKind.i64 0, Value.int IntKind.i64 0, Value.int IntKind.i64 0, Value.int IntKind.i64 0, Value.int IntKind.i64 0, Value.int IntKind.i64 0, Value.int IntKind.i64 0, Value.int IntKind.i64 0, Value.int IntKind.i64 0, Value.int IntKind.i64 0, Value.int IntKind.i64 0, Value.int IntKind.i64 0, Value.int IntKind.i64 0, Value.int IntKind.i64 0, Value.int IntKind.i64 0, Value.int IntKind.i64 0, Value.int IntKind.i64 0, Value.int IntKind.i64 0, Value.int IntKind.i64 0, Value.int IntKind.i64 0, Value.int IntKind.i64 0, Value.int IntKind.i64 0, Value.int IntKind.i64 0, Value.int IntKind.i64 0, Value.int IntKind.i64 0, Value.int IntKind.i64 0, Value.int IntKind.i64 0, Value.int IntKind.i64 0, Value.int IntKind.i64 0, Value.int IntKind.i64 0, Value.int IntKind.i64 0, Value.int IntKind.i64 0, Value.int IntKind.i64 0, Value.int IntKind.i64 0, Value.int IntKind.i64 0, Value.int IntKind.i64 0, Value.int IntKind.i64 0, Value.int IntKind.i64 0, Value.int IntKind.i64 0, Value.int IntKind.i64 0, Value.int IntKind.i64 0, Value.int IntKind.i64 0, Value.int IntKind.i64 0, Value.int IntKind.i64 0, Value.int IntKind.i64 0, Value.int IntKind.i64 0, Value.int IntKind.i64 0, Value.int IntKind.i64 0, Value.int IntKind.i64 0, Value.int IntKind.i64 0, Value.int IntKind.i64 0, Value.int IntKind.i64 0, Value.int IntKind.i64 0, Value.int IntKind.i64 0, Value.int IntKind.i64 0, Value.int IntKind.i64 0, Value.int IntKind.i64 0, Value.int IntKind.i64 0, Value.int IntKind.i64 0, Value.int IntKind.i64 0, Value.int IntKind.i64 0, Value.int IntKind.i64 0, Value.int IntKind.i64 0, Value.int IntKind.i64 0, Value.int IntKind.i64 0, Value.int IntKind.i64 0, Value.int IntKind.i64 0, Value.int IntKind.i64 0, Value.int IntKind.i64 0, Value.int IntKind.i64 0, Value.int IntKind.i64 0, Value.int IntKind.i64 0, Value.int IntKind.i64 0, Value.int IntKind.i64 0, Value.int IntKind.i64 0, Value.int IntKind.i64 0, Value.int IntKind.i64 0, Value.int IntKind.i64 0, Value.int IntKind.i64 0, Value.int IntKind.i64 0, Value.int IntKind.i64 0, Value.int IntKind.i64 0, Value.int IntKind.i64 0, Value.int IntKind.i64 0, Value.int IntKind.i64 0, Value.int IntKind.i64 0, Value.int IntKind.i64 0, Value.int IntKind.i64 0, Value.int IntKind.i64 0, Value.int IntKind.i64 0, Value.int IntKind.i64 0, Value.int IntKind.i64 0, Value.int IntKind.i64 0, Value.int IntKind.i64 0, Value.int IntKind.i64 0, Value.int IntKind.i64 0, Value.int IntKind.i64 0, Value.int IntKind.i64 0, Value.int IntKind.i64 0, Value.int IntKind.i64 0, Value.int IntKind.i64 0, Value.int IntKind.i64 0, Value.int IntKind.i64 0, Value.int IntKind.i64 0, Value.int IntKind.i64 0, Value.int IntKind.i64 0, Value.string (ByteArray.mk (Array.mk []))]) 63) →
           ∃ I2 : Int → World → Prop, ∃ I3 : Int → World → Nat, (I2 0 w1 ∧
            ∀ n4 : Int,
            ∀ w5 : World,
            (I2 n4 w5 →
              (((decide (n4 < 256) = true →
                 ∀ w6 : World,
                 (Drew w5 w6 →
                   ∃ I7 : World → Prop, (I7 w6 ∧
                    ((0 ≤ IntKind.wrap IntKind.i64 (8 + IntKind.wrap IntKind.i64 (4 * n4)) ∧
                      (IntKind.wrap IntKind.i64 (8 + IntKind.wrap IntKind.i64 (4 * n4)) ≤ IntKind.wrap IntKind.i64 (12 + IntKind.wrap IntKind.i64 (4 * n4)) ∧
                       IntKind.wrap IntKind.i64 (12 + IntKind.wrap IntKind.i64 (4 * n4)) ≤ (↑(ByteArray.size x0) : Int))) ∧
                     Calls Try.prog (26 : Nat) (Array.mk [Value.string (ByteArray.extract x0 (Int.toNat (IntKind.wrap IntKind.i64 (8 + IntKind.wrap IntKind.i64 (4 * n4)))) (Int.toNat (IntKind.wrap IntKind.i64 (12 + IntKind.wrap IntKind.i64 (4 * n4)))))]) (w6) (fun e8 w9 =>
                       ∃ n10 : Int, (e8 = Ending.returned (Value.int IntKind.u64 n10) ∧
                        (I7 w9 ∧
                         ((0 ≤ IntKind.wrap IntKind.i64 (n4 + 1) ∧
                           IntKind.wrap IntKind.i64 (n4 + 1) < (↑257 : Int)) ∧
                          (Wr w9 (Addr.add (Addr.mk (Array.size (World.heap w)) 1 none) (Int.toNat (IntKind.wrap IntKind.i64 (n4 + 1)) * 1)) ∧
                           ∀ w11 : World,
                           (w11 = World.setCell w9 (Addr.add (Addr.mk (Array.size (World.heap w)) 1 none) (Int.toNat (IntKind.wrap IntKind.i64 (n4 + 1)) * 1)) (Value.int IntKind.i64 (IntKind.wrap IntKind.i64 n10)) →
                             ((0 ≤ IntKind.wrap IntKind.i64 (n4 + 1) ∧
                               IntKind.wrap IntKind.i64 (n4 + 1) < (↑257 : Int)) ∧
                              ∃ n12 : Int, (World.cell? w11 (Addr.add (Addr.mk (Array.size (World.heap w)) 1 none) (Int.toNat (IntKind.wrap IntKind.i64 (n4 + 1)) * 1)) = some (Value.int IntKind.i64 n12) ∧
                               ((0 ≤ n4 ∧
                                 n4 < (↑257 : Int)) ∧
                                ∃ n13 : Int, (World.cell? w11 (Addr.add (Addr.mk (Array.size (World.heap w)) 1 none) (Int.toNat n4 * 1)) = some (Value.int IntKind.i64 n13) ∧
                                 ∀ w14 : World,
                                 (Drew w11 w14 →
                                   (((decide (n12 < n13) = true →
                                      R (Value.tuple (Array.mk [Value.pointer none, Value.int IntKind.i64 3])) w14)) ∧
                                    (decide (n12 < n13) = false →
                                      (I2 (IntKind.wrap IntKind.i64 (n4 + 1)) w14 ∧
                                       I3 (IntKind.wrap IntKind.i64 (n4 + 1)) w14 < I3 n4 w5))))))))))))))))))) ∧
               (decide (n4 < 256) = false →
                 (((0 : Int) ≤ (256 : Int) ∧
                   (256 : Int) < (↑(257 : Nat) : Int)) ∧
                  ∃ n15 : Int, (World.cell? w5 (Addr.add (Addr.mk (Array.size (World.heap w)) 1 none) (Int.toNat 256 * 1)) = some (Value.int IntKind.i64 n15) ∧
                   (((decide (n15 > 1000) = true →
                      R (Value.tuple (Array.mk [Value.pointer none, Value.int IntKind.i64 2])) w5)) ∧
                    (decide (n15 > 1000) = false →
                      (((decide ((↑(ByteArray.size x0) : Int) < IntKind.wrap IntKind.i64 (IntKind.wrap IntKind.i64 (1032 + IntKind.wrap IntKind.i64 (28 * n15)) + 40)) = true →
                         R (Value.tuple (Array.mk [Value.pointer none, Value.int IntKind.i64 6])) w5)) ∧
                       (decide ((↑(ByteArray.size x0) : Int) < IntKind.wrap IntKind.i64 (IntKind.wrap IntKind.i64 (1032 + IntKind.wrap IntKind.i64 (28 * n15)) + 40)) = false →
                         ((0 ≤ IntKind.wrap IntKind.i64 (1032 + IntKind.wrap IntKind.i64 (28 * n15)) ∧
                           (IntKind.wrap IntKind.i64 (1032 + IntKind.wrap IntKind.i64 (28 * n15)) ≤ IntKind.wrap IntKind.i64 ((↑(ByteArray.size x0) : Int) - 40) ∧
                            IntKind.wrap IntKind.i64 ((↑(ByteArray.size x0) : Int) - 40) ≤ (↑(ByteArray.size x0) : Int))) ∧
                          ((8 : Int) ≠ (0 : Int) ∧
                           ((((Int.tmod (↑(ByteArray.size (ByteArray.extract x0 (Int.toNat (IntKind.wrap IntKind.i64 (1032 + IntKind.wrap IntKind.i64 (28 * n15)))) (Int.toNat (IntKind.wrap IntKind.i64 ((↑(ByteArray.size x0) : Int) - 40))))) : Int) 8 != 0) = true →
                              R (Value.tuple (Array.mk [Value.pointer none, Value.int IntKind.i64 3])) w5)) ∧
                            ((Int.tmod (↑(ByteArray.size (ByteArray.extract x0 (Int.toNat (IntKind.wrap IntKind.i64 (1032 + IntKind.wrap IntKind.i64 (28 * n15)))) (Int.toNat (IntKind.wrap IntKind.i64 ((↑(ByteArray.size x0) : Int) - 40))))) : Int) 8 != 0) = false →
                              ∃ I16 : Int → World → Prop, ∃ I17 : Int → World → Nat, (I16 0 w5 ∧
                               ∀ n18 : Int,
                               ∀ w19 : World,
                               (I16 n18 w19 →
                                 (((decide (n18 < n15) = true →
                                    ((0 ≤ IntKind.wrap IntKind.i64 (1032 + IntKind.wrap IntKind.i64 (20 * n18)) ∧
                                      (IntKind.wrap IntKind.i64 (1032 + IntKind.wrap IntKind.i64 (20 * n18)) ≤ IntKind.wrap IntKind.i64 (IntKind.wrap IntKind.i64 (1032 + IntKind.wrap IntKind.i64 (20 * n18)) + 20) ∧
                                       IntKind.wrap IntKind.i64 (IntKind.wrap IntKind.i64 (1032 + IntKind.wrap IntKind.i64 (20 * n18)) + 20) ≤ (↑(ByteArray.size x0) : Int))) ∧
                                     ∃ I20 : World → Prop, ((((decide (n18 > 0) = true →
                                         ((0 ≤ IntKind.wrap IntKind.i64 (IntKind.wrap IntKind.i64 (1032 + IntKind.wrap IntKind.i64 (20 * n18)) - 20) ∧
                                           (IntKind.wrap IntKind.i64 (IntKind.wrap IntKind.i64 (1032 + IntKind.wrap IntKind.i64 (20 * n18)) - 20) ≤ IntKind.wrap IntKind.i64 (1032 + IntKind.wrap IntKind.i64 (20 * n18)) ∧
                                            IntKind.wrap IntKind.i64 (1032 + IntKind.wrap IntKind.i64 (20 * n18)) ≤ (↑(ByteArray.size x0) : Int))) ∧
                                          ((((!Op.bytesLess (ByteArray.toList (ByteArray.extract x0 (Int.toNat (IntKind.wrap IntKind.i64 (IntKind.wrap IntKind.i64 (1032 + IntKind.wrap IntKind.i64 (20 * n18)) - 20))) (Int.toNat (IntKind.wrap IntKind.i64 (1032 + IntKind.wrap IntKind.i64 (20 * n18)))))) (ByteArray.toList (ByteArray.extract x0 (Int.toNat (IntKind.wrap IntKind.i64 (1032 + IntKind.wrap IntKind.i64 (20 * n18)))) (Int.toNat (IntKind.wrap IntKind.i64 (IntKind.wrap IntKind.i64 (1032 + IntKind.wrap IntKind.i64 (20 * n18)) + 20)))))) = true →
                                             ∀ w21 : World,
                                             (Drew w19 w21 →
                                               R (Value.tuple (Array.mk [Value.pointer none, Value.int IntKind.i64 3])) w21))) ∧
                                           ((!Op.bytesLess (ByteArray.toList (ByteArray.extract x0 (Int.toNat (IntKind.wrap IntKind.i64 (IntKind.wrap IntKind.i64 (1032 + IntKind.wrap IntKind.i64 (20 * n18)) - 20))) (Int.toNat (IntKind.wrap IntKind.i64 (1032 + IntKind.wrap IntKind.i64 (20 * n18)))))) (ByteArray.toList (ByteArray.extract x0 (Int.toNat (IntKind.wrap IntKind.i64 (1032 + IntKind.wrap IntKind.i64 (20 * n18)))) (Int.toNat (IntKind.wrap IntKind.i64 (IntKind.wrap IntKind.i64 (1032 + IntKind.wrap IntKind.i64 (20 * n18)) + 20)))))) = false →
                                             (((0 : Int) ≤ (0 : Int) ∧
                                               0 < (↑(ByteArray.size (ByteArray.extract x0 (Int.toNat (IntKind.wrap IntKind.i64 (1032 + IntKind.wrap IntKind.i64 (20 * n18)))) (Int.toNat (IntKind.wrap IntKind.i64 (IntKind.wrap IntKind.i64 (1032 + IntKind.wrap IntKind.i64 (20 * n18)) + 20))))) : Int)) ∧
                                              ((0 ≤ byteAt (ByteArray.extract x0 (Int.toNat (IntKind.wrap IntKind.i64 (1032 + IntKind.wrap IntKind.i64 (20 * n18)))) (Int.toNat (IntKind.wrap IntKind.i64 (IntKind.wrap IntKind.i64 (1032 + IntKind.wrap IntKind.i64 (20 * n18)) + 20)))) 0 ∧
                                                byteAt (ByteArray.extract x0 (Int.toNat (IntKind.wrap IntKind.i64 (1032 + IntKind.wrap IntKind.i64 (20 * n18)))) (Int.toNat (IntKind.wrap IntKind.i64 (IntKind.wrap IntKind.i64 (1032 + IntKind.wrap IntKind.i64 (20 * n18)) + 20)))) 0 < (↑257 : Int)) ∧
                                               ∃ n22 : Int, (World.cell? w19 (Addr.add (Addr.mk (Array.size (World.heap w)) 1 none) (Int.toNat (byteAt (ByteArray.extract x0 (Int.toNat (IntKind.wrap IntKind.i64 (1032 + IntKind.wrap IntKind.i64 (20 * n18)))) (Int.toNat (IntKind.wrap IntKind.i64 (IntKind.wrap IntKind.i64 (1032 + IntKind.wrap IntKind.i64 (20 * n18)) + 20)))) 0) * 1)) = some (Value.int IntKind.i64 n22) ∧
                                                (((decide (n18 < n22) = true →
                                                   ∀ w23 : World,
                                                   (Drew w19 w23 →
                                                     R (Value.tuple (Array.mk [Value.pointer none, Value.int IntKind.i64 3])) w23))) ∧
                                                 (decide (n18 < n22) = false →
                                                   (((0 : Int) ≤ (0 : Int) ∧
                                                     0 < (↑(ByteArray.size (ByteArray.extract x0 (Int.toNat (IntKind.wrap IntKind.i64 (1032 + IntKind.wrap IntKind.i64 (20 * n18)))) (Int.toNat (IntKind.wrap IntKind.i64 (IntKind.wrap IntKind.i64 (1032 + IntKind.wrap IntKind.i64 (20 * n18)) + 20))))) : Int)) ∧
                                                    ((0 ≤ IntKind.wrap IntKind.i64 (IntKind.wrap IntKind.i64 (byteAt (ByteArray.extract x0 (Int.toNat (IntKind.wrap IntKind.i64 (1032 + IntKind.wrap IntKind.i64 (20 * n18)))) (Int.toNat (IntKind.wrap IntKind.i64 (IntKind.wrap IntKind.i64 (1032 + IntKind.wrap IntKind.i64 (20 * n18)) + 20)))) 0) + 1) ∧
                                                      IntKind.wrap IntKind.i64 (IntKind.wrap IntKind.i64 (byteAt (ByteArray.extract x0 (Int.toNat (IntKind.wrap IntKind.i64 (1032 + IntKind.wrap IntKind.i64 (20 * n18)))) (Int.toNat (IntKind.wrap IntKind.i64 (IntKind.wrap IntKind.i64 (1032 + IntKind.wrap IntKind.i64 (20 * n18)) + 20)))) 0) + 1) < (↑257 : Int)) ∧
                                                     ∃ n24 : Int, (World.cell? w19 (Addr.add (Addr.mk (Array.size (World.heap w)) 1 none) (Int.toNat (IntKind.wrap IntKind.i64 (IntKind.wrap IntKind.i64 (byteAt (ByteArray.extract x0 (Int.toNat (IntKind.wrap IntKind.i64 (1032 + IntKind.wrap IntKind.i64 (20 * n18)))) (Int.toNat (IntKind.wrap IntKind.i64 (IntKind.wrap IntKind.i64 (1032 + IntKind.wrap IntKind.i64 (20 * n18)) + 20)))) 0) + 1)) * 1)) = some (Value.int IntKind.i64 n24) ∧
                                                      ∀ w25 : World,
                                                      (Drew w19 w25 →
                                                        (((decide (n18 ≥ n24) = true →
                                                           R (Value.tuple (Array.mk [Value.pointer none, Value.int IntKind.i64 3])) w25)) ∧
                                                         (decide (n18 ≥ n24) = false →
                                                           I20 w25)))))))))))))))) ∧
                                       (decide (n18 > 0) = false →
                                         (((0 : Int) ≤ (0 : Int) ∧
                                           0 < (↑(ByteArray.size (ByteArray.extract x0 (Int.toNat (IntKind.wrap IntKind.i64 (1032 + IntKind.wrap IntKind.i64 (20 * n18)))) (Int.toNat (IntKind.wrap IntKind.i64 (IntKind.wrap IntKind.i64 (1032 + IntKind.wrap IntKind.i64 (20 * n18)) + 20))))) : Int)) ∧
                                          ((0 ≤ byteAt (ByteArray.extract x0 (Int.toNat (IntKind.wrap IntKind.i64 (1032 + IntKind.wrap IntKind.i64 (20 * n18)))) (Int.toNat (IntKind.wrap IntKind.i64 (IntKind.wrap IntKind.i64 (1032 + IntKind.wrap IntKind.i64 (20 * n18)) + 20)))) 0 ∧
                                            byteAt (ByteArray.extract x0 (Int.toNat (IntKind.wrap IntKind.i64 (1032 + IntKind.wrap IntKind.i64 (20 * n18)))) (Int.toNat (IntKind.wrap IntKind.i64 (IntKind.wrap IntKind.i64 (1032 + IntKind.wrap IntKind.i64 (20 * n18)) + 20)))) 0 < (↑257 : Int)) ∧
                                           ∃ n26 : Int, (World.cell? w19 (Addr.add (Addr.mk (Array.size (World.heap w)) 1 none) (Int.toNat (byteAt (ByteArray.extract x0 (Int.toNat (IntKind.wrap IntKind.i64 (1032 + IntKind.wrap IntKind.i64 (20 * n18)))) (Int.toNat (IntKind.wrap IntKind.i64 (IntKind.wrap IntKind.i64 (1032 + IntKind.wrap IntKind.i64 (20 * n18)) + 20)))) 0) * 1)) = some (Value.int IntKind.i64 n26) ∧
                                            (((decide (n18 < n26) = true →
                                               ∀ w27 : World,
                                               (Drew w19 w27 →
                                                 R (Value.tuple (Array.mk [Value.pointer none, Value.int IntKind.i64 3])) w27))) ∧
                                             (decide (n18 < n26) = false →
                                               (((0 : Int) ≤ (0 : Int) ∧
                                                 0 < (↑(ByteArray.size (ByteArray.extract x0 (Int.toNat (IntKind.wrap IntKind.i64 (1032 + IntKind.wrap IntKind.i64 (20 * n18)))) (Int.toNat (IntKind.wrap IntKind.i64 (IntKind.wrap IntKind.i64 (1032 + IntKind.wrap IntKind.i64 (20 * n18)) + 20))))) : Int)) ∧
                                                ((0 ≤ IntKind.wrap IntKind.i64 (IntKind.wrap IntKind.i64 (byteAt (ByteArray.extract x0 (Int.toNat (IntKind.wrap IntKind.i64 (1032 + IntKind.wrap IntKind.i64 (20 * n18)))) (Int.toNat (IntKind.wrap IntKind.i64 (IntKind.wrap IntKind.i64 (1032 + IntKind.wrap IntKind.i64 (20 * n18)) + 20)))) 0) + 1) ∧
                                                  IntKind.wrap IntKind.i64 (IntKind.wrap IntKind.i64 (byteAt (ByteArray.extract x0 (Int.toNat (IntKind.wrap IntKind.i64 (1032 + IntKind.wrap IntKind.i64 (20 * n18)))) (Int.toNat (IntKind.wrap IntKind.i64 (IntKind.wrap IntKind.i64 (1032 + IntKind.wrap IntKind.i64 (20 * n18)) + 20)))) 0) + 1) < (↑257 : Int)) ∧
                                                 ∃ n28 : Int, (World.cell? w19 (Addr.add (Addr.mk (Array.size (World.heap w)) 1 none) (Int.toNat (IntKind.wrap IntKind.i64 (IntKind.wrap IntKind.i64 (byteAt (ByteArray.extract x0 (Int.toNat (IntKind.wrap IntKind.i64 (1032 + IntKind.wrap IntKind.i64 (20 * n18)))) (Int.toNat (IntKind.wrap IntKind.i64 (IntKind.wrap IntKind.i64 (1032 + IntKind.wrap IntKind.i64 (20 * n18)) + 20)))) 0) + 1)) * 1)) = some (Value.int IntKind.i64 n28) ∧
                                                  ∀ w29 : World,
                                                  (Drew w19 w29 →
                                                    (((decide (n18 ≥ n28) = true →
                                                       R (Value.tuple (Array.mk [Value.pointer none, Value.int IntKind.i64 3])) w29)) ∧
                                                     (decide (n18 ≥ n28) = false →
                                                       I20 w29))))))))))))) ∧
                                      ∀ w30 : World,
                                      (I20 w30 →
                                        ((0 ≤ IntKind.wrap IntKind.i64 (IntKind.wrap IntKind.i64 (1032 + IntKind.wrap IntKind.i64 (24 * n15)) + IntKind.wrap IntKind.i64 (4 * n18)) ∧
                                          (IntKind.wrap IntKind.i64 (IntKind.wrap IntKind.i64 (1032 + IntKind.wrap IntKind.i64 (24 * n15)) + IntKind.wrap IntKind.i64 (4 * n18)) ≤ IntKind.wrap IntKind.i64 (IntKind.wrap IntKind.i64 (IntKind.wrap IntKind.i64 (1032 + IntKind.wrap IntKind.i64 (24 * n15)) + IntKind.wrap IntKind.i64 (4 * n18)) + 4) ∧
                                           IntKind.wrap IntKind.i64 (IntKind.wrap IntKind.i64 (IntKind.wrap IntKind.i64 (1032 + IntKind.wrap IntKind.i64 (24 * n15)) + IntKind.wrap IntKind.i64 (4 * n18)) + 4) ≤ (↑(ByteArray.size x0) : Int))) ∧
                                         Calls Try.prog (26 : Nat) (Array.mk [Value.string (ByteArray.extract x0 (Int.toNat (IntKind.wrap IntKind.i64 (IntKind.wrap IntKind.i64 (1032 + IntKind.wrap IntKind.i64 (24 * n15)) + IntKind.wrap IntKind.i64 (4 * n18)))) (Int.toNat (IntKind.wrap IntKind.i64 (IntKind.wrap IntKind.i64 (IntKind.wrap IntKind.i64 (1032 + IntKind.wrap IntKind.i64 (24 * n15)) + IntKind.wrap IntKind.i64 (4 * n18)) + 4))))]) (w30) (fun e31 w32 =>
                                           ∃ n33 : Int, (e31 = Ending.returned (Value.int IntKind.u64 n33) ∧
                                            ∃ I34 : Int → World → Prop, ((((decide (n33 ≥ 2147483648) = true →
                                                ((8 : Int) ≠ (0 : Int) ∧
                                                 (((decide (IntKind.wrap IntKind.i64 (IntKind.wrap IntKind.u64 (n33 - 2147483648)) ≥ IntKind.wrap IntKind.i64 (Int.tdiv (↑(ByteArray.size (ByteArray.extract x0 (Int.toNat (IntKind.wrap IntKind.i64 (1032 + IntKind.wrap IntKind.i64 (28 * n15)))) (Int.toNat (IntKind.wrap IntKind.i64 ((↑(ByteArray.size x0) : Int) - 40))))) : Int) 8)) = true →
                                                    R (Value.tuple (Array.mk [Value.pointer none, Value.int IntKind.i64 3])) w32)) ∧
                                                  (decide (IntKind.wrap IntKind.i64 (IntKind.wrap IntKind.u64 (n33 - 2147483648)) ≥ IntKind.wrap IntKind.i64 (Int.tdiv (↑(ByteArray.size (ByteArray.extract x0 (Int.toNat (IntKind.wrap IntKind.i64 (1032 + IntKind.wrap IntKind.i64 (28 * n15)))) (Int.toNat (IntKind.wrap IntKind.i64 ((↑(ByteArray.size x0) : Int) - 40))))) : Int) 8)) = false →
                                                    ((0 ≤ IntKind.wrap IntKind.i64 (8 * IntKind.wrap IntKind.i64 (IntKind.wrap IntKind.u64 (n33 - 2147483648))) ∧
                                                      (IntKind.wrap IntKind.i64 (8 * IntKind.wrap IntKind.i64 (IntKind.wrap IntKind.u64 (n33 - 2147483648))) ≤ IntKind.wrap IntKind.i64 (IntKind.wrap IntKind.i64 (8 * IntKind.wrap IntKind.i64 (IntKind.wrap IntKind.u64 (n33 - 2147483648))) + 8) ∧
                                                       IntKind.wrap IntKind.i64 (IntKind.wrap IntKind.i64 (8 * IntKind.wrap IntKind.i64 (IntKind.wrap IntKind.u64 (n33 - 2147483648))) + 8) ≤ (↑(ByteArray.size (ByteArray.extract x0 (Int.toNat (IntKind.wrap IntKind.i64 (1032 + IntKind.wrap IntKind.i64 (28 * n15)))) (Int.toNat (IntKind.wrap IntKind.i64 ((↑(ByteArray.size x0) : Int) - 40))))) : Int))) ∧
                                                     Calls Try.prog (26 : Nat) (Array.mk [Value.string (ByteArray.extract (ByteArray.extract x0 (Int.toNat (IntKind.wrap IntKind.i64 (1032 + IntKind.wrap IntKind.i64 (28 * n15)))) (Int.toNat (IntKind.wrap IntKind.i64 ((↑(ByteArray.size x0) : Int) - 40)))) (Int.toNat (IntKind.wrap IntKind.i64 (8 * IntKind.wrap IntKind.i64 (IntKind.wrap IntKind.u64 (n33 - 2147483648))))) (Int.toNat (IntKind.wrap IntKind.i64 (IntKind.wrap IntKind.i64 (8 * IntKind.wrap IntKind.i64 (IntKind.wrap IntKind.u64 (n33 - 2147483648))) + 8))))]) (w32) (fun e35 w36 =>
                                                       ∃ n37 : Int, (e35 = Ending.returned (Value.int IntKind.u64 n37) ∧
                                                        I34 n37 w36)))))))) ∧
                                              (decide (n33 ≥ 2147483648) = false →
                                                I34 n33 w32)) ∧
                                             ∀ n38 : Int,
                                             ∀ w39 : World,
                                             (I34 n38 w39 →
                                               (((decide (n38 > 1099511627776) = true →
                                                  R (Value.tuple (Array.mk [Value.pointer none, Value.int IntKind.i64 2])) w39)) ∧
                                                (decide (n38 > 1099511627776) = false →
                                                  ∀ w40 : World,
                                                  (Drew w39 w40 →
                                                    ∃ I41 : World → Prop, (I41 w40 ∧
                                                     ∃ l42 : Sl, ((∀ w43 : World,
                                                      (I41 w43 →
                                                        World.cell? w43 (Addr.mk (Array.size (World.heap w)) 0 none) = some (Value.slice l42.1 l42.2 l42.3))) ∧
                                                      ((0 ≤ IntKind.wrap IntKind.i64 (IntKind.wrap IntKind.i64 (1032 + IntKind.wrap IntKind.i64 (20 * n15)) + IntKind.wrap IntKind.i64 (4 * n18)) ∧
                                                        (IntKind.wrap IntKind.i64 (IntKind.wrap IntKind.i64 (1032 + IntKind.wrap IntKind.i64 (20 * n15)) + IntKind.wrap IntKind.i64 (4 * n18)) ≤ IntKind.wrap IntKind.i64 (IntKind.wrap IntKind.i64 (IntKind.wrap IntKind.i64 (1032 + IntKind.wrap IntKind.i64 (20 * n15)) + IntKind.wrap IntKind.i64 (4 * n18)) + 4) ∧
                                                         IntKind.wrap IntKind.i64 (IntKind.wrap IntKind.i64 (IntKind.wrap IntKind.i64 (1032 + IntKind.wrap IntKind.i64 (20 * n15)) + IntKind.wrap IntKind.i64 (4 * n18)) + 4) ≤ (↑(ByteArray.size x0) : Int))) ∧
                                                       Calls Try.prog (27 : Nat) (Array.mk [Value.string (ByteArray.extract x0 (Int.toNat (IntKind.wrap IntKind.i64 (1032 + IntKind.wrap IntKind.i64 (20 * n18)))) (Int.toNat (IntKind.wrap IntKind.i64 (IntKind.wrap IntKind.i64 (1032 + IntKind.wrap IntKind.i64 (20 * n18)) + 20))))]) (w40) (fun e44 w45 =>
                                                         ∃ s46 : ByteArray, (e44 = Ending.returned (Value.string s46) ∧
                                                          (I41 w45 ∧
                                                           Calls Try.prog (26 : Nat) (Array.mk [Value.string (ByteArray.extract x0 (Int.toNat (IntKind.wrap IntKind.i64 (IntKind.wrap IntKind.i64 (1032 + IntKind.wrap IntKind.i64 (20 * n15)) + IntKind.wrap IntKind.i64 (4 * n18)))) (Int.toNat (IntKind.wrap IntKind.i64 (IntKind.wrap IntKind.i64 (IntKind.wrap IntKind.i64 (1032 + IntKind.wrap IntKind.i64 (20 * n15)) + IntKind.wrap IntKind.i64 (4 * n18)) + 4))))]) (w45) (fun e47 w48 =>
                                                             ∃ n49 : Int, (e47 = Ending.returned (Value.int IntKind.u64 n49) ∧
                                                              (I41 w48 ∧
                                                               ∀ w50 : World,
                                                               (w50 = World.alloc w48 (Obj.cells (Array.mk [Value.string s46, Value.int IntKind.i64 (IntKind.wrap IntKind.i64 n38), Value.int IntKind.u32 (IntKind.wrap IntKind.u32 n49)]) 32) →
                                                                 (I41 w50 ∧
                                                                  ∃ w51 : World, ∃ l52 : Sl, (Sem.run Try.prog (Builtin.append_ (Array.mk [22, 22]) 22 (Array.mk [Value.slice l42.1 l42.2 l42.3, Value.slice (some (Addr.mk (Array.size (World.heap w48)) 0 none)) 1 1])) w50 = Result.ok (Value.slice l52.1 l52.2 l52.3) w51 ∧
                                                                   (I41 w51 ∧
                                                                    (Wr w51 (Addr.mk (Array.size (World.heap w)) 0 none) ∧
                                                                     ∀ w53 : World,
                                                                     (w53 = World.setCell w51 (Addr.mk (Array.size (World.heap w)) 0 none) (Value.slice l52.1 l52.2 l52.3) →
                                                                       (I16 (IntKind.wrap IntKind.i64 (n18 + 1)) w53 ∧
                                                                        I17 (IntKind.wrap IntKind.i64 (n18 + 1)) w53 < I17 n18 w19))))))))))))))))))))))))))))) ∧
                                  (decide (n18 < n15) = false →
                                    ∀ w54 : World,
                                    (Drew w19 w54 →
                                      ∃ I55 : World → Prop, (I55 w54 ∧
                                       ((0 ≤ IntKind.wrap IntKind.i64 ((↑(ByteArray.size x0) : Int) - 20) ∧
                                         IntKind.wrap IntKind.i64 ((↑(ByteArray.size x0) : Int) - 20) ≤ (↑(ByteArray.size x0) : Int)) ∧
                                        ((0 ≤ IntKind.wrap IntKind.i64 ((↑(ByteArray.size x0) : Int) - 20) ∧
                                          IntKind.wrap IntKind.i64 ((↑(ByteArray.size x0) : Int) - 20) ≤ (↑(ByteArray.size x0) : Int)) ∧
                                         Calls Try.prog (24 : Nat) (Array.mk [Value.string (ByteArray.extract x0 0 (Int.toNat (IntKind.wrap IntKind.i64 ((↑(ByteArray.size x0) : Int) - 20))))]) (w54) (fun e56 w57 =>
                                           ∃ s58 : ByteArray, (e56 = Ending.returned (Value.string s58) ∧
                                            (I55 w57 ∧
                                             ((((!ByteArray.toList s58 == ByteArray.toList (ByteArray.extract x0 (Int.toNat (IntKind.wrap IntKind.i64 ((↑(ByteArray.size x0) : Int) - 20))) (ByteArray.size x0))) = true →
                                                R (Value.tuple (Array.mk [Value.pointer none, Value.int IntKind.i64 5])) w57)) ∧
                                              ((!ByteArray.toList s58 == ByteArray.toList (ByteArray.extract x0 (Int.toNat (IntKind.wrap IntKind.i64 ((↑(ByteArray.size x0) : Int) - 20))) (ByteArray.size x0))) = false →
                                                ((0 ≤ IntKind.wrap IntKind.i64 ((↑(ByteArray.size x0) : Int) - 40) ∧
                                                  (IntKind.wrap IntKind.i64 ((↑(ByteArray.size x0) : Int) - 40) ≤ IntKind.wrap IntKind.i64 ((↑(ByteArray.size x0) : Int) - 20) ∧
                                                   IntKind.wrap IntKind.i64 ((↑(ByteArray.size x0) : Int) - 20) ≤ (↑(ByteArray.size x0) : Int))) ∧
                                                 Calls Try.prog (27 : Nat) (Array.mk [Value.string (ByteArray.extract x0 (Int.toNat (IntKind.wrap IntKind.i64 ((↑(ByteArray.size x0) : Int) - 40))) (Int.toNat (IntKind.wrap IntKind.i64 ((↑(ByteArray.size x0) : Int) - 20))))]) (w57) (fun e59 w60 =>
                                                   ∃ s61 : ByteArray, (e59 = Ending.returned (Value.string s61) ∧
                                                    (Wr w60 (Addr.mk (Array.size (World.heap w)) 258 none) ∧
                                                     ∀ w62 : World,
                                                     (w62 = World.setCell w60 (Addr.mk (Array.size (World.heap w)) 258 none) (Value.string s61) →
                                                       R (Value.tuple (Array.mk [Value.pointer (some (Addr.mk (Array.size (World.heap w)) 0 none)), Value.int IntKind.i64 0])) w62))))))))))))))))))))))))))))))))))))))
theorem vc_packidx_Parse_ok {x0 : ByteArray} {w : World} {R : Value → World → Prop} {R' : Ending → World → Prop} (h : vc_packidx_Parse x0 w R) (hR : ∀ v w', R v w' → R' (.returned v) w') :
    Calls Try.prog 8 #[.string x0] w R' :=
  calls_of_body (vs := [(.string x0, false)]) (ty := ty) (ann := ⟨[(27, []), (33, [(10, .int .u64)])], [(7, [(20, .int .i64)]), (22, [(81, .int .i64)])], [(9, .held [(0, true), (1, true), (2, true), (3, true), (4, true), (5, true), (6, true), (7, true), (8, true), (9, true), (10, true), (13, true), (14, true), (11, false), (12, true), (15, true), (16, false)]), (10, .quiet), (25, .quiet), (35, .held [(0, true), (1, true), (2, true), (3, true), (4, true), (5, true), (7, true), (8, true), (9, true), (10, true), (11, true), (12, true), (13, true), (14, true), (15, true), (16, true), (17, true), (18, true), (19, true), (20, true), (21, true), (22, true), (23, true), (6, false), (24, false), (25, true), (26, true), (27, false), (28, false), (29, true), (30, true), (31, false)]), (37, .held [(0, true), (1, true), (2, true), (3, true), (4, true), (6, true), (7, true), (8, true), (9, true), (10, true), (5, false), (11, true)])], []⟩) (c := Try.f8.body.getD .skip) (by kernel_rfl) Try.func8 (by kernel_rfl) (by kernel_rfl) (Eq.mp (by kernel_rfl) h) hR
end Go.Proofs.Ytoagdpjickippaa

/- packidx.Parse: what bytes say as an index. Conditions: the text is shorter than a hundred million bytes. -/
set_option linter.unusedVariables false
namespace Go.Proofs.Ytoagdpjickippaa
open Go Vc HexM SumM ShaM Go.Proofs

def sha1D : List UInt8 → List UInt8 := digest block1 start1
theorem elP : ElK encP 3 Try.prog T_S_packidx_Row T_packidx_Row (.agg #[.string ⟨#[]⟩, .int .i64 0, .int .u32 0]) 32 :=
  ⟨by kernel_rfl, by kernel_rfl, rfl, by decide, by kernel_rfl, fun _ => rfl, fun x u hu => by
    simp only [encP, List.mem_cons, List.mem_nil_iff, or_false] at hu
    rcases hu with rfl | rfl | rfl <;> rfl⟩
/-- An index under way: its rows, its fan, its sum. -/
def IdxAt (w : World) (b : Nat) (l : Sl) (F : Nat → Nat) (s : ByteArray) : Prop := ∃ cs : Array Value, w.heap[b]? = some (.cells cs T_packidx_Idx (0, 0)) ∧ cs.size = 259 ∧ cs[0]? = some (.slice l.a l.len l.cap) ∧
  (∀ c, c < 257 → cs[1 + c]? = some (.int .i64 (F c : Nat))) ∧ cs[258]? = some (.string s)
theorem IdxAt.keep {w w1 : World} {b : Nat} {l : Sl} {F : Nat → Nat} {s : ByteArray} (h : IdxAt w b l F s) {X : Nat → Prop} (hf : Fr X w w1) (hx : ¬ X b) : IdxAt w1 b l F s := by
  obtain ⟨cs, h1, h2⟩ := h
  exact ⟨cs, hf.keep h1 hx, h2⟩
theorem IdxAt.rowsC {w : World} {b : Nat} {l : Sl} {F : Nat → Nat} {s : ByteArray} (h : IdxAt w b l F s) : w.cell? ⟨b, 0, none⟩ = some (.slice l.a l.len l.cap) := by
  obtain ⟨cs, h1, _, h3, _⟩ := h
  rw [cell_blk h1]; exact h3
theorem IdxAt.fanC {w : World} {b : Nat} {l : Sl} {F : Nat → Nat} {s : ByteArray} (h : IdxAt w b l F s) {c : Nat} (hc : c < 257) : w.cell? ⟨b, 1 + c * 1, none⟩ = some (.int .i64 (F c : Nat)) := by
  obtain ⟨cs, h1, _, _, h4, _⟩ := h
  rw [cell_blk h1, Nat.mul_one]; exact h4 c hc
theorem IdxAt.sumC {w : World} {b : Nat} {l : Sl} {F : Nat → Nat} {s : ByteArray} (h : IdxAt w b l F s) : w.cell? ⟨b, 258, none⟩ = some (.string s) := by
  obtain ⟨cs, h1, _, _, _, h5⟩ := h
  rw [cell_blk h1]; exact h5
theorem IdxAt.wr {w : World} {b : Nat} {l : Sl} {F : Nat → Nat} {s : ByteArray} (h : IdxAt w b l F s) {i : Nat} (hi : i < 259) : Wr w ⟨b, i, none⟩ := by
  obtain ⟨cs, h1, h2, _⟩ := h
  exact wr_blk h1 (by omega)
theorem IdxAt.setRows {w : World} {b : Nat} {l : Sl} {F : Nat → Nat} {s : ByteArray} (h : IdxAt w b l F s) (l' : Sl) : IdxAt (w.setCell ⟨b, 0, none⟩ (.slice l'.a l'.len l'.cap)) b l' F s := by
  obtain ⟨cs, h1, h2, h3, h4, h5⟩ := h
  refine ⟨_, set_blk h1 0 _, by simpa using h2, ?_, fun c hc => ?_, ?_⟩
  · rw [Array.getElem?_setIfInBounds, if_pos rfl, if_pos (by omega)]
  · rw [Array.getElem?_setIfInBounds, if_neg (by omega)]; exact h4 c hc
  · rw [Array.getElem?_setIfInBounds, if_neg (by omega)]; exact h5
theorem IdxAt.setSum {w : World} {b : Nat} {l : Sl} {F : Nat → Nat} {s : ByteArray} (h : IdxAt w b l F s) (s' : ByteArray) : IdxAt (w.setCell ⟨b, 258, none⟩ (.string s')) b l F s' := by
  obtain ⟨cs, h1, h2, h3, h4, h5⟩ := h
  refine ⟨_, set_blk h1 258 _, by simpa using h2, ?_, fun c hc => ?_, ?_⟩
  · rw [Array.getElem?_setIfInBounds, if_neg (by omega)]; exact h3
  · rw [Array.getElem?_setIfInBounds, if_neg (by omega)]; exact h4 c hc
  · rw [Array.getElem?_setIfInBounds, if_pos rfl, if_pos (by omega)]
theorem IdxAt.setFan {w : World} {b : Nat} {l : Sl} {F G : Nat → Nat} {s : ByteArray} (h : IdxAt w b l F s) {c v : Nat} (hc : c < 257) (hG : ∀ k, k < 257 → G k = if k = c then v else F k) : IdxAt (w.setCell ⟨b, 1 + c * 1, none⟩ (.int .i64 (v : Nat))) b l G s := by
  obtain ⟨cs, h1, h2, h3, h4, h5⟩ := h
  refine ⟨_, set_blk h1 _ _, by simpa using h2, ?_, fun k hk => ?_, ?_⟩
  · rw [Array.getElem?_setIfInBounds, if_neg (by omega)]; exact h3
  · rw [Array.getElem?_setIfInBounds, hG k hk]
    by_cases hkc : k = c
    · rw [if_pos (by omega), if_pos (by omega), if_pos hkc]
    · rw [if_neg (by omega), if_neg hkc]; exact h4 k hk
  · rw [Array.getElem?_setIfInBounds, if_neg (by omega)]; exact h5
theorem idx_new {w w1 : World} {cs : Array Value} (h : w1 = w.alloc (.cells cs T_packidx_Idx)) (hc : cs.toList = .slice none 0 0 :: (List.replicate 257 (.int .i64 0) ++ [.string ⟨#[]⟩])) : IdxAt w1 w.heap.size ⟨none, 0, 0⟩ (fun _ => 0) ⟨#[]⟩ := by
  refine ⟨cs, by rw [h]; exact alloc_new _ _, ?_, ?_, fun c hc' => ?_, ?_⟩
  · rw [← Array.length_toList, hc, List.length_cons, List.length_append, List.length_replicate]; rfl
  · rw [← Array.getElem?_toList, hc]; rfl
  · rw [← Array.getElem?_toList, hc, Nat.add_comm, List.getElem?_cons_succ, List.getElem?_append_left (by rw [List.length_replicate]; exact hc'), List.getElem?_replicate, if_pos hc']; rfl
  · rw [← Array.getElem?_toList, hc, List.getElem?_cons_succ, List.getElem?_append_right (by rw [List.length_replicate]; omega), List.length_replicate]; rfl
/-- An index that stands still. -/
structure IsIdx (w : World) (b : Nat) (rows : List PRow) (sum : ByteArray) : Prop where
  at_ : ∃ l F, IdxAt w b l F sum ∧ ReadsK encP 3 w l.a rows ∧ rows.length = l.len
theorem IsIdx.keep {w w1 : World} {b : Nat} {rows : List PRow} {sum : ByteArray} (h : IsIdx w b rows sum) (hf : Fr (fun _ => False) w w1) : IsIdx w1 b rows sum := by
  obtain ⟨l, F, h1, h2, h3⟩ := h.at_
  exact ⟨l, F, h1.keep hf (by simp), h2.keep hf (by simp), h3⟩
theorem sl_extract (s : ByteArray) (i n : Nat) : (s.extract i (i + n)).data.toList = PkM.sl s.data.toList i n := by
  rw [bs_extract, Nat.add_sub_cancel_left]; rfl
theorem hd0_byt (s : ByteArray) : byt s 0 = PkM.hd0 s.data.toList := by
  unfold byt PkM.hd0
  cases s.data.toList <;> rfl
def ParseR (L : List UInt8) (w : World) (v : Value) (w' : World) : Prop := Fr (fun _ => False) w w' ∧ match PkM.parseE sha1D L with
  | .error n => v = .tuple #[.pointer none, .int .i64 (n : Nat)]
  | .ok (rows, sum) => ∃ b, v = .tuple #[.pointer (some ⟨b, 0, none⟩), .int .i64 0] ∧ w.heap.size ≤ b ∧ IsIdx w' b (rows.map ofRaw) ⟨(hexL sum).toArray⟩
set_option maxHeartbeats 1000000 in
theorem parse_spec (s : ByteArray) (hs : s.size ≤ 100000000) (w : World) : Calls Try.prog F_packidx_Parse #[.string s] w fun e w' => ∃ v, e = .returned v ∧ ParseR s.data.toList w v w' := by
  refine vc_packidx_Parse_ok (R := ParseR s.data.toList w) ?_ (fun v w' h => ⟨v, rfl, h⟩)
  obtain ⟨L, hL⟩ : ∃ L, s.data.toList = L := ⟨_, rfl⟩
  have hsz : L.length = s.size := by rw [← hL]; simp
  have ex : ∀ i n, (s.extract i (i + n)).data.toList = PkM.sl L i n := fun i n => by rw [sl_extract, hL]
  rw [hL]
  have bad : ∀ {w' : World} {k : Nat}, Fr (fun _ => False) w w' → PkM.parseE sha1D L = .error k → ParseR L w (.tuple #[.pointer none, .int .i64 (k : Nat)]) w' := fun hf he => ⟨hf, by rw [he]⟩
  have hE := PkM.parseE.eq_1 sha1D L
  refine ⟨fun h => bad (k := 6) (.refl _ _) (by rw [hE, if_pos (by have := of_decide_eq_true h; omega)]), fun h => ⟨⟨by decide, by have := of_decide_eq_false h; omega⟩, ?_⟩⟩
  have h1072 : 1072 ≤ L.length := by have := of_decide_eq_false h; omega
  rw [if_neg (by omega)] at hE
  have h8 : (s.extract 0 8).data.toList = L.take 8 := by rw [bs_head, hL]
  have hmg : decide (s.extract 0 8 = ⟨#[255, 116, 79, 99, 0, 0, 0, 2]⟩) = decide (L.take 8 = PkM.magic) := decide_eq_decide.2 ⟨fun e => by rw [← h8, e]; rfl, fun e => bs_ext (by rw [h8, e]; rfl)⟩
  rw [show Int.toNat 8 = 8 from rfl, bs_eq, hmg]
  refine ⟨fun hm => bad (k := 3) (.refl _ _) (by rw [hE, if_pos (by simpa using hm)]), fun hm w1 h1 => ?_⟩
  rw [if_neg (by simpa using hm)] at hE
  have hf1 : Fr (fun _ => False) w w1 := by rw [h1]; exact .alloc _ _ _
  have hi1 := idx_new h1 (by kernel_rfl)
  have hs1 : w1.heap.size = w.heap.size + 1 := by rw [h1]; exact Array.size_push _
  clear h1
  obtain ⟨b, hb⟩ : ∃ b, w.heap.size = b := ⟨_, rfl⟩
  rw [hb] at hi1 hs1 ⊢
  have hset : ∀ {w' w2 : World}, Fr (fun _ => False) w w' → Fr (· = b) w' w2 → Fr (fun _ => False) w w2 := fun h h' => h.trans h' fun q hq e => by omega
  have hsz1 : ∀ {w' : World}, Fr (fun _ => False) w1 w' → b + 1 ≤ w'.heap.size := fun h => by have := h.size; omega
  refine ⟨fun i w' => ∃ k : Nat, i = k ∧ k ≤ 256 ∧ IdxAt w' b ⟨none, 0, 0⟩ (fun c => if c ≤ k then PkM.fanB L c else 0) ⟨#[]⟩ ∧ (∀ j, j + 1 < k → ¬ PkM.fan L (j + 1) < PkM.fan L j) ∧ Fr (fun _ => False) w w', fun i _ => 256 - i.toNat,
    ⟨0, rfl, Nat.zero_le _, ?_, fun j hj => by omega, hf1⟩, ?_⟩
  · obtain ⟨cs, c1, c2, c3, c4, c5⟩ := hi1
    refine ⟨cs, c1, c2, c3, fun c hc => ?_, c5⟩
    have h0 : (if c ≤ 0 then PkM.fanB L c else 0) = 0 := by
      split
      · have : c = 0 := by omega
        subst this; rfl
      · rfl
    rw [c4 c hc]
    show some (Value.int .i64 ((0 : Nat) : Int)) = some (.int .i64 ((if c ≤ 0 then PkM.fanB L c else 0 : Nat) : Int))
    rw [h0]
  clear hi1
  rintro i w5 ⟨k, rfl, hk, hi5, hmon, hf5⟩
  have e1 : IntKind.i64.wrap ((k : Int) + 1) = ((k + 1 : Nat) : Int) := by rw [wrap_i64 (by omega) (by omega)]; omega
  refine ⟨fun hlt w6 d6 => ?_, fun hge => ?_⟩
  · have hlt := of_decide_eq_true hlt
    have a1 : IntKind.i64.wrap (8 + IntKind.i64.wrap (4 * (k : Int))) = ((8 + 4 * k : Nat) : Int) := by rw [wrap_i64 (x := 4 * (k : Int)) (by omega) (by omega), wrap_i64 (by omega) (by omega)]; omega
    have a2 : IntKind.i64.wrap (12 + IntKind.i64.wrap (4 * (k : Int))) = ((8 + 4 * k + 4 : Nat) : Int) := by rw [wrap_i64 (x := 4 * (k : Int)) (by omega) (by omega), wrap_i64 (by omega) (by omega)]; omega
    rw [a1, a2, e1, Int.toNat_natCast, Int.toNat_natCast, Int.toNat_natCast, Int.toNat_natCast]
    refine ⟨fun _ => True, trivial, ⟨by omega, by omega, by omega⟩, (frombig_spec _ (by rw [ByteArray.size_extract]; omega) w6).mono ?_⟩
    rintro e w9 ⟨rfl, hw⟩
    replace hw := hw.symm
    subst hw
    rw [ex]
    have hv : num8 (PkM.sl L (8 + 4 * k) 4) = PkM.fan L k := rfl
    rw [hv]
    have hvl : PkM.fan L k < 4294967296 := num8_lt 4 _ (PkM.sl_len (by omega))
    have e2 : IntKind.i64.wrap ((PkM.fan L k : Nat) : Int) = ((PkM.fan L k : Nat) : Int) := wrap_i64 (by omega) (by omega)
    have hf6 : Fr (fun _ => False) w w6 := hf5.trans' (.drew _ d6)
    have hi6 := hi5.keep (.drew (fun _ => False) d6) (by simp)
    refine ⟨_, rfl, trivial, ⟨by omega, by omega⟩, ?_⟩
    rw [add_lit, add_lit, e2]
    refine ⟨hi6.wr (by omega), fun w11 h11 => ?_⟩
    have hfb : PkM.fanB L (k + 1) = PkM.fan L k := by unfold PkM.fanB; rw [if_neg (by omega)]; rfl
    have hi11 : IdxAt w11 b ⟨none, 0, 0⟩ (fun c => if c ≤ k + 1 then PkM.fanB L c else 0) ⟨#[]⟩ := by
      rw [h11]
      refine hi6.setFan (c := k + 1) (v := PkM.fan L k) (by omega) fun j hj => ?_
      by_cases hjk : j = k + 1
      · subst hjk; rw [if_pos (Nat.le_refl _), if_pos rfl, hfb]
      · rw [if_neg hjk]
        by_cases hjl : j ≤ k
        · rw [if_pos (by omega), if_pos hjl]
        · rw [if_neg (by omega), if_neg hjl]
    have hf11 : Fr (fun _ => False) w w11 := hset hf6 (by rw [h11]; exact Fr.set (· = b) _ _ rfl)
    clear h11
    have c1 := hi11.fanC (c := k + 1) (by omega)
    have c2 := hi11.fanC (c := k) (by omega)
    simp only [Nat.le_refl, if_true, Nat.le_succ, hfb] at c1 c2
    refine ⟨⟨by omega, by omega⟩, _, c1, ⟨by omega, by omega⟩, _, c2, fun w14 d14 => ?_⟩
    have hf14 := hf11.trans' (.drew _ d14)
    refine ⟨fun hlt2 => bad (k := 3) hf14 ?_, fun hge2 => ⟨⟨k + 1, rfl, by omega, hi11.keep (.drew (fun _ => False) d14) (by simp), fun j hj => ?_, hf14⟩, by dsimp only; omega⟩⟩
    · have hlt2 := of_decide_eq_true hlt2
      have hk0 : k ≠ 0 := fun e => by
        subst e
        have : PkM.fanB L 0 = 0 := rfl
        omega
      have hfk : PkM.fanB L k = PkM.fan L (k - 1) := by unfold PkM.fanB; rw [if_neg hk0]
      rw [hE, if_pos ⟨k - 1, by omega, by rw [show k - 1 + 1 = k by omega]; omega⟩]
    · by_cases hjk : j + 1 < k
      · exact hmon j hjk
      · have hge2 := of_decide_eq_false hge2
        have hk' : k = j + 1 := by omega
        subst hk'
        have hfk : PkM.fanB L (j + 1) = PkM.fan L j := by unfold PkM.fanB; rw [if_neg (by omega)]; rfl
        omega
  · have hge := of_decide_eq_false hge
    have hk' : k = 256 := by omega
    subst hk'
    clear e1
    have hnm : ¬ ∃ i, i < 255 ∧ PkM.fan L (i + 1) < PkM.fan L i := fun ⟨i, hi, h⟩ => hmon i (by omega) h
    rw [if_neg hnm] at hE
    clear hmon hnm
    have c3 := hi5.fanC (c := 256) (by omega)
    have hf256 : PkM.fanB L 256 = PkM.fan L 255 := rfl
    simp only [Nat.le_refl, if_true, hf256] at c3
    rw [show Int.toNat 256 = 256 from rfl, add_lit]
    refine ⟨⟨by decide, by decide⟩, _, c3, ?_⟩
    have hi5' : IdxAt w5 b ⟨none, 0, 0⟩ (PkM.fanB L) ⟨#[]⟩ := by
      obtain ⟨cs, k1, k2, k3, k4, k5⟩ := hi5
      refine ⟨cs, k1, k2, k3, fun c hc => ?_, k5⟩
      have := k4 c hc
      simp only [show c ≤ 256 by omega, if_true] at this
      exact this
    clear hi5 c3
    generalize hn : PkM.fan L 255 = n at hE ⊢
    refine ⟨fun h => bad (k := 2) hf5 (by rw [hE, if_pos (by have := of_decide_eq_true h; omega)]), fun h => ?_⟩
    have h1000 : n ≤ 1000 := by have := of_decide_eq_false h; omega
    rw [if_neg (by omega)] at hE
    have f1 : IntKind.i64.wrap (1032 + IntKind.i64.wrap (28 * (n : Int))) = ((1032 + 28 * n : Nat) : Int) := by rw [wrap_i64 (x := 28 * (n : Int)) (by omega) (by omega), wrap_i64 (by omega) (by omega)]; omega
    have f2 : IntKind.i64.wrap (((1032 + 28 * n : Nat) : Int) + 40) = ((1072 + 28 * n : Nat) : Int) := by rw [wrap_i64 (by omega) (by omega)]; omega
    have f3 : IntKind.i64.wrap ((s.size : Int) - 40) = ((s.size - 40 : Nat) : Int) := by rw [wrap_i64 (by omega) (by omega)]; omega
    have f4 : IntKind.i64.wrap ((s.size : Int) - 20) = ((s.size - 20 : Nat) : Int) := by rw [wrap_i64 (by omega) (by omega)]; omega
    rw [f1, f2, f3, f4, Int.toNat_natCast, Int.toNat_natCast, Int.toNat_natCast]
    refine ⟨fun h => bad (k := 6) hf5 (by rw [hE, if_pos (by have := of_decide_eq_true h; omega)]), fun h => ?_⟩
    have hLn : 1072 + 28 * n ≤ L.length := by have := of_decide_eq_false h; omega
    rw [if_neg (by omega)] at hE
    have hfs : (s.extract (1032 + 28 * n) (s.size - 40)).size = L.length - (1072 + 28 * n) := by rw [ByteArray.size_extract]; omega
    have hfl : (s.extract (1032 + 28 * n) (s.size - 40)).data.toList = PkM.farL L n := by
      rw [bs_extract, hL]
      unfold PkM.farL PkM.sl
      rw [hsz]
    have exf : ∀ i m, ((s.extract (1032 + 28 * n) (s.size - 40)).extract i (i + m)).data.toList = PkM.sl (PkM.farL L n) i m := fun i m => by rw [sl_extract, hfl]
    have hfll : (PkM.farL L n).length = L.length - (1072 + 28 * n) := by rw [← hfl, bs_len, hfs]
    rw [hfs]
    generalize s.extract (1032 + 28 * n) (s.size - 40) = far at exf hfs ⊢
    have hmod : Int.tmod ((L.length - (1072 + 28 * n) : Nat) : Int) 8 = (((L.length - (1072 + 28 * n)) % 8 : Nat) : Int) := by
      rw [Int.tmod_eq_emod_of_nonneg (Int.natCast_nonneg _)]; omega
    have hdiv : Int.tdiv ((L.length - (1072 + 28 * n) : Nat) : Int) 8 = (((L.length - (1072 + 28 * n)) / 8 : Nat) : Int) := by
      rw [Int.tdiv_eq_ediv_of_nonneg (Int.natCast_nonneg _)]; omega
    rw [hmod, hdiv]
    refine ⟨⟨by omega, by omega, by omega⟩, by decide, fun h => bad (k := 3) hf5 (by rw [hE, if_pos (by intro e; rw [e] at h; simp at h)]), fun h => ?_⟩
    have hm8 : (L.length - (1072 + 28 * n)) % 8 = 0 := by
      have : (((L.length - (1072 + 28 * n)) % 8 : Nat) : Int) = 0 := by simpa using h
      omega
    rw [if_neg (fun h => h hm8)] at hE
    have hwd : IntKind.i64.wrap ((((L.length - (1072 + 28 * n)) / 8 : Nat) : Int)) = (((L.length - (1072 + 28 * n)) / 8 : Nat) : Int) := wrap_i64 (by omega) (by omega)
    rw [hwd]
    refine ⟨fun i w' => ∃ (j : Nat) (l : Sl) (done : List PkM.Rw), i = j ∧ j ≤ n ∧ IdxAt w' b l (PkM.fanB L) ⟨#[]⟩ ∧ OwnK encP 3 w' (b + 1) T_packidx_Row l (done.map ofRaw) ∧ done.length = j ∧
        (PkM.rowsE L n 0 n = match PkM.rowsE L n j (n - j) with | .error e => .error e | .ok rs => .ok (done ++ rs)) ∧ Fr (fun _ => False) w w' ∧ b + 1 ≤ w'.heap.size, fun i _ => n - i.toNat,
      ⟨0, ⟨none, 0, 0⟩, [], rfl, Nat.zero_le _, hi5', .nil _ _ _, rfl, ?_, hf5, ?_⟩, ?_⟩
    · rw [Nat.sub_zero]
      cases PkM.rowsE L n 0 n <;> rfl
    · obtain ⟨cs, k1, _⟩ := hi5'
      exact lt_blk k1
    clear hi5'
    rintro i w19 ⟨j, l, done, rfl, hj, hi19, ho19, hdl, hrw, hf19, hb19⟩
    refine ⟨fun hlt => ?_, fun hge w54 d54 => ?_⟩
    · have hlt := of_decide_eq_true hlt
      have hjn : j < n := by omega
      have b1 : IntKind.i64.wrap (1032 + IntKind.i64.wrap (20 * (j : Int))) = ((1032 + 20 * j : Nat) : Int) := by rw [wrap_i64 (x := 20 * (j : Int)) (by omega) (by omega), wrap_i64 (by omega) (by omega)]; omega
      have b2 : IntKind.i64.wrap (((1032 + 20 * j : Nat) : Int) + 20) = ((1032 + 20 * j + 20 : Nat) : Int) := by rw [wrap_i64 (by omega) (by omega)]; omega
      have b3 : IntKind.i64.wrap (((1032 + 20 * j : Nat) : Int) - 20) = ((1032 + 20 * j - 20 : Nat) : Int) := by rw [wrap_i64 (by omega) (by omega)]; omega
      have b4 : IntKind.i64.wrap (IntKind.i64.wrap (1032 + IntKind.i64.wrap (24 * (n : Int))) + IntKind.i64.wrap (4 * (j : Int))) = ((1032 + 24 * n + 4 * j : Nat) : Int) := by
        rw [wrap_i64 (x := 24 * (n : Int)) (by omega) (by omega), wrap_i64 (x := 4 * (j : Int)) (by omega) (by omega), wrap_i64 (x := 1032 + 24 * (n : Int)) (by omega) (by omega), wrap_i64 (by omega) (by omega)]; omega
      have b5 : IntKind.i64.wrap (((1032 + 24 * n + 4 * j : Nat) : Int) + 4) = ((1032 + 24 * n + 4 * j + 4 : Nat) : Int) := by rw [wrap_i64 (by omega) (by omega)]; omega
      have b6 : IntKind.i64.wrap (IntKind.i64.wrap (1032 + IntKind.i64.wrap (20 * (n : Int))) + IntKind.i64.wrap (4 * (j : Int))) = ((1032 + 20 * n + 4 * j : Nat) : Int) := by
        rw [wrap_i64 (x := 20 * (n : Int)) (by omega) (by omega), wrap_i64 (x := 4 * (j : Int)) (by omega) (by omega), wrap_i64 (x := 1032 + 20 * (n : Int)) (by omega) (by omega), wrap_i64 (by omega) (by omega)]; omega
      have b7 : IntKind.i64.wrap (((1032 + 20 * n + 4 * j : Nat) : Int) + 4) = ((1032 + 20 * n + 4 * j + 4 : Nat) : Int) := by rw [wrap_i64 (by omega) (by omega)]; omega
      have b8 : IntKind.i64.wrap ((j : Int) + 1) = ((j + 1 : Nat) : Int) := by rw [wrap_i64 (by omega) (by omega)]; omega
      rw [b6, b7, b4, b5, b1, b2, b3, b8]
      simp only [Int.toNat_natCast]
      have hraw : (s.extract (1032 + 20 * j) (1032 + 20 * j + 20)).data.toList = PkM.sl L (1032 + 20 * j) 20 := ex _ _
      have hraws : (s.extract (1032 + 20 * j) (1032 + 20 * j + 20)).size = 20 := by rw [ByteArray.size_extract]; omega
      have hh0 : byteAt (s.extract (1032 + 20 * j) (1032 + 20 * j + 20)) 0 = ((PkM.hd0 (PkM.sl L (1032 + 20 * j) 20) : Nat) : Int) := by
        rw [show (0 : Int) = ((0 : Nat) : Int) from rfl, byteAt_nat, hd0_byt, hraw]
      rw [hh0]
      have hc : PkM.hd0 (PkM.sl L (1032 + 20 * j) 20) < 256 := UInt8.toNat_lt _
      obtain ⟨R, hR⟩ : ∃ R, PkM.rowsE L n j (n - j) = R := ⟨_, rfl⟩
      have hR' := hR
      rw [show n - j = (n - j - 1) + 1 by omega, PkM.rowsE] at hR'
      have hst := PkM.stepE.eq_1 L n j
      have hprev : 0 < j → (s.extract (1032 + 20 * j - 20) (1032 + 20 * j)).data.toList = PkM.sl L (1032 + 20 * j - 20) 20 := fun h0 => by
        have := ex (1032 + 20 * j - 20) 20
        rwa [show 1032 + 20 * j - 20 + 20 = 1032 + 20 * j by omega] at this
      have stop : ∀ {w' : World} {e : Nat}, Fr (fun _ => False) w w' → PkM.stepE L n j = .error e → ParseR L w (.tuple #[.pointer none, .int .i64 (e : Nat)]) w' := fun hf he => bad hf (by
        rw [he] at hR'
        simp only at hR'
        rw [hE, hrw, hR, ← hR'])
      generalize hraw0 : PkM.sl L (1032 + 20 * j) 20 = raw at hraw hc hst hh0 ⊢
      generalize hcc : PkM.hd0 raw = c at hc hst ⊢
      have g1 : IntKind.i64.wrap (IntKind.i64.wrap (c : Int) + 1) = ((c + 1 : Nat) : Int) := by rw [wrap_i64 (x := (c : Int)) (by omega) (by omega), wrap_i64 (by omega) (by omega)]; omega
      rw [g1]
      simp only [Int.toNat_natCast, add_lit]
      have hfc := hi19.fanC (c := c) (by omega)
      have hfc1 := hi19.fanC (c := c + 1) (by omega)
      have tailC : ¬ (0 < j ∧ ¬ PkM.sl L (1032 + 20 * j - 20) 20 < raw) → ((0 : Int) ≤ 0 ∧ 0 < ((s.extract (1032 + 20 * j) (1032 + 20 * j + 20)).size : Int)) ∧ ((0 ≤ (c : Int) ∧ (c : Int) < ((257 : Nat) : Int)) ∧ ∃ n22 : Int, w19.cell? ⟨b, 1 + c * 1, none⟩ = some (.int .i64 n22) ∧
          ((decide ((j : Int) < n22) = true → ∀ w23, Drew w19 w23 → ParseR L w (.tuple #[.pointer none, .int .i64 3]) w23) ∧
           (decide ((j : Int) < n22) = false → ((0 : Int) ≤ 0 ∧ 0 < ((s.extract (1032 + 20 * j) (1032 + 20 * j + 20)).size : Int)) ∧ ((0 ≤ ((c + 1 : Nat) : Int) ∧ ((c + 1 : Nat) : Int) < ((257 : Nat) : Int)) ∧ ∃ n24 : Int, w19.cell? ⟨b, 1 + (c + 1) * 1, none⟩ = some (.int .i64 n24) ∧ ∀ w25, Drew w19 w25 →
            ((decide ((j : Int) ≥ n24) = true → ParseR L w (.tuple #[.pointer none, .int .i64 3]) w25) ∧
             (decide ((j : Int) ≥ n24) = false → Fr (fun _ => False) w19 w25 ∧ ¬ (0 < j ∧ ¬ PkM.sl L (1032 + 20 * j - 20) 20 < raw) ∧ ¬ j < PkM.fanB L c ∧ ¬ PkM.fanB L (c + 1) ≤ j)))))) := fun hno => by
        rw [if_neg hno] at hst
        refine ⟨⟨by decide, by omega⟩, ⟨by omega, by omega⟩, _, hfc, fun h w23 d23 => stop (hf19.trans' (.drew _ d23)) ?_, fun h => ⟨⟨by decide, by omega⟩, ⟨by omega, by omega⟩, _, hfc1, fun w25 d25 => ⟨fun h2 => stop (hf19.trans' (.drew _ d25)) ?_, fun h2 => ⟨.drew _ d25, hno, ?_, ?_⟩⟩⟩⟩
        · rw [hst, if_pos (by have := of_decide_eq_true h; omega)]
        · rw [hst, if_neg (by have := of_decide_eq_false h; omega), if_pos (by have := of_decide_eq_true h2; omega)]
        · have := of_decide_eq_false h; omega
        · have := of_decide_eq_false h2; omega
      refine ⟨⟨by omega, by omega, by omega⟩, fun w' => Fr (fun _ => False) w19 w' ∧ ¬ (0 < j ∧ ¬ PkM.sl L (1032 + 20 * j - 20) 20 < raw) ∧ ¬ j < PkM.fanB L c ∧ ¬ PkM.fanB L (c + 1) ≤ j, ⟨fun h0 => ⟨⟨by omega, by omega, by omega⟩, fun hl w21 d21 => stop (hf19.trans' (.drew _ d21)) ?_, fun hl => tailC ?_⟩, fun h0 => tailC ?_⟩, ?_⟩
      · have h0 : 0 < j := by have := of_decide_eq_true h0; omega
        rw [ByteArray.toList_eq, ByteArray.toList_eq, Proofs.bytesLess_eq, hprev h0, hraw] at hl
        have hl' : ¬ PkM.sl L (1032 + 20 * j - 20) 20 < raw := by simpa using hl
        rw [hst, if_pos ⟨h0, hl'⟩]
      · have h0 : 0 < j := by have := of_decide_eq_true h0; omega
        rw [ByteArray.toList_eq, ByteArray.toList_eq, Proofs.bytesLess_eq, hprev h0, hraw] at hl
        have hl' : PkM.sl L (1032 + 20 * j - 20) 20 < raw := by simpa using hl
        exact fun hh => hh.2 hl'
      · have h0 := of_decide_eq_false h0
        exact fun hh => by omega
      rintro w30 ⟨hf30, ok1, ok2, ok3⟩
      rw [if_neg ok1, if_neg ok2, if_neg ok3] at hst
      have hF30 := hf19.trans' hf30
      refine ⟨⟨by omega, by omega, by omega⟩, (frombig_spec _ (by rw [ByteArray.size_extract]; omega) w30).mono ?_⟩
      rintro e w32 ⟨rfl, hw⟩
      replace hw := hw.symm
      subst hw
      rw [ex]
      have hvl : num8 (PkM.sl L (1032 + 24 * n + 4 * j) 4) < 4294967296 := num8_lt 4 _ (PkM.sl_len (by omega))
      generalize num8 (PkM.sl L (1032 + 24 * n + 4 * j) 4) = v at hvl hst ⊢
      have hpl := PkM.placeE.eq_1 (PkM.farL L n) v
      rw [hfll] at hpl
      refine ⟨_, rfl, fun q w' => ∃ a : Nat, q = a ∧ a < 18446744073709551616 ∧ PkM.placeE (PkM.farL L n) v = .ok a ∧ Fr (fun _ => False) w19 w', ⟨fun h => ⟨by decide, ?_⟩, fun h => ⟨v, rfl, by omega, by rw [hpl, if_pos (by have := of_decide_eq_false h; omega)], hf30⟩⟩, ?_⟩
      · have h := of_decide_eq_true h
        have q1 : IntKind.i64.wrap (IntKind.u64.wrap ((v : Int) - 2147483648)) = ((v - 2147483648 : Nat) : Int) := by rw [wrap_u64 (by omega) (by omega), wrap_i64 (by omega) (by omega)]; omega
        rw [if_neg (by omega)] at hpl
        obtain ⟨u, hu⟩ : ∃ u, v - 2147483648 = u := ⟨_, rfl⟩
        rw [hu] at q1 hpl
        rw [q1]
        clear q1
        refine ⟨fun h2 => stop hF30 (by rw [hst, hpl, if_pos (by have := of_decide_eq_true h2; omega)]), fun h2 => ?_⟩
        have h2 := of_decide_eq_false h2
        have hk2 : u < (L.length - (1072 + 28 * n)) / 8 := by omega
        rw [if_neg (by omega)] at hpl
        have q2 : IntKind.i64.wrap (8 * ((u : Nat) : Int)) = ((8 * u : Nat) : Int) := by rw [wrap_i64 (by omega) (by omega)]; omega
        have q3 : IntKind.i64.wrap (((8 * u : Nat) : Int) + 8) = ((8 * u + 8 : Nat) : Int) := by rw [wrap_i64 (by omega) (by omega)]; omega
        rw [q2, q3, Int.toNat_natCast, Int.toNat_natCast]
        refine ⟨⟨by omega, by omega, by omega⟩, (frombig_spec _ (by rw [ByteArray.size_extract]; omega) w30).mono ?_⟩
        rintro e w36 ⟨rfl, hw⟩
        replace hw := hw.symm
        subst hw
        rw [exf]
        have h64 := num8_lt 8 _ (PkM.sl_len (L := PkM.farL L n) (i := 8 * u) (n := 8) (by omega))
        rw [show (256 : Nat) ^ 8 = 18446744073709551616 by decide] at h64
        exact ⟨_, rfl, _, rfl, h64, hpl, hf30⟩
      rintro q w39 ⟨a, rfl, hal, hpla, hf39⟩
      rw [hpla] at hst
      simp only at hst
      have hF39 := hf19.trans' hf39
      refine ⟨fun h => stop hF39 (by rw [hst, if_pos (by have := of_decide_eq_true h; omega)]), fun h w40 d40 => ?_⟩
      have ha : a ≤ 1099511627776 := by have := of_decide_eq_false h; omega
      rw [if_neg (by omega)] at hst
      have hf40 := hf39.trans' (.drew _ d40)
      have hF40 := hf19.trans' hf40
      have hi40 := hi19.keep hf40 (by simp)
      have ho40 := ho19.keep hf40 (by simp)
      refine ⟨fun w' => IdxAt w' b l (PkM.fanB L) ⟨#[]⟩, hi40, l, fun w43 h43 => h43.rowsC, ⟨by omega, by omega, by omega⟩, (hex_spec (s.extract (1032 + 20 * j) (1032 + 20 * j + 20)) (by omega) w40).mono ?_⟩
      rintro e w45 ⟨rfl, hf45⟩
      rw [hraw]
      refine ⟨_, rfl, hi40.keep hf45 (by simp), (frombig_spec _ (by rw [ByteArray.size_extract]; omega) w45).mono ?_⟩
      rintro e w48 ⟨rfl, hw⟩
      replace hw := hw.symm
      subst hw
      rw [ex]
      have hcl : num8 (PkM.sl L (1032 + 20 * n + 4 * j) 4) < 4294967296 := num8_lt 4 _ (PkM.sl_len (by omega))
      generalize num8 (PkM.sl L (1032 + 20 * n + 4 * j) 4) = crc at hcl hst ⊢
      have hF45 := hF40.trans' hf45
      have hi45 := hi40.keep hf45 (by simp)
      have ho45 := ho40.keep hf45 (by simp)
      have hb45 : b + 1 ≤ w45.heap.size := by have := hf40.size; have := hf45.size; omega
      refine ⟨_, rfl, hi45, fun w50 h50 => ?_⟩
      have q4 : IntKind.i64.wrap (a : Int) = (a : Int) := wrap_i64 (by omega) (by omega)
      have q5 : IntKind.u32.wrap (crc : Int) = (crc : Int) := wrap_u32 (by omega) (by omega)
      rw [q4, q5] at h50
      have hdm : (done.map ofRaw).length = j := by rw [List.length_map]; exact hdl
      obtain ⟨w51, l52, hr51, ho51, hf51, _⟩ := append_oneK elP ho45 (x := ofRaw (raw, a, crc)) (by rw [hdm]; simp only [maxLen]; omega) (by rw [hdm]; omega) hb45 h50
      have hnb : ∀ x, l.a = some x → x.block ≠ b := fun x hx => by have := (ho45.blk hx).1; omega
      have hi51 : IdxAt w51 b l (PkM.fanB L) ⟨#[]⟩ := hi45.keep hf51 fun ⟨y, hy, e⟩ => hnb y hy e.symm
      have hi50 : IdxAt w50 b l (PkM.fanB L) ⟨#[]⟩ := by rw [h50]; exact hi45.keep (.alloc (fun _ => False) _ _) (by simp)
      have hF51 : Fr (fun _ => False) w w51 := hF45.trans hf51 fun q hq ⟨y, hy, e⟩ => by have := (ho45.blk hy).1; omega
      refine ⟨hi50, w51, l52, hr51, hi51, hi51.wr (by omega), fun w53 h53 => ?_⟩
      have hi53 : IdxAt w53 b l52 (PkM.fanB L) ⟨#[]⟩ := by rw [h53]; exact hi51.setRows l52
      have hf53 : Fr (· = b) w51 w53 := by rw [h53]; exact Fr.set _ _ _ rfl
      have ho53 := ho51.keep hf53 fun x hx e => by have := (ho51.blk hx).1; omega
      refine ⟨⟨j + 1, l52, done ++ [(raw, a, crc)], rfl, by omega, hi53, by rw [List.map_append]; exact ho53, by rw [List.length_append, hdl]; rfl, ?_, hset hF51 hf53, ?_⟩, by omega⟩
      · rw [hst] at hR'
        simp only at hR'
        rw [hrw, hR, ← hR', show n - (j + 1) = n - j - 1 by omega]
        cases PkM.rowsE L n (j + 1) (n - j - 1) with
        | error e => rfl
        | ok rs => simp
      · have h1 := hf51.size
        have h2 := hf53.size
        omega
    · have hge := of_decide_eq_false hge
      have hjn : j = n := by omega
      subst hjn
      have hrw' : PkM.rowsE L j 0 j = .ok done := by
        rw [hrw, Nat.sub_self, PkM.rowsE]
        simp
      rw [hrw'] at hE
      simp only at hE
      have hf54 := hf19.trans' (.drew _ d54)
      have hi54 := hi19.keep (.drew (fun _ => False) d54) (by simp)
      have ho54 := ho19.drew d54
      refine ⟨fun _ => True, trivial, ⟨by omega, by omega⟩, ⟨by omega, by omega⟩, (sum1_spec _ (by rw [ByteArray.size_extract]; omega) w54).mono ?_⟩
      rintro e w57 ⟨rfl, hf57⟩
      have hF57 := hf54.trans' hf57
      have hhead : (s.extract 0 (s.size - 20)).data.toList = L.take (L.length - 20) := by rw [bs_head, hL, hsz]
      have htail : (s.extract (s.size - 20) s.size).data.toList = L.drop (L.length - 20) := by rw [bs_tail, hL, hsz]
      rw [hhead]
      have hdec : decide ((⟨(digest block1 start1 (L.take (L.length - 20))).toArray⟩ : ByteArray) = s.extract (s.size - 20) s.size) = decide (sha1D (L.take (L.length - 20)) = L.drop (L.length - 20)) := decide_eq_decide.2 ⟨fun e => by
          have := congrArg (fun x : ByteArray => x.data.toList) e
          dsimp only at this
          rw [← htail]; exact this, fun e => bs_ext (by rw [bs_mk, htail]; exact e)⟩
      refine ⟨_, rfl, trivial, ?_⟩
      rw [bs_eq, hdec]
      refine ⟨fun h => bad (k := 5) hF57 (by rw [hE, if_pos (by simpa using h)]), fun h => ⟨⟨by omega, by omega, by omega⟩, (hex_spec _ (by rw [ByteArray.size_extract]; omega) w57).mono ?_⟩⟩
      rw [if_neg (by simpa using h)] at hE
      rintro e w60 ⟨rfl, hf60⟩
      have hsum : (s.extract (s.size - 40) (s.size - 20)).data.toList = PkM.sl L (L.length - 40) 20 := by
        have h1 := ex (s.size - 40) 20
        have h2 : s.size - 40 + 20 = s.size - 20 := by omega
        rw [h2] at h1
        rw [h1, hsz]
      rw [hsum]
      have hi60 := (hi54.keep hf57 (by simp)).keep hf60 (by simp)
      have ho60 := (ho54.keep hf57 (by simp)).keep hf60 (by simp)
      refine ⟨_, rfl, hi60.wr (by omega), fun w62 h62 => ?_⟩
      have hf62 : Fr (· = b) w60 w62 := by rw [h62]; exact Fr.set _ _ _ rfl
      refine ⟨hset (hF57.trans' hf60) hf62, ?_⟩
      rw [hE]
      refine ⟨b, rfl, by omega, ⟨l, _, by rw [h62]; exact hi60.setSum _, (ho60.keep hf62 fun x hx e => by have := (ho60.blk hx).1; omega).reads fun _ => rfl, ho60.1⟩⟩
end Go.Proofs.Ytoagdpjickippaa

/- Formulas of 2 Go functions of this seat (written by a program of the author's, vcgen.py), and that each is enough for the call. No condition. -/
set_option linter.unusedVariables false
namespace Go.Proofs.Ytoagdpjickippaa
open Go Vc Go.Proofs
set_option maxRecDepth 100000
/-- cartularyref01.Number -/
def vc_cartularyref01_Number (x0 : ByteArray) (w : World) (R : Value → World → Prop) : Prop :=
  ∃ I1 : Int → Int → World → Prop, ∃ I2 : Int → Int → World → Nat, (I1 0 0 w ∧
   ∀ n3 : Int,
   ∀ n4 : Int,
   ∀ w5 : World,
   (I1 n3 n4 w5 →
     (((decide (n4 < (↑(ByteArray.size x0) : Int)) = true →
        ((0 ≤ n4 ∧
          n4 < (↑(ByteArray.size x0) : Int)) ∧
         (I1 (IntKind.wrap IntKind.u64 (IntKind.wrap IntKind.u64 (256 * n3) + IntKind.wrap IntKind.u64 (byteAt x0 n4))) (IntKind.wrap IntKind.i64 (n4 + 1)) w5 ∧
          I2 (IntKind.wrap IntKind.u64 (IntKind.wrap IntKind.u64 (256 * n3) + IntKind.wrap IntKind.u64 (byteAt x0 n4))) (IntKind.wrap IntKind.i64 (n4 + 1)) w5 < I2 n3 n4 w5)))) ∧
      (decide (n4 < (↑(ByteArray.size x0) : Int)) = false →
        R (Value.int IntKind.u64 n3) w5))))
theorem vc_cartularyref01_Number_ok {x0 : ByteArray} {w : World} {R : Value → World → Prop} {R' : Ending → World → Prop} (h : vc_cartularyref01_Number x0 w R) (hR : ∀ v w', R v w' → R' (.returned v) w') :
    Calls Try.prog 32 #[.string x0] w R' :=
  calls_of_body (vs := [(.string x0, false)]) (ty := ty) (ann := ⟨[], [(3, [(3, .int .u64), (4, .int .i64)])], [], []⟩) (c := Try.f32.body.getD .skip) (by kernel_rfl) Try.func32 (by kernel_rfl) (by kernel_rfl) (Eq.mp (by kernel_rfl) h) hR
/-- cartularyref01.Unhex -/
def vc_cartularyref01_Unhex (x0 : ByteArray) (w : World) (R : Value → World → Prop) : Prop :=
  ∀ w1 : World,
  (w1 = World.alloc w (Obj.cells (Array.mk []) 5) →
    ∃ I2 : Sl → Int → World → Prop, ∃ I3 : Sl → Int → World → Nat, (I2 (Sl.mk (some (Addr.mk (Array.size (World.heap w)) 0 none)) 0 0) 0 w1 ∧
     ∀ l4 : Sl,
     ∀ n5 : Int,
     ∀ w6 : World,
     (I2 l4 n5 w6 →
       (((decide (IntKind.wrap IntKind.i64 (n5 + 1) < (↑(ByteArray.size x0) : Int)) = true →
          ((0 ≤ n5 ∧
            (n5 ≤ IntKind.wrap IntKind.i64 (n5 + 2) ∧
             IntKind.wrap IntKind.i64 (n5 + 2) ≤ (↑(ByteArray.size x0) : Int))) ∧
           ∃ w7 : World, ∃ l8 : Sl, (Sem.run Try.prog (convert 9 68 (Value.string (ByteArray.extract x0 (Int.toNat n5) (Int.toNat (IntKind.wrap IntKind.i64 (n5 + 2)))))) w6 = Result.ok (Value.slice l8.1 l8.2 l8.3) w7 ∧
            ∃ I9 : Int → Int → World → Prop, ∃ I10 : Int → Int → World → Nat, (I9 0 0 w7 ∧
             ∀ n11 : Int,
             ∀ n12 : Int,
             ∀ w13 : World,
             (I9 n11 n12 w13 →
               (((decide (n12 < (↑l8.2 : Int)) = true →
                  ((0 ≤ n12 ∧
                    n12 < (↑l8.2 : Int)) ∧
                   ∃ a14 : Addr, (l8.1 = some a14 ∧
                    ∃ n15 : Int, (World.cell? w13 (Addr.add a14 (Int.toNat n12 * 1)) = some (Value.int IntKind.u8 n15) ∧
                     (((decide (n15 > 57) = true →
                        (I9 (IntKind.wrap IntKind.i64 (IntKind.wrap IntKind.i64 (16 * n11) + IntKind.wrap IntKind.i64 (IntKind.wrap IntKind.u8 (IntKind.wrap IntKind.u8 (n15 - 39) - 48)))) (IntKind.wrap IntKind.i64 (n12 + 1)) w13 ∧
                         I10 (IntKind.wrap IntKind.i64 (IntKind.wrap IntKind.i64 (16 * n11) + IntKind.wrap IntKind.i64 (IntKind.wrap IntKind.u8 (IntKind.wrap IntKind.u8 (n15 - 39) - 48)))) (IntKind.wrap IntKind.i64 (n12 + 1)) w13 < I10 n11 n12 w13))) ∧
                      (decide (n15 > 57) = false →
                        (I9 (IntKind.wrap IntKind.i64 (IntKind.wrap IntKind.i64 (16 * n11) + IntKind.wrap IntKind.i64 (IntKind.wrap IntKind.u8 (n15 - 48)))) (IntKind.wrap IntKind.i64 (n12 + 1)) w13 ∧
                         I10 (IntKind.wrap IntKind.i64 (IntKind.wrap IntKind.i64 (16 * n11) + IntKind.wrap IntKind.i64 (IntKind.wrap IntKind.u8 (n15 - 48)))) (IntKind.wrap IntKind.i64 (n12 + 1)) w13 < I10 n11 n12 w13)))))))) ∧
                (decide (n12 < (↑l8.2 : Int)) = false →
                  ∀ w16 : World,
                  (w16 = World.alloc w13 (Obj.cells (Array.mk [Value.int IntKind.u8 (IntKind.wrap IntKind.u8 n11)]) 5) →
                    ∃ w17 : World, ∃ l18 : Sl, (Sem.run Try.prog (Builtin.append_ (Array.mk [68, 68]) 68 (Array.mk [Value.slice l4.1 l4.2 l4.3, Value.slice (some (Addr.mk (Array.size (World.heap w13)) 0 none)) 1 1])) w16 = Result.ok (Value.slice l18.1 l18.2 l18.3) w17 ∧
                     (I2 (Sl.mk l18.1 l18.2 l18.3) (IntKind.wrap IntKind.i64 (n5 + 2)) w17 ∧
                      I3 (Sl.mk l18.1 l18.2 l18.3) (IntKind.wrap IntKind.i64 (n5 + 2)) w17 < I3 l4 n5 w6))))))))))) ∧
        (decide (IntKind.wrap IntKind.i64 (n5 + 1) < (↑(ByteArray.size x0) : Int)) = false →
          ∃ w19 : World, ∃ s20 : ByteArray, (Sem.run Try.prog (convert 68 9 (Value.slice l4.1 l4.2 l4.3)) w6 = Result.ok (Value.string s20) w19 ∧
           R (Value.string s20) w19))))))
theorem vc_cartularyref01_Unhex_ok {x0 : ByteArray} {w : World} {R : Value → World → Prop} {R' : Ending → World → Prop} (h : vc_cartularyref01_Unhex x0 w R) (hR : ∀ v w', R v w' → R' (.returned v) w') :
    Calls Try.prog 40 #[.string x0] w R' :=
  calls_of_body (vs := [(.string x0, false)]) (ty := ty) (ann := ⟨[], [(3, [(3, .slice), (4, .int .i64)]), (7, [(5, .int .i64), (23, .int .i64)])], [], []⟩) (c := Try.f40.body.getD .skip) (by kernel_rfl) Try.func40 (by kernel_rfl) (by kernel_rfl) (Eq.mp (by kernel_rfl) h) hR
end Go.Proofs.Ytoagdpjickippaa

/- The reference's Number. Condition: at most eight bytes. -/
set_option linter.unusedVariables false
namespace Go.Proofs.Ytoagdpjickippaa
open Go Vc SumM Go.Proofs

theorem rnum_spec (s : ByteArray) (hs : s.size ≤ 8) (w : World) :
    Calls Try.prog F_cartularyref01_Number #[.string s] w fun e w' => e = .returned (.int .u64 ((num8 s.data.toList : Nat) : Int)) ∧ w' = w := by
  refine vc_cartularyref01_Number_ok (R := fun v w' => v = .int .u64 ((num8 s.data.toList : Nat) : Int) ∧ w' = w) ?_ (fun v w' h => ⟨by rw [h.1], h.2⟩)
  refine ⟨fun a i w5 => ∃ n : Nat, i = (n : Int) ∧ n ≤ s.size ∧ a = ((num8 (s.data.toList.take n) : Nat) : Int) ∧ w5 = w, fun a i w5 => s.size - i.toNat, ⟨0, rfl, Nat.zero_le _, rfl, rfl⟩, ?_⟩
  rintro a i w5 ⟨n, rfl, hn, rfl, hw⟩
  replace hw := hw.symm
  subst hw
  refine ⟨fun hlt => ?_, fun hge => ?_⟩
  · have hlt := of_decide_eq_true hlt
    have hb := byt_lt s n
    have hl : (s.data.toList.take n).length = n := by rw [List.length_take]; simp; omega
    have hv := num8_lt n _ hl
    have hp : 256 ^ n ≤ 256 ^ 7 := Nat.pow_le_pow_right (by decide) (by omega)
    have hsn := num8_snoc (s.data.toList.take n) (UInt8.ofNat (byt s n))
    rw [← take_byt s (by omega), toNat_byt] at hsn
    generalize num8 (s.data.toList.take n) = x at hsn hv ⊢
    have e2 : IntKind.u64.wrap (IntKind.u64.wrap (256 * (x : Int)) + IntKind.u64.wrap (byteAt s (n : Int))) = ((num8 (s.data.toList.take (n + 1)) : Nat) : Int) := by
      rw [byteAt_nat, wrap_u64 (x := 256 * (x : Int)) (by omega) (by omega), wrap_u64 (x := ((byt s n : Nat) : Int)) (by omega) (by omega), wrap_u64 (by omega) (by omega), hsn]
      omega
    have e3 : IntKind.i64.wrap ((n : Int) + 1) = ((n + 1 : Nat) : Int) := by rw [wrap_i64 (by omega) (by omega)]; omega
    refine ⟨⟨by omega, by omega⟩, ?_⟩
    rw [e2, e3]
    exact ⟨⟨n + 1, rfl, by omega, rfl, rfl⟩, by dsimp only; omega⟩
  · have hge := of_decide_eq_false hge
    have : n = s.size := by omega
    subst this
    rw [take_size]
    exact ⟨rfl, rfl⟩
end Go.Proofs.Ytoagdpjickippaa

/- Formulas of 1 Go functions of this seat (written by a program of the author's, vcgen.py), and that each is enough for the call. No condition. -/
set_option linter.unusedVariables false
namespace Go.Proofs.Ytoagdpjickippaa
open Go Vc Go.Proofs
set_option maxRecDepth 100000
/-- cartularyref01.Hex -/
def vc_cartularyref01_Hex (x0 : ByteArray) (w : World) (R : Value → World → Prop) : Prop :=
  ∃ I1 : ByteArray → Int → World → Prop, ∃ I2 : ByteArray → Int → World → Nat, (I1 (ByteArray.mk (Array.mk [])) 0 w ∧
   ∀ s3 : ByteArray,
   ∀ n4 : Int,
   ∀ w5 : World,
   (I1 s3 n4 w5 →
     (((decide (n4 < (↑(ByteArray.size x0) : Int)) = true →
        ((0 ≤ n4 ∧
          n4 < (↑(ByteArray.size x0) : Int)) ∧
         ((16 : Int) ≠ (0 : Int) ∧
          ((16 : Int) ≠ (0 : Int) ∧
           ((0 ≤ IntKind.wrap IntKind.u8 (Int.tdiv (byteAt x0 n4) 16) ∧
             (IntKind.wrap IntKind.u8 (Int.tdiv (byteAt x0 n4) 16) ≤ IntKind.wrap IntKind.u8 (IntKind.wrap IntKind.u8 (Int.tdiv (byteAt x0 n4) 16) + 1) ∧
              IntKind.wrap IntKind.u8 (IntKind.wrap IntKind.u8 (Int.tdiv (byteAt x0 n4) 16) + 1) ≤ (↑(ByteArray.size (ByteArray.mk (Array.mk [48, 49, 50, 51, 52, 53, 54, 55, 56, 57, 97, 98, 99, 100, 101, 102]))) : Int))) ∧
            ((16 : Int) ≠ (0 : Int) ∧
             ((16 : Int) ≠ (0 : Int) ∧
              ((0 ≤ Int.tmod (byteAt x0 n4) 16 ∧
                (Int.tmod (byteAt x0 n4) 16 ≤ IntKind.wrap IntKind.u8 (Int.tmod (byteAt x0 n4) 16 + 1) ∧
                 IntKind.wrap IntKind.u8 (Int.tmod (byteAt x0 n4) 16 + 1) ≤ (↑(ByteArray.size (ByteArray.mk (Array.mk [48, 49, 50, 51, 52, 53, 54, 55, 56, 57, 97, 98, 99, 100, 101, 102]))) : Int))) ∧
               (ByteArray.size (ByteArray.extract (ByteArray.mk (Array.mk [48, 49, 50, 51, 52, 53, 54, 55, 56, 57, 97, 98, 99, 100, 101, 102])) (Int.toNat (IntKind.wrap IntKind.u8 (Int.tdiv (byteAt x0 n4) 16))) (Int.toNat (IntKind.wrap IntKind.u8 (IntKind.wrap IntKind.u8 (Int.tdiv (byteAt x0 n4) 16) + 1)))) + ByteArray.size (ByteArray.extract (ByteArray.mk (Array.mk [48, 49, 50, 51, 52, 53, 54, 55, 56, 57, 97, 98, 99, 100, 101, 102])) (Int.toNat (Int.tmod (byteAt x0 n4) 16)) (Int.toNat (IntKind.wrap IntKind.u8 (Int.tmod (byteAt x0 n4) 16 + 1)))) ≤ 9223372036854775807 ∧
                (ByteArray.size s3 + ByteArray.size (ByteArray.extract (ByteArray.mk (Array.mk [48, 49, 50, 51, 52, 53, 54, 55, 56, 57, 97, 98, 99, 100, 101, 102])) (Int.toNat (IntKind.wrap IntKind.u8 (Int.tdiv (byteAt x0 n4) 16))) (Int.toNat (IntKind.wrap IntKind.u8 (IntKind.wrap IntKind.u8 (Int.tdiv (byteAt x0 n4) 16) + 1))) ++ ByteArray.extract (ByteArray.mk (Array.mk [48, 49, 50, 51, 52, 53, 54, 55, 56, 57, 97, 98, 99, 100, 101, 102])) (Int.toNat (Int.tmod (byteAt x0 n4) 16)) (Int.toNat (IntKind.wrap IntKind.u8 (Int.tmod (byteAt x0 n4) 16 + 1)))) ≤ 9223372036854775807 ∧
                 ∀ w6 : World,
                 (Drew w5 w6 →
                   (I1 (s3 ++ (ByteArray.extract (ByteArray.mk (Array.mk [48, 49, 50, 51, 52, 53, 54, 55, 56, 57, 97, 98, 99, 100, 101, 102])) (Int.toNat (IntKind.wrap IntKind.u8 (Int.tdiv (byteAt x0 n4) 16))) (Int.toNat (IntKind.wrap IntKind.u8 (IntKind.wrap IntKind.u8 (Int.tdiv (byteAt x0 n4) 16) + 1))) ++ ByteArray.extract (ByteArray.mk (Array.mk [48, 49, 50, 51, 52, 53, 54, 55, 56, 57, 97, 98, 99, 100, 101, 102])) (Int.toNat (Int.tmod (byteAt x0 n4) 16)) (Int.toNat (IntKind.wrap IntKind.u8 (Int.tmod (byteAt x0 n4) 16 + 1))))) (IntKind.wrap IntKind.i64 (n4 + 1)) w6 ∧
                    I2 (s3 ++ (ByteArray.extract (ByteArray.mk (Array.mk [48, 49, 50, 51, 52, 53, 54, 55, 56, 57, 97, 98, 99, 100, 101, 102])) (Int.toNat (IntKind.wrap IntKind.u8 (Int.tdiv (byteAt x0 n4) 16))) (Int.toNat (IntKind.wrap IntKind.u8 (IntKind.wrap IntKind.u8 (Int.tdiv (byteAt x0 n4) 16) + 1))) ++ ByteArray.extract (ByteArray.mk (Array.mk [48, 49, 50, 51, 52, 53, 54, 55, 56, 57, 97, 98, 99, 100, 101, 102])) (Int.toNat (Int.tmod (byteAt x0 n4) 16)) (Int.toNat (IntKind.wrap IntKind.u8 (Int.tmod (byteAt x0 n4) 16 + 1))))) (IntKind.wrap IntKind.i64 (n4 + 1)) w6 < I2 s3 n4 w5))))))))))))) ∧
      (decide (n4 < (↑(ByteArray.size x0) : Int)) = false →
        R (Value.string s3) w5))))
theorem vc_cartularyref01_Hex_ok {x0 : ByteArray} {w : World} {R : Value → World → Prop} {R' : Ending → World → Prop} (h : vc_cartularyref01_Hex x0 w R) (hR : ∀ v w', R v w' → R' (.returned v) w') :
    Calls Try.prog 33 #[.string x0] w R' :=
  calls_of_body (vs := [(.string x0, false)]) (ty := ty) (ann := ⟨[], [(3, [(3, .str), (4, .int .i64)])], [(6, .quiet)], []⟩) (c := Try.f33.body.getD .skip) (by kernel_rfl) Try.func33 (by kernel_rfl) (by kernel_rfl) (Eq.mp (by kernel_rfl) h) hR
end Go.Proofs.Ytoagdpjickippaa

/- The reference's Hex. Conditions: as named. -/
set_option linter.unusedVariables false
namespace Go.Proofs.Ytoagdpjickippaa
open Go Vc HexM Go.Proofs

/-- The reference's 'Hex'. -/
theorem rhex_spec (s : ByteArray) (hs : s.size ≤ 1000000000) (w : World) : Calls Try.prog F_cartularyref01_Hex #[.string s] w fun e w' => e = .returned (.string ⟨(hexL s.data.toList).toArray⟩) ∧ Drew w w' := by
  refine vc_cartularyref01_Hex_ok (R := fun v w' => v = .string ⟨(hexL s.data.toList).toArray⟩ ∧ Drew w w') ?_ (fun v w' h => ⟨by rw [h.1], h.2⟩)
  refine ⟨fun t n w' => ∃ k : Nat, n = k ∧ k ≤ s.size ∧ t = ⟨(hexL (s.data.toList.take k)).toArray⟩ ∧ Drew w w', fun _ n _ => s.size - n.toNat, ⟨0, rfl, Nat.zero_le _, rfl, .refl _⟩, ?_⟩
  rintro t n w5 ⟨k, rfl, hk, rfl, hd⟩
  have e1 : IntKind.i64.wrap ((k : Int) + 1) = ((k + 1 : Nat) : Int) := by rw [wrap_i64 (by omega) (by omega)]; omega
  rw [e1]
  refine ⟨fun hlt => ?_, fun hge => ?_⟩
  · have hlt := of_decide_eq_true hlt
    have hb := byt_lt s k
    have hlit : ByteArray.size ⟨#[48, 49, 50, 51, 52, 53, 54, 55, 56, 57, 97, 98, 99, 100, 101, 102]⟩ = 16 := rfl
    rw [byteAt_nat]
    have e2 : IntKind.u8.wrap (Int.tdiv ((byt s k : Nat) : Int) 16) = ((byt s k / 16 : Nat) : Int) := by
      rw [show (16 : Int) = ((16 : Nat) : Int) from rfl, ← Int.ofNat_tdiv, wrap_u8 (by omega) (by omega)]
    have e3 : Int.tmod ((byt s k : Nat) : Int) 16 = ((byt s k % 16 : Nat) : Int) := by rw [show (16 : Int) = ((16 : Nat) : Int) from rfl, Int.ofNat_tmod]
    have e4 : ∀ q : Nat, q < 16 → IntKind.u8.wrap ((q : Int) + 1) = ((q + 1 : Nat) : Int) := fun q hq => by rw [wrap_u8 (by omega) (by omega)]; omega
    have hsub : ∀ q : Nat, q < 16 → (ByteArray.extract ⟨#[48, 49, 50, 51, 52, 53, 54, 55, 56, 57, 97, 98, 99, 100, 101, 102]⟩ q (q + 1)) = ⟨#[UInt8.ofNat (hx q)]⟩ := fun q hq => by
      refine bs_ext ?_
      rw [bs_extract, show q + 1 - q = 1 by omega]
      have hg := bs_get (s := ⟨#[48, 49, 50, 51, 52, 53, 54, 55, 56, 57, 97, 98, 99, 100, 101, 102]⟩) (i := q) (by rw [hlit]; exact hq)
      have hh := hexdig_at q hq
      rw [byteAt_nat] at hh
      have hh : byt ⟨#[48, 49, 50, 51, 52, 53, 54, 55, 56, 57, 97, 98, 99, 100, 101, 102]⟩ q = hx q := by omega
      rw [hh] at hg
      rw [List.drop_eq_getElem?_toList_append, hg]; rfl
    rw [e2, e3, e4 _ (by omega), e4 _ (by omega)]
    simp only [Int.toNat_natCast]
    rw [hsub _ (by omega), hsub _ (by omega), hlit]
    refine ⟨⟨by omega, by omega⟩, by decide, by decide, ⟨by omega, by omega, by omega⟩, by decide, by decide, ⟨by omega, by omega, by omega⟩, ?_, ?_, fun w6 d6 => ⟨⟨k + 1, rfl, by omega, ?_, hd.trans d6⟩, by omega⟩⟩
    · show (1 : Nat) + 1 ≤ 9223372036854775807
      decide
    · rw [bs_mksize, hexL_length, List.length_take, bs_len]
      show 2 * min k s.size + 2 ≤ 9223372036854775807
      omega
    · refine bs_ext ?_
      rw [bs_app, bs_mk, bs_mk, bs_take (by omega), hexL_snoc, toNat_of _ hb]; rfl
  · have hge := of_decide_eq_false hge
    have : k = s.size := by omega
    subst this
    rw [bs_all]
    exact ⟨rfl, hd⟩
end Go.Proofs.Ytoagdpjickippaa

/- Slices of the call's own whose row may bear the run-time's mark behind its last cell, as that of a text's bytes. No condition: for all programs. -/
set_option linter.unusedVariables false
namespace Vc
open Go

/-- As 'Own', but the row may bear the mark behind its cells. -/
def OwnZ (w : World) (base : Nat) (e : TypeId) (l : Sl) (xs : List Value) : Prop :=
  xs.length = l.len ∧ ((l.a = none ∧ l.len = 0 ∧ l.cap = 0) ∨
    ∃ g cur fz, l.a = some ⟨g, 0, none⟩ ∧ base ≤ g ∧ w.heap[g]? = some (.cells cur e fz) ∧ (cur.size ≤ fz.1 ∨ fz.2 = 0) ∧ l.len ≤ l.cap ∧ l.cap ≤ maxLen ∧ cur.size = l.cap ∧ cur.toList.take l.len = xs)
section
variable {w w1 : World} {base : Nat} {e : TypeId} {l : Sl} {xs : List Value}
theorem OwnZ.of (h : Own w base e l xs) : OwnZ w base e l xs := by
  refine ⟨h.1, ?_⟩
  rcases h.2 with hn | ⟨g, cur, ha, hb, hg, hl, hm, hs, ht⟩
  · exact .inl hn
  · exact .inr ⟨g, cur, (0, 0), ha, hb, hg, .inr rfl, hl, hm, hs, ht⟩
theorem OwnZ.len (h : OwnZ w base e l xs) : l.len = xs.length := h.1.symm
theorem OwnZ.blk (h : OwnZ w base e l xs) {x : Addr} (hx : l.a = some x) : base ≤ x.block ∧ x.block < w.heap.size := by
  rcases h.2 with ⟨ha, _⟩ | ⟨g, cur, fz, ha, hb, hg, _⟩
  · rw [ha] at hx; cases hx
  · rw [ha] at hx; cases hx; exact ⟨hb, lt_blk hg⟩
theorem OwnZ.keep (h : OwnZ w base e l xs) {X : Nat → Prop} (hf : Fr X w w1) (hx : ∀ x, l.a = some x → ¬ X x.block) : OwnZ w1 base e l xs := by
  refine ⟨h.1, ?_⟩
  rcases h.2 with hn | ⟨g, cur, fz, ha, hb, hg, r⟩
  · exact .inl hn
  · exact .inr ⟨g, cur, fz, ha, hb, hf.keep hg (hx _ ha), r⟩
theorem OwnZ.cap (h : OwnZ w base e l xs) : l.len ≤ l.cap := by
  rcases h.2 with ⟨_, h2, h3⟩ | ⟨_, _, _, _, _, _, _, hl, _⟩
  · omega
  · exact hl
theorem OwnZ.reads (h : OwnZ w base e l xs) : Reads w l.a xs := fun i v hv => by
  rcases h.2 with ⟨_, h2, _⟩ | ⟨g, cur, fz, ha, hb, hg, hz, hl, hm, hs, ht⟩
  · have h1 := h.1
    rw [h2] at h1
    rw [List.length_eq_zero_iff.1 h1] at hv; simp at hv
  · refine ⟨_, ha, ?_⟩
    rw [add_lit, cell_blk hg, Nat.zero_add]
    rw [← ht, List.getElem?_take] at hv
    split at hv
    · simpa using hv
    · cases hv
theorem OwnZ.nil (w : World) (base : Nat) (e : TypeId) : OwnZ w base e ⟨none, 0, 0⟩ [] := ⟨rfl, .inl ⟨rfl, rfl, rfl⟩⟩
theorem frozen_z {b : Nat} {cs : Array Value} {t : TypeId} {fz : Nat × Nat} (h : w.heap[b]? = some (.cells cs t fz)) (hz : cs.size ≤ fz.1 ∨ fz.2 = 0) {i : Nat} (hi : i < cs.size) : w.frozen? ⟨b, i, none⟩ = false := by
  obtain ⟨lo, hi'⟩ := fz
  simp only [World.frozen?, h]
  rcases hz with hz | hz
  · have : ¬ lo ≤ i := by simp only at hz; omega
    simp [this]
  · simp only at hz; simp [hz]
/-- One element set. -/
theorem OwnZ.set (h : OwnZ w base e l xs) {i : Nat} (hi : i < xs.length) :
    ∃ x, l.a = some x ∧ w.cell? (x.add i) = some xs[i] ∧ Wr w (x.add i) ∧ ∀ v, OwnZ (w.setCell (x.add i) v) base e l (xs.set i v) ∧ Fr (At l) w (w.setCell (x.add i) v) := by
  obtain ⟨x, hx, hc⟩ := h.reads.at hi
  rcases h.2 with ⟨_, h2, _⟩ | ⟨g, cur, fz, ha, hb, hg, hz, hl, hm, hs, ht⟩
  · have := h.1; omega
  · rw [ha] at hx; cases hx
    have hil : i < cur.size := by have := h.1; omega
    refine ⟨_, ha, hc, ⟨⟨_, hc⟩, by rw [add_lit, Nat.zero_add]; exact frozen_z hg hz hil⟩, fun v => ⟨⟨by simpa using h.1, .inr ⟨g, cur.setIfInBounds i v, fz, ha, hb, ?_, by simpa using hz, hl, hm, by simpa using hs, ?_⟩⟩, .set _ _ _ ⟨_, ha, add_block _ _⟩⟩⟩
    · rw [add_lit, Nat.zero_add]; exact set_blk hg i v
    · rw [Array.toList_setIfInBounds, List.take_set, ht]
end
theorem setCells_blk (g : Nat) (e : TypeId) (fz : Nat × Nat) : ∀ (vs : List Value) (o : Nat) (cur : Array Value) (w : World), w.heap[g]? = some (.cells cur e fz) → o + vs.length ≤ cur.size →
    ∃ cur', (w.setCells g o vs).heap[g]? = some (.cells cur' e fz) ∧ cur'.size = cur.size ∧ cur'.toList.take (o + vs.length) = cur.toList.take o ++ vs
  | [], o, cur, w, h, hl => ⟨cur, h, rfl, by simp⟩
  | v :: r, o, cur, w, h, hl => by
    have h1 := set_blk h o v
    simp only [List.length_cons] at hl
    obtain ⟨cur', h2, h3, h4⟩ := setCells_blk g e fz r (o + 1) (cur.setIfInBounds o v) (w.setCell ⟨g, o, none⟩ v) h1 (by rw [Array.size_setIfInBounds]; omega)
    refine ⟨cur', h2, by simpa using h3, ?_⟩
    rw [List.length_cons, show o + (r.length + 1) = o + 1 + r.length by omega, h4, Array.toList_setIfInBounds, List.take_set]
    have ho : o < cur.toList.length := by simp; omega
    rw [List.take_succ_eq_append_getElem ho, List.set_append_right _ _ (by rw [List.length_take]; omega)]
    have : o - (cur.toList.take o).length = 0 := by rw [List.length_take]; omega
    rw [this]; simp
theorem setCells_fr (g : Nat) : ∀ (vs : List Value) (o : Nat) (w : World), Fr (· = g) w (w.setCells g o vs)
  | [], o, w => .refl _ _
  | v :: r, o, w => (Fr.set (· = g) w (a := ⟨g, o, none⟩) v rfl).trans' (setCells_fr g r (o + 1) _)
section
variable {P : Program} {t e : TypeId} {z : Value} {bytes : Nat} {w : World} {base : Nat} {l : Sl} {xs : List Value}
theorem append_z (el : El P t e z bytes) (h : OwnZ w base e l xs) (x : Addr) (c : Nat) (news : List Value) (hn : ∀ j u, news[j]? = some u → w.cell? (x.add j) = some u) (h1 : ∀ u ∈ news, u.oneCell' = true)
    (hm : xs.length + news.length ≤ maxLen) (hb : (xs.length + news.length) * bytes ≤ 140737488355328) (hbase : base ≤ w.heap.size) :
    ∃ w' l', (Builtin.append_ #[t, t] t #[.slice l.a l.len l.cap, .slice (some x) news.length c]).run P w = .ok (.slice l'.a l'.len l'.cap) w' ∧ OwnZ w' base e l' (xs ++ news) ∧ Fr (At l) w w' ∧ Since w l l' := by
  obtain ⟨i, hi, hi2⟩ := Option.map_eq_some_iff.1 el.info
  simp only [Prod.mk.injEq] at hi2
  obtain ⟨hz, hs1, hby⟩ := hi2
  have hlen := h.1
  rcases h.2 with ⟨ha, hl0, hc0⟩ | ⟨g, cur, fz, ha, hbg, hg, hzz, hl, hmx, hs, ht⟩
  · have hx : xs = [] := List.eq_nil_of_length_eq_zero (by omega)
    have ho : Own w base e l xs := ⟨hlen, .inl ⟨ha, hl0, hc0⟩⟩
    obtain ⟨w', l', hr, o', f'⟩ := append_run el ho x c news hn h1 hm hb hbase
    exact ⟨w', l', hr, .of o', f', since_run el ho x c news hn h1 hm hb hr⟩
  · have hml : maxLen ≤ 9223372036854775807 := by decide
    by_cases hroom : l.len + news.length ≤ l.cap
    · have hf := run_firstCells_some (P := P) w i.size news.length x news.length c news (by rw [hs1]; omega) hn
      have hst := run_storeCells_cells (P := P) g l.len news 0 w (fun j hj => by rw [Nat.add_zero, cell_blk hg]; simp; omega) (fun j hj => by rw [Nat.add_zero]; exact frozen_z hg hzz (by omega)) h1
      rw [Nat.add_zero] at hst
      obtain ⟨cur', k1, k2, k3⟩ := setCells_blk g e fz news l.len cur w hg (by omega)
      refine ⟨w.setCells g l.len news, ⟨l.a, l.len + news.length, l.cap⟩, ?_, ⟨by simp only [List.length_append]; omega, .inr ⟨g, cur', fz, ha, hbg, k1, by rw [k2]; exact hzz, hroom, hmx, by rw [k2]; exact hs, by simp only; rw [k3, ht]⟩⟩,
        (setCells_fr g news l.len w).mono fun k _ hk => ⟨_, ha, hk⟩, fun y hy => .inl ⟨y, hy, rfl⟩⟩
      rw [ha]
      rw [hs1] at hf
      simp [Builtin.append_, run_underlying el.sl, Go.sizeOf, typeInfo, hi, hs1, Builtin.lenOf, hroom, hf, Addr.add_lit, hst]
    · have holds : ∀ j u, xs[j]? = some u → w.cell? ((⟨g, 0, none⟩ : Addr).add j) = some u := fun j u hu => by
        obtain ⟨q, hq, hc⟩ := h.reads j u hu
        rw [ha] at hq; cases hq; exact hc
      have hr := run_append_grow (P := P) w t t e i z el.sl hi hz ⟨g, 0, none⟩ l.len l.cap xs (by rw [hs1]; omega) holds x news.length c news (by rw [hs1]; omega) hn (by omega) (by omega) (growslice_fits (by omega) (by rw [hby, ← hlen]; exact hb))
      have hge := grownCap_ge w (l.len + news.length) l.cap e
      have hcm2 : grownCap w (l.len + news.length) l.cap e ≤ maxLen := grownCap_le_maxLen w (l.len + news.length) l.cap e (by omega)
      rw [← ha] at hr
      refine ⟨_, ⟨some ⟨w.heap.size, 0, none⟩, l.len + news.length, grownCap w (l.len + news.length) l.cap e⟩, hr, ⟨by simp only [List.length_append]; omega, .inr ⟨w.heap.size, _, (0, 0), rfl, hbase, heap_alloc_new w.drew _, .inr rfl, hge, hcm2, ?_, ?_⟩⟩, ⟨rfl, rfl, rfl, by simp, fun k hk _ => alloc_old w.drew _ hk⟩, fun y hy => by cases hy; exact .inr (Nat.le_refl _)⟩
      · have := el.one
        simp only [Array.size_append, List.size_toArray, size_zeroCells, this, Nat.mul_one]
        omega
      · simp only [Array.toList_append, List.append_assoc]
        rw [← List.append_assoc]
        have : l.len + news.length = (xs ++ news).length := by rw [List.length_append]; omega
        rw [this]; exact List.take_left
theorem append_one_z (el : El P t e z bytes) (h : OwnZ w base e l xs) {v : Value} (hv : v.oneCell' = true)
    (hm : xs.length + 1 ≤ maxLen) (hb : (xs.length + 1) * bytes ≤ 140737488355328) (hbase : base ≤ w.heap.size) {w2 : World} (hw2 : w2 = w.alloc (.cells #[v] e)) :
    ∃ w' l', (Builtin.append_ #[t, t] t #[.slice l.a l.len l.cap, .slice (some ⟨w.heap.size, 0, none⟩) 1 1]).run P w2 = .ok (.slice l'.a l'.len l'.cap) w' ∧ OwnZ w' base e l' (xs ++ [v]) ∧
      Fr (At l) w w' ∧ Since w l l' := by
  subst hw2
  have h2 : OwnZ (w.alloc (.cells #[v] e)) base e l xs := h.keep (.alloc (fun _ => False) _ _) (by simp)
  obtain ⟨w', l', hr, ho, hf, hs⟩ := append_z el h2 ⟨w.heap.size, 0, none⟩ 1 [v] (fun j u hu => by
      cases j with
      | zero => simp at hu; subst hu; rw [add_lit, cell_blk (alloc_new w _)]; rfl
      | succ j => simp at hu) (by simpa using hv) (by simpa using hm) (by simpa using hb) (by simp; omega)
  refine ⟨w', l', hr, ho, (Fr.alloc _ _ _).trans' hf, fun y hy => ?_⟩
  rcases hs y hy with hx | hn
  · exact .inl hx
  · simp only [World.alloc, Array.size_push] at hn
    exact .inr (by omega)
theorem append_all_z (el : El P t e z bytes) (h : OwnZ w base e l xs) {src : Option Addr} (c : Nat) {news : List Value} (hr : Reads w src news) (h1 : ∀ u ∈ news, u.oneCell' = true)
    (hm : xs.length + news.length ≤ maxLen) (hb : (xs.length + news.length) * bytes ≤ 140737488355328) (hbase : base ≤ w.heap.size) {m : Nat} (hlen : news.length = m) :
    ∃ w' l', (Builtin.append_ #[t, t] t #[.slice l.a l.len l.cap, .slice src m c]).run P w = .ok (.slice l'.a l'.len l'.cap) w' ∧ OwnZ w' base e l' (xs ++ news) ∧
      Fr (At l) w w' ∧ Since w l l' := by
  subst hlen
  cases src with
  | some x => exact append_z el h x c news (fun j u hu => by obtain ⟨y, hy, hc⟩ := hr j u hu; cases hy; exact hc) h1 hm hb hbase
  | none =>
    have hn : news = [] := by
      cases news with
      | nil => rfl
      | cons v r => obtain ⟨y, hy, _⟩ := hr 0 v rfl; cases hy
    subst hn
    refine ⟨w, l, ?_, by simpa using h, .refl _ _, .refl _ _⟩
    obtain ⟨i, hi, hi2⟩ := Option.map_eq_some_iff.1 el.info
    have hcap := h.cap
    cases ha : l.a <;> simp [Builtin.append_, run_underlying el.sl, Go.sizeOf, typeInfo, hi, Builtin.lenOf, Builtin.firstCells, hcap, storeCells]
/-- '[]byte(s)'. -/
theorem bytes_of {src dst : TypeId} (hs : P.underlying src = some .string) (hd : P.underlying dst = some (.slice e)) (he : P.underlying e = some (.int .u8)) (s : ByteArray) (hl : s.size ≤ maxLen) (w : World) :
    ∃ w' l', (convert src dst (.string s)).run P w = .ok (.slice l'.a l'.len l'.cap) w' ∧ OwnZ w' w.heap.size e l' (byteV s.data.toList) ∧ Fr (fun _ => False) w w' := by
  have hr := run_bytes_of_string (P := P) w src dst e s hs hd he
  have hge := grownCap_ge w s.size 0 e
  have hcm2 : grownCap w s.size 0 e ≤ maxLen := grownCap_le_maxLen w s.size 0 e hl
  refine ⟨_, ⟨some ⟨w.heap.size, 0, none⟩, s.size, grownCap w s.size 0 e⟩, hr, ⟨by simp, .inr ⟨w.heap.size, _, _, rfl, Nat.le_refl _, heap_alloc_new w.drew _, .inl (Nat.le_refl _), hge, hcm2, ?_, ?_⟩⟩, ⟨rfl, rfl, rfl, by simp, fun k hk _ => alloc_old w.drew _ hk⟩⟩
  · have : s.data.size = s.size := rfl
    simp only [bytesRow, Array.size_append, Array.size_map, Array.size_replicate, this]; omega
  · have : s.size = (byteV s.data.toList).length := by simp
    simp only [bytesRow, Array.toList_append, Array.toList_map]
    rw [this]; exact List.take_left
end
end Vc

/- What the reference's Pad, words and out do. Conditions: the texts are short enough for a slice to hold (2 to the 40th). -/
set_option linter.unusedVariables false
namespace Go.Proofs.Ytoagdpjickippaa
open Go Vc ShaM Go.Proofs

/-- 'Pad'. -/
theorem rpad_spec (x : ByteArray) (hx : x.size ≤ 1099511627776) (w : World) : Calls Try.prog F_cartularyref02_Pad #[.string x] w fun e w' => ∃ l : Sl, e = .returned (.slice l.a l.len l.cap) ∧ OwnZ w' w.heap.size T_uint8 l (byteV (pad x.data.toList)) ∧ Fr (fun _ => False) w w' := by
  refine vc_cartularyref02_Pad_ok (R := fun v w' => ∃ l : Sl, v = .slice l.a l.len l.cap ∧ OwnZ w' w.heap.size T_uint8 l (byteV (pad x.data.toList)) ∧ Fr (fun _ => False) w w') ?_ (fun v w' ⟨l, h⟩ => ⟨l, by rw [h.1], h.2⟩)
  obtain ⟨w1, l2, hr1, o1, f1⟩ := bytes_of (P := Try.prog) (src := T_string) (dst := T_S_uint8) (e := T_uint8) (by kernel_rfl) elByte.sl (by kernel_rfl) x (by unfold maxLen; omega) w
  refine ⟨w1, l2, hr1, ?_⟩
  intro w3 hw3
  obtain ⟨X, hX⟩ : ∃ X, x.data.toList = X := ⟨_, rfl⟩
  have hXl : X.length = x.size := by rw [← hX]; simp
  rw [hX] at o1 ⊢
  obtain ⟨w4, l5, hr4, o4, f4, _⟩ := append_one_z elByte o1 (v := .int .u8 128) rfl (by rw [List.length_map]; unfold maxLen; omega) (by rw [List.length_map]; omega) f1.size hw3
  refine ⟨w4, l5, hr4, ?_⟩
  have hF : ∀ {w' w2 : World} {l : Sl} {xs : List Value}, Fr (fun _ => False) w w' → OwnZ w' w.heap.size T_uint8 l xs → Fr (Vc.At l) w' w2 → Fr (fun _ => False) w w2 := fun {w' w2 l xs} hf o h2 => hf.trans h2 fun q hq ⟨y, hy, e⟩ => by have := (o.blk hy).1; omega
  have o4' : OwnZ w4 w.heap.size T_uint8 l5 (byteV (X ++ 0x80 :: List.replicate 0 0)) := by rw [byteV, List.map_append]; exact o4
  refine ⟨fun l w' => ∃ j : Nat, j ≤ (119 - X.length % 64) % 64 ∧ OwnZ w' w.heap.size T_uint8 l (byteV (X ++ 0x80 :: List.replicate j 0)) ∧ Fr (fun _ => False) w w', fun l _ => (2 ^ 45 - l.len), ⟨0, Nat.zero_le _, o4', hF f1 o1 f4⟩, ?_⟩
  rintro l8 w9 ⟨j, hj, o9, f9⟩
  have hll : l8.len = X.length + 1 + j := by rw [o9.len, List.length_map, List.length_append, List.length_cons, List.length_replicate]; omega
  have e0 : Int.tmod (l8.len : Int) 64 = (((X.length + 1 + j) % 64 : Nat) : Int) := by rw [Int.tmod_eq_emod_of_nonneg (by omega)]; omega
  refine ⟨by decide, ?_⟩
  rw [e0]
  refine ⟨fun hne => ?_, fun heq => ?_⟩
  · have hne : ¬ (X.length + 1 + j) % 64 = 56 := fun h => by rw [h] at hne; exact absurd hne (by decide)
    intro w10 hw10
    have hvl : (byteV (X ++ 0x80 :: List.replicate j 0)).length = X.length + 1 + j := by rw [List.length_map, List.length_append, List.length_cons, List.length_replicate]; omega
    obtain ⟨w11, l12, hr11, o11, f11, _⟩ := append_one_z elByte o9 (v := .int .u8 0) rfl (by rw [hvl]; unfold maxLen; omega) (by rw [hvl]; omega) f9.size hw10
    have hl12 := o11.len
    rw [List.length_append, hvl, List.length_singleton] at hl12
    refine ⟨w11, l12, hr11, ⟨j + 1, by omega, ?_, hF f9 o9 f11⟩, by dsimp only; omega⟩
    have : X ++ 0x80 :: List.replicate (j + 1) 0 = (X ++ 0x80 :: List.replicate j 0) ++ [0] := by rw [List.replicate_succ', List.append_assoc]; rfl
    rw [this, byteV, List.map_append]; exact o11
  have heq : (X.length + 1 + j) % 64 = 56 := by
    by_cases h : (X.length + 1 + j) % 64 = 56
    · exact h
    · exfalso
      have : ((((X.length + 1 + j) % 64 : Nat) : Int) != 56) = true := by simp; omega
      rw [this] at heq; cases heq
  have hjz : j = (119 - X.length % 64) % 64 := by omega
  obtain ⟨bs, hbs⟩ : ∃ bs : List UInt8, (List.range 8).map (fun i => UInt8.ofNat (X.length * 8 / 2 ^ (56 - 8 * i))) = bs := ⟨_, rfl⟩
  have hbl : bs.length = 8 := by rw [← hbs]; simp
  have hpad : pad X = (X ++ 0x80 :: List.replicate j 0) ++ bs := by unfold pad; rw [hbs, ← hjz]
  obtain ⟨Y, hY⟩ : ∃ Y, X ++ 0x80 :: List.replicate j 0 = Y := ⟨_, rfl⟩
  have hYl : Y.length = X.length + 1 + j := by rw [← hY, List.length_append, List.length_cons, List.length_replicate]; omega
  rw [hY] at o9 hpad
  rw [hpad]
  refine ⟨fun l i w' => ∃ m : Nat, m ≤ 8 ∧ i = 7 - (m : Int) ∧ OwnZ w' w.heap.size T_uint8 l (byteV (Y ++ bs.take m)) ∧ Fr (fun _ => False) w w', fun _ i _ => (i + 1).toNat, ⟨0, by decide, rfl, by rw [List.take_zero, List.append_nil]; exact o9, f9⟩, ?_⟩
  rintro l15 i w17 ⟨m, hm, rfl, o17, f17⟩
  refine ⟨fun hge => ?_, fun hlt => ?_⟩
  · have hge := of_decide_eq_true hge
    have hm8 : m < 8 := by omega
    have e1 : IntKind.i64.wrap (8 * (7 - (m : Int))) = ((56 - 8 * m : Nat) : Int) := by rw [wrap_i64 (by omega) (by omega)]; omega
    have e2 : IntKind.i64.wrap (7 - (m : Int) - 1) = 7 - ((m + 1 : Nat) : Int) := by rw [wrap_i64 (by omega) (by omega)]; omega
    have hg : bs[m]'(by omega) = UInt8.ofNat (X.length * 8 / 2 ^ (56 - 8 * m)) := by
      have h1 : bs[m]? = some (UInt8.ofNat (X.length * 8 / 2 ^ (56 - 8 * m))) := by
        rw [← hbs, List.getElem?_map, List.getElem?_range hm8]; rfl
      exact (List.getElem?_eq_some_iff.1 h1).2
    have htk : bs.take (m + 1) = bs.take m ++ [UInt8.ofNat (X.length * 8 / 2 ^ (56 - 8 * m))] := by rw [List.take_succ_eq_append_getElem (by omega), hg]
    have ev : IntKind.u8.wrap (Int.fdiv (IntKind.u64.wrap (IntKind.u64.wrap (x.size : Int) * 8)) (2 ^ min (Int.toNat ((56 - 8 * m : Nat) : Int)) 64)) = (((UInt8.ofNat (X.length * 8 / 2 ^ (56 - 8 * m))).toNat : Nat) : Int) := by
      have h1 : min (Int.toNat ((56 - 8 * m : Nat) : Int)) 64 = 56 - 8 * m := by omega
      have hp : (2 : Int) ^ (56 - 8 * m) = ((2 ^ (56 - 8 * m) : Nat) : Int) := by push_cast; rfl
      have h2 : IntKind.u64.wrap (IntKind.u64.wrap (x.size : Int) * 8) = ((X.length * 8 : Nat) : Int) := by rw [wrap_u64 (x := (x.size : Int)) (by omega) (by omega), wrap_u64 (by omega) (by omega)]; omega
      rw [h1, hp, h2, Int.fdiv_eq_ediv_of_nonneg _ (Int.natCast_nonneg _), ← Int.natCast_ediv, wrap_u8_mod, UInt8.toNat_ofNat']
      omega
    rw [e1, e2, ev]
    refine ⟨by omega, ?_⟩
    intro w18 hw18
    have hl : (byteV (Y ++ bs.take m)).length = Y.length + m := by rw [List.length_map, List.length_append, List.length_take, hbl]; omega
    obtain ⟨w19, l20, hr19, o19, f19, _⟩ := append_one_z elByte o17 (v := .int .u8 (((UInt8.ofNat (X.length * 8 / 2 ^ (56 - 8 * m))).toNat : Nat) : Int)) rfl (by rw [hl]; unfold maxLen; omega) (by rw [hl]; omega) f17.size hw18
    refine ⟨w19, l20, hr19, ⟨m + 1, by omega, rfl, ?_, hF f17 o17 f19⟩, by dsimp only; omega⟩
    rw [htk, ← List.append_assoc, byteV, List.map_append]; exact o19
  · have hlt := of_decide_eq_false hlt
    have : m = 8 := by omega
    subst this
    rw [List.take_of_length_le (by omega)] at o17
    exact ⟨l15, rfl, o17, f17⟩

theorem be_sum (a0 a1 a2 a3 : UInt8) : IntKind.u32.wrap (IntKind.u32.wrap (IntKind.u32.wrap (IntKind.u32.wrap (IntKind.u32.wrap ((a0.toNat : Nat) : Int) * 16777216) + IntKind.u32.wrap (IntKind.u32.wrap ((a1.toNat : Nat) : Int) * 65536)) + IntKind.u32.wrap (IntKind.u32.wrap ((a2.toNat : Nat) : Int) * 256)) + IntKind.u32.wrap ((a3.toNat : Nat) : Int)) =
    (((a0.toNat * 16777216 + a1.toNat * 65536 + a2.toNat * 256 + a3.toNat) % 4294967296 : Nat) : Int) := by
  have l0 := a0.toNat_lt
  have l1 := a1.toNat_lt
  have l2 := a2.toNat_lt
  have l3 := a3.toNat_lt
  simp only [wrap_u32_mod]
  omega
/-- 'words'. -/
theorem rwords_spec {a : Option Addr} {n c : Nat} {bs : List UInt8} {w : World} (hr : Reads w a (byteV bs)) (hn : bs.length = n) (h64 : 64 ≤ n) :
    Calls Try.prog F_cartularyref02_words #[.slice a n c] w fun e w' => ∃ l : Sl, e = .returned (.slice l.a l.len l.cap) ∧ Own w' w.heap.size T_uint32 l (uv (words bs)) ∧ Fr (fun _ => False) w w' := by
  subst hn
  refine vc_cartularyref02_words_ok (R := fun v w' => ∃ l : Sl, v = .slice l.a l.len l.cap ∧ Own w' w.heap.size T_uint32 l (uv (words bs)) ∧ Fr (fun _ => False) w w') ?_ (fun v w' ⟨l, h⟩ => ⟨l, by rw [h.1], h.2⟩)
  intro w1 hw1
  have o1 : Own w1 w.heap.size T_uint32 ⟨some ⟨w.heap.size, 0, none⟩, 0, 0⟩ [] := ⟨rfl, .inr ⟨w.heap.size, #[], rfl, Nat.le_refl _, hw1 ▸ alloc_new _ _, Nat.le_refl _, Nat.zero_le _, rfl, rfl⟩⟩
  have f1 : Fr (fun _ => False) w w1 := hw1 ▸ Fr.alloc _ _ _
  refine ⟨fun l i w' => ∃ k : Nat, k ≤ 16 ∧ i = ((4 * k : Nat) : Int) ∧ Own w' w.heap.size T_uint32 l (uv ((words bs).take k)) ∧ Fr (fun _ => False) w w', fun _ i _ => (64 - i).toNat, ⟨0, by decide, rfl, o1, f1⟩, ?_⟩
  rintro l i w6 ⟨k, hk, rfl, ol, f6⟩
  refine ⟨fun hlt => ?_, fun hge => ?_⟩
  · have hlt := of_decide_eq_true hlt
    have hk16 : k < 16 := by omega
    intro w7 d7
    have f7 := f6.trans' (.drew _ d7)
    have g : ∀ {w' : World}, Fr (fun _ => False) w w' → ∀ j, j < bs.length → ∃ y, a = some y ∧ w'.cell? (y.add j) = some (.int .u8 (((bs.getD j 0).toNat : Nat) : Int)) := fun {w'} hf j hj => by
      obtain ⟨y, hy, hc⟩ := (hr.keep hf (by simp)) j (.int .u8 (((bs.getD j 0).toNat : Nat) : Int)) (by simp [byteV, hj])
      exact ⟨y, hy, hc⟩
    obtain ⟨y, hy, _⟩ := g f7 0 (by omega)
    have g' : ∀ {w' : World}, Fr (fun _ => False) w w' → ∀ j, j < bs.length → w'.cell? (y.add j) = some (.int .u8 (((bs.getD j 0).toNat : Nat) : Int)) := fun {w'} hf j hj => by
      obtain ⟨z, hz, hc⟩ := g hf j hj
      rw [hy] at hz; cases hz; exact hc
    have e1 : IntKind.i64.wrap (((4 * k : Nat) : Int) + 1) = ((4 * k + 1 : Nat) : Int) := by rw [wrap_i64 (by omega) (by omega)]; omega
    have e2 : IntKind.i64.wrap (((4 * k : Nat) : Int) + 2) = ((4 * k + 2 : Nat) : Int) := by rw [wrap_i64 (by omega) (by omega)]; omega
    have e3 : IntKind.i64.wrap (((4 * k : Nat) : Int) + 3) = ((4 * k + 3 : Nat) : Int) := by rw [wrap_i64 (by omega) (by omega)]; omega
    have e4 : IntKind.i64.wrap (((4 * k : Nat) : Int) + 4) = ((4 * (k + 1) : Nat) : Int) := by rw [wrap_i64 (by omega) (by omega)]; omega
    rw [e1, e2, e3, e4]
    simp only [Int.toNat_natCast, Nat.mul_one]
    refine ⟨Fr (fun _ => False) w, f7, ⟨by omega, by omega⟩, y, hy, _, fun w hw => g' hw _ (by omega), ⟨by omega, by omega⟩, y, hy, _, fun w hw => g' hw _ (by omega), ⟨by omega, by omega⟩, y, hy, _, fun w hw => g' hw _ (by omega), ⟨by omega, by omega⟩, y, hy, _, fun w hw => g' hw _ (by omega), ?_⟩
    rw [be_sum]
    have hbe : (((bs.getD (4 * k) 0).toNat * 16777216 + (bs.getD (4 * k + 1) 0).toNat * 65536 + (bs.getD (4 * k + 2) 0).toNat * 256 + (bs.getD (4 * k + 3) 0).toNat) % 4294967296) = (be bs (4 * k)).toNat := by
      unfold be; rw [BitVec.toNat_ofNat]
    rw [hbe]
    intro w21 hw21
    have f21 : Fr (fun _ => False) w7 w21 := hw21 ▸ Fr.alloc _ _ _
    have hl : (uv ((words bs).take k)).length = k := by rw [uv_len, List.length_take, words_length]; omega
    obtain ⟨w22, l23, hr22, o22, f22⟩ := append_one elU32 (ol.drew d7) (v := .int .u32 (((be bs (4 * k)).toNat : Nat) : Int)) rfl (by rw [hl]; unfold maxLen; omega) (by rw [hl]; omega) f7.size hw21
    have fW : Fr (fun _ => False) w w22 := f7.trans f22 (fun q hq ⟨y, hy, e⟩ => by have := (ol.blk hy).1; omega)
    refine ⟨f7.trans' f21, w22, l23, hr22, fW, ⟨k + 1, by omega, rfl, ?_, fW⟩, by omega⟩
    rw [words_take _ hk16, uv, List.map_append]; exact o22
  · have hge := of_decide_eq_false hge
    have : k = 16 := by omega
    subst this
    rw [List.take_of_length_le (by rw [words_length]; decide)] at ol
    exact ⟨l, rfl, ol, f6⟩
/-- 'out'. -/
theorem rout_spec {a : Option Addr} {n c : Nat} {WS : List ShaM.W} {w : World} (hr : Reads w a (uv WS)) (hn : WS.length = n) (h64 : n ≤ 64) :
    Calls Try.prog F_cartularyref02_out #[.slice a n c] w fun e w' => e = .returned (.string ⟨(out WS).toArray⟩) ∧ Fr (fun _ => False) w w' := by
  subst hn
  refine vc_cartularyref02_out_ok (R := fun v w' => v = .string ⟨(out WS).toArray⟩ ∧ Fr (fun _ => False) w w') ?_ (fun v w' h => ⟨by rw [h.1], h.2⟩)
  intro w1 hw1
  have o1 : Own w1 w.heap.size T_uint8 ⟨some ⟨w.heap.size, 0, none⟩, 0, 0⟩ [] := hw1 ▸ own_empty w T_uint8
  have f1 : Fr (fun _ => False) w w1 := hw1 ▸ Fr.alloc _ _ _
  have houtl : ∀ l : List ShaM.W, (out l).length = 4 * l.length := fun l => by
    induction l with
    | nil => rfl
    | cons x l ih =>
      show (outw x ++ out l).length = _
      rw [List.length_append, ih, List.length_cons]; simp only [outw, List.length_cons, List.length_nil]; omega
  refine ⟨fun l i w' => ∃ m : Nat, m ≤ WS.length ∧ i = (m : Int) ∧ Own w' w.heap.size T_uint8 l (byteV (out (WS.take m))) ∧ Fr (fun _ => False) w w', fun _ i _ => ((WS.length : Int) - i).toNat, ⟨0, Nat.zero_le _, rfl, o1, f1⟩, ?_⟩
  rintro l45 i w47 ⟨m, hm, rfl, o47, f47⟩
  refine ⟨fun hlt => ?_, fun hge => ?_⟩
  · have hlt := of_decide_eq_true hlt
    have hml : m < WS.length := by omega
    obtain ⟨y, hy, hc⟩ := (hr.keep f47 (by simp)) m _ (uv_get hml)
    have e1 : IntKind.i64.wrap ((m : Int) + 1) = ((m + 1 : Nat) : Int) := by rw [wrap_i64 (by omega) (by omega)]; omega
    refine ⟨⟨by omega, by omega⟩, y, hy, _, by rw [Int.toNat_natCast, Nat.mul_one]; exact hc, by decide, by decide, by decide, ?_⟩
    rw [outw1_eq, e1]
    have hg : WS.getD m 0 = WS[m] := by rw [List.getD_eq_getElem?_getD, List.getElem?_eq_getElem hml]; rfl
    rw [hg]
    have htk : out (WS.take (m + 1)) = out (WS.take m) ++ outw WS[m] := by
      rw [List.take_succ_eq_append_getElem hml, out, List.flatMap_append]; simp [out]
    generalize WS[m] = x at htk
    intro w50 hw50
    have f50 : Fr (fun _ => False) w47 w50 := hw50 ▸ Fr.alloc _ _ _
    have hz50 := alloc_new w47 (.cells (byteV (outw x)).toArray T_uint8)
    rw [← hw50] at hz50
    have hrd : Reads w50 (some ⟨w47.heap.size, 0, none⟩) (byteV (outw x)) := fun i v hv => by
      refine ⟨_, rfl, ?_⟩
      rw [add_lit, cell_blk hz50, Nat.zero_add, ← hv]; simp
    have hl : (byteV (out (WS.take m))).length = 4 * m := by rw [List.length_map, houtl, List.length_take]; omega
    obtain ⟨w51, l52, hr51, o51, f51⟩ := append_all elByte (o47.keep f50 (by simp)) 4 hrd (byteV_one _) (by rw [hl]; simp [outw, maxLen]; omega) (by rw [hl]; simp [outw]; omega) (f47.trans' f50).size (m := 4) (by simp [outw])
    refine ⟨w51, l52, hr51, ⟨m + 1, by omega, rfl, ?_, (f47.trans' f50).trans f51 (fun q hq ⟨y, hy, e⟩ => by have := (o47.blk hy).1; omega)⟩, by dsimp only; omega⟩
    rw [htk, byteV, List.map_append]; exact o51
  · have hge := of_decide_eq_false hge
    have : m = WS.length := by omega
    subst this
    rw [List.take_length] at o47
    exact ⟨w47, _, bytes_str elByte.sl (by kernel_rfl) (by kernel_rfl) _ o47.reads (by rw [o47.len, List.length_map]), rfl, f47⟩
end Go.Proofs.Ytoagdpjickippaa

/- What the reference's Sum1 does. Conditions: the text is short enough for a slice to hold (2 to the 40th). -/
set_option linter.unusedVariables false
namespace Vc
open Go
/-- What the slice held is read through it after an append, too. -/
theorem append_old {P : Program} {t e : TypeId} {z : Value} {bytes : Nat} {w : World} {base : Nat} {l : Sl} {xs : List Value} (el : El P t e z bytes) (h : Own w base e l xs) {v : Value} (hv : v.oneCell' = true)
    (hm : xs.length + 1 ≤ maxLen) (hb : (xs.length + 1) * bytes ≤ 140737488355328) {w2 : World} (hw2 : w2 = w.alloc (.cells #[v] e)) {l' : Sl} {w' : World}
    (hr : (Builtin.append_ #[t, t] t #[.slice l.a l.len l.cap, .slice (some ⟨w.heap.size, 0, none⟩) 1 1]).run P w2 = .ok (.slice l'.a l'.len l'.cap) w') : Reads w' l.a xs := by
  obtain ⟨i, hi, hi2⟩ := Option.map_eq_some_iff.1 el.info
  simp only [Prod.mk.injEq] at hi2
  obtain ⟨hz, hs1, hby⟩ := hi2
  have hlen := h.1
  have hn : ∀ j u, ([v] : List Value)[j]? = some u → w2.cell? ((⟨w.heap.size, 0, none⟩ : Addr).add j) = some u := fun j u hu => by
    cases j with
    | zero => simp at hu; subst hu; rw [hw2, add_lit, cell_blk (alloc_new w _)]; rfl
    | succ j => simp at hu
  have h2 : Own w2 base e l xs := hw2 ▸ h.keep (.alloc (fun _ => False) _ _) (by simp)
  rcases h2.2 with ⟨ha, hl0, hc0⟩ | ⟨g, cur, ha, hbg, hg, hl, hmx, hs, ht⟩
  · have : xs = [] := List.eq_nil_of_length_eq_zero (by omega)
    rw [this]; exact .nil _ _
  · have hml : maxLen ≤ 9223372036854775807 := by decide
    by_cases hroom : l.len + 1 ≤ l.cap
    · have hr2 := run_append_room (P := P) w2 t t e i el.sl hi g l.len l.cap cur hg ⟨w.heap.size, 0, none⟩ 1 1 [v] (by rw [hs1]; rfl) hn (by simpa using hv) hroom (by rw [hs1]; simp; omega)
      rw [← ha, hr] at hr2
      simp only [Result.ok.injEq] at hr2
      rw [hr2.2, ha]
      intro j u hu
      refine ⟨_, rfl, ?_⟩
      rw [add_lit, Nat.zero_add, cell_blk (setRow_heap w2 g cur _ e (0, 0) hg)]
      rw [hs1]
      have hjl : j < xs.length := (List.getElem?_eq_some_iff.1 hu).1
      rw [← ht] at hu
      simp only [Nat.mul_one]
      rw [List.getElem?_toArray, List.append_assoc, List.getElem?_append_left (by rw [List.length_take, Array.length_toList]; omega)]
      exact hu
    · have holds : ∀ j u, xs[j]? = some u → w2.cell? ((⟨g, 0, none⟩ : Addr).add j) = some u := fun j u hu => by
        obtain ⟨q, hq, hc⟩ := h2.reads j u hu
        rw [ha] at hq; cases hq; exact hc
      have hr2 := run_append_grow (P := P) w2 t t e i z el.sl hi hz ⟨g, 0, none⟩ l.len l.cap xs (by rw [hs1]; omega) holds ⟨w.heap.size, 0, none⟩ 1 1 [v] (by rw [hs1]; rfl) hn (by omega) (by omega) (growslice_fits (by omega) (by rw [hby, ← hlen]; exact hb))
      rw [← ha, hr] at hr2
      simp only [Result.ok.injEq] at hr2
      rw [hr2.2]
      exact h2.reads.keep (X := fun _ => False) ⟨rfl, rfl, rfl, by simp, fun k hk _ => alloc_old w2.drew _ hk⟩ (by simp)
end Vc
namespace Go.Proofs.Ytoagdpjickippaa
open Go Vc ShaM Go.Proofs

theorem rsum1_spec (x : ByteArray) (hx : x.size + 200 ≤ 1099511627776) (w : World) : Calls Try.prog F_cartularyref02_Sum1 #[.string x] w fun e w' => e = .returned (.string ⟨(digest block1 start1 x.data.toList).toArray⟩) ∧ Fr (fun _ => False) w w' := by
  refine vc_cartularyref02_Sum1_ok (R := fun v w' => v = .string ⟨(digest block1 start1 x.data.toList).toArray⟩ ∧ Fr (fun _ => False) w w') ?_ (fun v w' h => ⟨by rw [h.1], h.2⟩)
  refine (rpad_spec x (by omega) w).mono ?_
  rintro e w2 ⟨l3, rfl, o3, f2⟩
  refine ⟨l3, rfl, ?_⟩
  intro w4 hw4
  have f4 : Fr (fun _ => False) w2 w4 := hw4 ▸ Fr.alloc _ _ _
  have oh4 : Own w4 w2.heap.size T_uint32 ⟨some ⟨w2.heap.size, 0, none⟩, 5, 5⟩ (uv start1) := ⟨rfl, .inr ⟨w2.heap.size, _, rfl, Nat.le_refl _, hw4 ▸ alloc_new _ _, Nat.le_refl _, by simp [maxLen], rfl, rfl⟩⟩
  have hpl := pad_length x.data.toList
  have hplen : (pad x.data.toList).length ≤ x.size + 200 := by
    unfold pad; simp; omega
  have hdg : digest block1 start1 x.data.toList = out (blocks block1 ((pad x.data.toList).length / 64) start1 (pad x.data.toList)) := rfl
  rw [hdg]
  generalize pad x.data.toList = P at o3 hpl hplen ⊢
  obtain ⟨Q, hQ⟩ : ∃ Q, P.length = 64 * Q := ⟨P.length / 64, by omega⟩
  have hll3 : l3.len = 64 * Q := by rw [o3.len, List.length_map, hQ]
  have hcap3 := o3.cap
  rw [show P.length / 64 = Q by omega]
  have o34 := o3.keep f4 (by simp)
  refine ⟨fun l i w' => ∃ k : Nat, k ≤ Q ∧ i = ((64 * k : Nat) : Int) ∧ Own w' w2.heap.size T_uint32 l (uv (blocks block1 k start1 P)) ∧ Fr (fun _ => False) w2 w', fun _ i _ => ((64 * Q : Nat) - i).toNat, ⟨0, Nat.zero_le _, rfl, oh4, f4⟩, ?_⟩
  rintro l7 i w9 ⟨k, hk, rfl, oh, f9⟩
  have hblen := blocks_length (f := block1) (k := 5) (fun h p hl => by rw [block1_length]; exact hl) k start1 P rfl
  refine ⟨fun hlt => ?_, fun hge => ?_⟩
  · have hlt := of_decide_eq_true hlt
    have hkQ : k < Q := by omega
    have e1 : IntKind.i64.wrap (((64 * k : Nat) : Int) + 64) = ((64 * (k + 1) : Nat) : Int) := by rw [wrap_i64 (by omega) (by omega)]; omega
    have hcm : l3.cap ≤ maxLen := by
      rcases o3.2 with ⟨_, _, h⟩ | ⟨_, _, _, _, _, _, _, _, h, _⟩
      · rw [h]; decide
      · exact h
    rw [e1, Int.toNat_natCast, Int.toNat_natCast, show 64 * (k + 1) - 64 * k = 64 by omega]
    refine ⟨⟨by omega, by omega, by omega⟩, ?_⟩
    obtain ⟨BB, hBB⟩ : ∃ BB, (P.drop (64 * k)).take 64 = BB := ⟨_, rfl⟩
    have hBl : BB.length = 64 := by rw [← hBB, List.length_take, List.length_drop]; omega
    have hrB : Reads w9 (subA l3.a l3.cap (64 * k) 1) (byteV BB) := by
      have := (((o3.keep f9 (by simp)).reads).sub (cap := l3.cap) (by rw [List.length_map, hQ]; omega) (64 * k)).take 64
      rw [← hBB, byteV, List.map_take, List.map_drop]; exact this
    refine (rwords_spec (c := l3.cap - 64 * k) hrB hBl (by decide)).mono ?_
    rintro e w11 ⟨l12, rfl, o12, f11⟩
    refine ⟨l12, rfl, ?_⟩
    have hE : ∀ k, (E1 BB k).length = k := E1_length BB
    refine ⟨fun l j w' => ∃ q : Nat, 16 ≤ q ∧ q ≤ 80 ∧ j = (q : Int) ∧ Own w' w9.heap.size T_uint32 l (uv (E1 BB q)) ∧ Fr (fun _ => False) w9 w', fun _ j _ => (80 - j).toNat, ⟨16, by decide, by decide, rfl, by rw [E1_ext BB (by decide)]; exact o12, f11⟩, ?_⟩
    rintro l15 j w17 ⟨q, hq16, hq80, rfl, o15, f17⟩
    have hl15 : l15.len = q := by rw [o15.len, uv_len, hE]
    refine ⟨fun hlt => ?_, fun hge => ?_⟩
    · have hlt := of_decide_eq_true hlt
      intro w18 d18
      have o18 := o15.drew d18
      have f18 := f17.trans' (.drew _ d18)
      have r3 : IntKind.i64.wrap ((q : Int) - 3) = ((q - 3 : Nat) : Int) := by rw [wrap_i64 (by omega) (by omega)]; omega
      have r8 : IntKind.i64.wrap ((q : Int) - 8) = ((q - 8 : Nat) : Int) := by rw [wrap_i64 (by omega) (by omega)]; omega
      have r14 : IntKind.i64.wrap ((q : Int) - 14) = ((q - 14 : Nat) : Int) := by rw [wrap_i64 (by omega) (by omega)]; omega
      have r16 : IntKind.i64.wrap ((q : Int) - 16) = ((q - 16 : Nat) : Int) := by rw [wrap_i64 (by omega) (by omega)]; omega
      have r1 : IntKind.i64.wrap ((q : Int) + 1) = ((q + 1 : Nat) : Int) := by rw [wrap_i64 (by omega) (by omega)]; omega
      obtain ⟨y, hy, _⟩ := own_get o18 (i := 0) (by rw [hE]; omega)
      have g : ∀ {w' : World}, Reads w' l15.a (uv (E1 BB q)) → ∀ j, j < q → w'.cell? (y.add j) = some (.int .u32 (((E1 BB q).getD j 0).toNat : Int)) := fun {w'} hr j hj => by
        obtain ⟨z, hz, hc⟩ := hr j _ (uv_get (by rw [hE]; exact hj))
        rw [hy] at hz; cases hz; exact hc
      rw [r3, r8, r14, r16, r1]
      simp only [Int.toNat_natCast, Nat.mul_one]
      refine ⟨fun w' => Reads w' l15.a (uv (E1 BB q)), o18.reads, ⟨by omega, by omega⟩, y, hy, _, fun w hw => g hw _ (by omega), ⟨by omega, by omega⟩, y, hy, _, fun w hw => g hw _ (by omega), ⟨by omega, by omega⟩, y, hy, _, fun w hw => g hw _ (by omega), ⟨by omega, by omega⟩, y, hy, _, fun w hw => g hw _ (by omega), ?_⟩
      simp only [u_of, u_wrap]
      refine (turn2_spec _ 1 (by decide) w18).mono ?_
      rintro e w33 ⟨rfl, d33⟩
      have o33 := o18.drew d33
      refine ⟨_, rfl, o33.reads, ?_⟩
      rw [← nxt1_at (hE q)]
      intro w35 hw35
      have f35 : Fr (fun _ => False) w33 w35 := hw35 ▸ Fr.alloc _ _ _
      have hl : (uv (E1 BB q)).length = q := by rw [uv_len, hE]
      have f33 := f18.trans' (.drew _ d33)
      obtain ⟨w36, l37, hr36, o36, f36⟩ := append_one elU32 o33 (v := .int .u32 (((nxt1 (E1 BB q)).toNat : Nat) : Int)) rfl (by rw [hl]; unfold maxLen; omega) (by rw [hl]; omega) f33.size hw35
      have hold := append_old elU32 o33 (v := .int .u32 (((nxt1 (E1 BB q)).toNat : Nat) : Int)) rfl (by rw [hl]; unfold maxLen; omega) (by rw [hl]; omega) hw35 hr36
      refine ⟨(o33.keep f35 (by simp)).reads, w36, l37, hr36, hold, ⟨q + 1, by omega, by omega, rfl, ?_, f33.trans f36 (fun p hp ⟨y, hy, e⟩ => by have := (o33.blk hy).1; omega)⟩, by omega⟩
      rw [E1_high BB hq16, uv, List.map_append]; exact o36
    have hge := of_decide_eq_false hge
    have : q = 80 := by omega
    subst this
    rw [E1_ext BB (by decide)] at o15
    obtain ⟨h0, h1, h2, h3, h4, hH⟩ : ∃ a b c d e, blocks block1 k start1 P = [a, b, c, d, e] := by
      match blocks block1 k start1 P, hblen with
      | [a, b, c, d, e], _ => exact ⟨_, _, _, _, _, rfl⟩
    rw [hH] at oh
    have hl7 : l7.len = 5 := by rw [oh.len]; rfl
    have oh17 := oh.keep f17 (by simp)
    have rd : ∀ {w' : World}, Own w' w2.heap.size T_uint32 l7 (uv [h0, h1, h2, h3, h4]) → ∃ x, l7.a = some x ∧ w'.cell? (x.add 0) = some (.int .u32 (h0.toNat : Int)) ∧ w'.cell? (x.add 1) = some (.int .u32 (h1.toNat : Int)) ∧ w'.cell? (x.add 2) = some (.int .u32 (h2.toNat : Int)) ∧
        w'.cell? (x.add 3) = some (.int .u32 (h3.toNat : Int)) ∧ w'.cell? (x.add 4) = some (.int .u32 (h4.toNat : Int)) := fun {w'} o => by
      obtain ⟨x, hx, c0⟩ := own_get o (i := 0) (by simp)
      obtain ⟨x1, hx1, c1⟩ := own_get o (i := 1) (by simp)
      obtain ⟨x2, hx2, c2⟩ := own_get o (i := 2) (by simp)
      obtain ⟨x3, hx3, c3⟩ := own_get o (i := 3) (by simp)
      obtain ⟨x4, hx4, c4⟩ := own_get o (i := 4) (by simp)
      rw [hx] at hx1 hx2 hx3 hx4
      cases hx1; cases hx2; cases hx3; cases hx4
      exact ⟨x, hx, c0, c1, c2, c3, c4⟩
    obtain ⟨y, hy, c0, c1, c2, c3, c4⟩ := rd oh17
    rw [hl7]
    refine ⟨⟨by decide, by decide⟩, y, hy, _, c0, ⟨by decide, by decide⟩, y, hy, _, c1, ⟨by decide, by decide⟩, y, hy, _, c2, ⟨by decide, by decide⟩, y, hy, _, c3, ⟨by decide, by decide⟩, y, hy, _, c4, fun w48 d48 => ?_⟩
    have hstep : blocks block1 (k + 1) start1 P = adds [h0, h1, h2, h3, h4] (rds1 0 (ext1 64 (words BB)) [h0, h1, h2, h3, h4]) := by
      rw [blocks_step block1, hBB, hH]; rfl
    have o48 := o15.drew d48
    have oh48 := oh17.drew d48
    have f48 := f17.trans' (.drew _ d48)
    generalize ext1 64 (words BB) = S at o48 hstep o15
    have hS : S.length = 80 := by have := o15.len; rw [uv_len] at this; omega
    refine ⟨fun a b c d e i w' => ∃ (A B C D E : ShaM.W) (k : Nat), k ≤ 80 ∧ i = (k : Int) ∧ a = (A.toNat : Int) ∧ b = (B.toNat : Int) ∧ c = (C.toNat : Int) ∧ d = (D.toNat : Int) ∧ e = (E.toNat : Int) ∧ rds1 0 S [h0, h1, h2, h3, h4] = rds1 k (S.drop k) [A, B, C, D, E] ∧ Drew w48 w',
      fun _ _ _ _ _ i _ => (80 - i).toNat, ⟨h0, h1, h2, h3, h4, 0, by decide, rfl, rfl, rfl, rfl, rfl, rfl, rfl, .refl _⟩, ?_⟩
    rintro a b c d e i w57 ⟨A, B, C, D, E, m, hm, rfl, rfl, rfl, rfl, rfl, rfl, hv, d57⟩
    have e1 : IntKind.i64.wrap ((m : Int) + 1) = ((m + 1 : Nat) : Int) := by rw [wrap_i64 (by omega) (by omega)]; omega
    refine ⟨fun hlt => ?_, fun hge => ?_⟩
    · have hlt := of_decide_eq_true hlt
      rw [rds1_step (by omega)] at hv
      obtain ⟨q1, q2, q3, q4⟩ := f1_eq m B C D
      refine ⟨fun f q w' => w' = w57 ∧ f = (if m < 60 then ((((B &&& C) ||| (B &&& D) ||| (C &&& D)) : ShaM.W).toNat : Int) else ((B ^^^ C ^^^ D).toNat : Int)) ∧ q = (if m < 60 then 2400959708 else 3395469782), ⟨fun h => ?_, fun h => ?_⟩, ?_⟩
      · have h := of_decide_eq_true h
        rw [if_pos (by omega), if_pos (by omega)]
        exact ⟨rfl, by simp only [u_of, u_wrap], rfl⟩
      · have h := of_decide_eq_false h
        rw [if_neg (by omega), if_neg (by omega)]
        exact ⟨rfl, by simp only [u_of, u_wrap], rfl⟩
      rintro f q w61 ⟨rfl, hf, hq⟩
      refine ⟨fun f' q' w' => w' = w61 ∧ f' = (if m < 40 then ((B ^^^ C ^^^ D).toNat : Int) else f) ∧ q' = (if m < 40 then 1859775393 else q), ⟨fun h => ?_, fun h => ?_⟩, ?_⟩
      · have h := of_decide_eq_true h
        rw [if_pos (by omega), if_pos (by omega)]
        exact ⟨rfl, by simp only [u_of, u_wrap], rfl⟩
      · have h := of_decide_eq_false h
        rw [if_neg (by omega), if_neg (by omega)]
        exact ⟨rfl, rfl, rfl⟩
      rintro f2 q' w65 ⟨rfl, hf2, hq'⟩
      refine ⟨fun f' q' w' => w' = w65 ∧ f' = ((f1 m B C D).toNat : Int) ∧ q' = ((k1 m).toNat : Int), ⟨fun h => ?_, fun h => ?_⟩, ?_⟩
      · have h := of_decide_eq_true h
        obtain ⟨g1, g2⟩ := q1 (by omega)
        rw [g1, g2, ones32]
        exact ⟨rfl, by simp only [u_of, u_wrap, BitVec.xor_allOnes], rfl⟩
      · have h := of_decide_eq_false h
        refine ⟨rfl, ?_, ?_⟩
        · rw [hf2, hf]
          by_cases h40 : m < 40
          · rw [if_pos h40, (q2 (by omega) h40).1]
          · rw [if_neg h40]
            by_cases h60 : m < 60
            · rw [if_pos h60, (q3 (by omega) h60).1]
            · rw [if_neg h60, (q4 (by omega)).1]
        · rw [hq', hq]
          by_cases h40 : m < 40
          · rw [if_pos h40, (q2 (by omega) h40).2]; rfl
          · rw [if_neg h40]
            by_cases h60 : m < 60
            · rw [if_pos h60, (q3 (by omega) h60).2]; rfl
            · rw [if_neg h60, (q4 (by omega)).2]; rfl
      rintro f3 q3' w69 ⟨rfl, rfl, rfl⟩
      intro w70 d70
      have d470 := d57.trans d70
      have o70 := o48.drew d470
      obtain ⟨y, hy, hc⟩ := own_get o70 (i := m) (by omega)
      rw [hl15]
      refine ⟨fun w => Drew w48 w, d470, ⟨by omega, by omega⟩, y, hy, _, fun w hw => by rw [Int.toNat_natCast, Nat.mul_one, hw.cell, ← d470.cell]; exact hc, ?_⟩
      refine (turn2_spec A 5 (by decide) w70).mono ?_
      rintro e w76 ⟨rfl, d76⟩
      refine ⟨_, rfl, d470.trans d76, ?_⟩
      refine (turn2_spec B 30 (by decide) w76).mono ?_
      rintro e w79 ⟨rfl, d79⟩
      refine ⟨_, rfl, ?_⟩
      rw [e1, u_add, u_add, u_add, u_add]
      exact ⟨⟨_, _, _, _, _, m + 1, by omega, rfl, rfl, rfl, rfl, rfl, rfl, hv, (d470.trans d76).trans d79⟩, by dsimp only; omega⟩
    · have hge := of_decide_eq_false hge
      have : m = 80 := by omega
      subst this
      have hSn : S.drop 80 = [] := List.drop_eq_nil_of_le (by omega)
      rw [hSn] at hv
      have hv : rds1 0 S [h0, h1, h2, h3, h4] = [A, B, C, D, E] := hv
      intro w81 d81
      have oh81 := (oh48.drew d57).drew d81
      have f81 := (f48.trans' (.drew _ d57)).trans' (.drew _ d81)
      obtain ⟨y, hy, c0, c1, c2, c3, c4⟩ := rd oh81
      refine ⟨⟨by decide, by decide⟩, y, hy, _, c0, ⟨by decide, by decide⟩, y, hy, _, c1, ⟨by decide, by decide⟩, y, hy, _, c2, ⟨by decide, by decide⟩, y, hy, _, c3, ⟨by decide, by decide⟩, y, hy, _, c4, ?_⟩
      rw [u_add, u_add, u_add, u_add, u_add]
      intro w92 hw92
      have f92 : Fr (fun _ => False) w81 w92 := hw92 ▸ Fr.alloc _ _ _
      rw [hv] at hstep
      have hfin : blocks block1 (k + 1) start1 P = [h0 + A, h1 + B, h2 + C, h3 + D, h4 + E] := hstep
      have fall := (f9.trans' f81).trans' f92
      refine ⟨⟨k + 1, by omega, by omega, ?_, fall⟩, by dsimp only; omega⟩
      rw [hfin]
      exact ⟨rfl, .inr ⟨w81.heap.size, _, rfl, (f9.trans' f81).size, hw92 ▸ alloc_new _ _, Nat.le_refl _, by simp [maxLen], rfl, rfl⟩⟩
  · have hge := of_decide_eq_false hge
    have : k = Q := by omega
    subst this
    refine (rout_spec (c := l7.cap) oh.reads (by rw [oh.len, uv_len]) (by rw [oh.len, uv_len, hblen]; decide)).mono ?_
    rintro e w94 ⟨rfl, f94⟩
    exact ⟨_, rfl, rfl, (f2.trans' f9).trans' f94⟩
end Go.Proofs.Ytoagdpjickippaa

/- Slices of texts. No condition. -/
set_option linter.unusedVariables false
namespace Go.Proofs.Ytoagdpjickippaa
open Go Vc Go.Proofs

theorem elString : El Try.prog T_S_string T_string (.string ⟨#[]⟩) 16 := ⟨by kernel_rfl, by kernel_rfl, rfl⟩
def strV (l : List ByteArray) : List Value := l.map Value.string
theorem own_lit (w : World) (t : TypeId) : Vc.Own (w.alloc (.cells #[] t)) w.heap.size t ⟨some ⟨w.heap.size, 0, none⟩, 0, 0⟩ [] :=
  ⟨rfl, .inr ⟨w.heap.size, _, rfl, Nat.le_refl _, alloc_new w _, Nat.le_refl _, Nat.zero_le _, rfl, rfl⟩⟩
theorem grow_str {w0 w12 : World} {l : Sl} {out : List ByteArray} (x : ByteArray) (hs : out.length ≤ 1000003) (ho : Vc.Own w12 w0.heap.size T_string l (strV out)) (hf : Fr (fun _ => False) w0 w12) {w13 : World} (h13 : w13 = w12.alloc (.cells #[.string x] 9)) :
    ∃ (w14 : World) (l15 : Sl), (Builtin.append_ #[35, 35] 35 #[.slice l.a l.len l.cap, .slice (some ⟨w12.heap.size, 0, none⟩) 1 1]).run Try.prog w13 = .ok (.slice l15.a l15.len l15.cap) w14 ∧ Vc.Own w14 w0.heap.size T_string l15 (strV (out ++ [x])) ∧ Fr (fun _ => False) w0 w14 := by
  obtain ⟨w14, l15, hr14, ho14, hf14, _⟩ := append_one' elString ho (v := .string x) rfl (by simp only [strV, List.length_map, maxLen]; omega) (by simp only [strV, List.length_map]; omega) hf.size h13
  refine ⟨w14, l15, hr14, by simpa [strV] using ho14, hf.trans hf14 fun q hq ⟨z, hz, e⟩ => ?_⟩
  have := (ho.blk hz).1; omega
end Go.Proofs.Ytoagdpjickippaa

/- Formulas of 3 Go functions of this seat (written by a program of the author's, vcgen.py), and that each is enough for the call. No condition. -/
set_option linter.unusedVariables false
namespace Go.Proofs.Ytoagdpjickippaa
open Go Vc Go.Proofs
set_option maxRecDepth 100000
/-- cartularyref12.Parse -/
def vc_cartularyref12_Parse (x0 : ByteArray) (w : World) (R : Value → World → Prop) : Prop :=
  (((decide ((↑(ByteArray.size x0) : Int) < 1072) = true →
     R (Value.tuple (Array.mk [Value.slice none 0 0, Value.string (ByteArray.mk (Array.mk [])), Value.int IntKind.i64 6])) w)) ∧
   (decide ((↑(ByteArray.size x0) : Int) < 1072) = false →
     ∀ w1 : World,
     (Drew w w1 →
       ∃ I2 : World → Prop, (I2 w1 ∧
        (((0 : Int) ≤ (8 : Int) ∧
          8 ≤ (↑(ByteArray.size x0) : Int)) ∧
         ∀ w3 : World,
         (w3 = World.alloc w1 (Obj.cells (Array.mk [Value.int IntKind.u8 255, Value.int IntKind.u8 116, Value.int IntKind.u8 79, Value.int IntKind.u8 99, Value.int IntKind.u8 0, Value.int IntKind.u8 0, Value.int IntKind.u8 0, Value.int IntKind.u8 2]) 5) →
           (I2 w3 ∧
            ∃ w4 : World, ∃ s5 : ByteArray, (Sem.run Try.prog (convert 68 9 (Value.slice (some (Addr.mk (Array.size (World.heap w1)) 0 none)) 8 8)) w3 = Result.ok (Value.string s5) w4 ∧
             (I2 w4 ∧
              ((((!ByteArray.toList (ByteArray.extract x0 0 (Int.toNat 8)) == ByteArray.toList s5) = true →
                 R (Value.tuple (Array.mk [Value.slice none 0 0, Value.string (ByteArray.mk (Array.mk [])), Value.int IntKind.i64 3])) w4)) ∧
               ((!ByteArray.toList (ByteArray.extract x0 0 (Int.toNat 8)) == ByteArray.toList s5) = false →
                 ∀ w6 : World,
                 (w6 = World.alloc w4 (Obj.cells (Array.mk []) 58) →
                   ∃ I7 : Sl → Int → World → Prop, ∃ I8 : Sl → Int → World → Nat, (I7 (Sl.mk (some (Addr.mk (Array.size (World.heap w4)) 0 none)) 0 0) 0 w6 ∧
                    ∀ l9 : Sl,
                    ∀ n10 : Int,
                    ∀ w11 : World,
                    (I7 l9 n10 w11 →
                      (((decide (n10 < 256) = true →
                         ((0 ≤ IntKind.wrap IntKind.i64 (8 + IntKind.wrap IntKind.i64 (4 * n10)) ∧
                           (IntKind.wrap IntKind.i64 (8 + IntKind.wrap IntKind.i64 (4 * n10)) ≤ IntKind.wrap IntKind.i64 (12 + IntKind.wrap IntKind.i64 (4 * n10)) ∧
                            IntKind.wrap IntKind.i64 (12 + IntKind.wrap IntKind.i64 (4 * n10)) ≤ (↑(ByteArray.size x0) : Int))) ∧
                          Calls Try.prog (32 : Nat) (Array.mk [Value.string (ByteArray.extract x0 (Int.toNat (IntKind.wrap IntKind.i64 (8 + IntKind.wrap IntKind.i64 (4 * n10)))) (Int.toNat (IntKind.wrap IntKind.i64 (12 + IntKind.wrap IntKind.i64 (4 * n10)))))]) (w11) (fun e12 w13 =>
                            ∃ n14 : Int, (e12 = Ending.returned (Value.int IntKind.u64 n14) ∧
                             (((decide (n10 > 0) = true →
                                ((0 ≤ IntKind.wrap IntKind.i64 (n10 - 1) ∧
                                  IntKind.wrap IntKind.i64 (n10 - 1) < (↑l9.2 : Int)) ∧
                                 ∃ a15 : Addr, (l9.1 = some a15 ∧
                                  ∃ n16 : Int, (World.cell? w13 (Addr.add a15 (Int.toNat (IntKind.wrap IntKind.i64 (n10 - 1)) * 1)) = some (Value.int IntKind.u64 n16) ∧
                                   (((decide (n14 < n16) = true →
                                      R (Value.tuple (Array.mk [Value.slice none 0 0, Value.string (ByteArray.mk (Array.mk [])), Value.int IntKind.i64 3])) w13)) ∧
                                    (decide (n14 < n16) = false →
                                      ∀ w17 : World,
                                      (w17 = World.alloc w13 (Obj.cells (Array.mk [Value.int IntKind.u64 n14]) 58) →
                                        ∃ w18 : World, ∃ l19 : Sl, (Sem.run Try.prog (Builtin.append_ (Array.mk [69, 69]) 69 (Array.mk [Value.slice l9.1 l9.2 l9.3, Value.slice (some (Addr.mk (Array.size (World.heap w13)) 0 none)) 1 1])) w17 = Result.ok (Value.slice l19.1 l19.2 l19.3) w18 ∧
                                         (I7 (Sl.mk l19.1 l19.2 l19.3) (IntKind.wrap IntKind.i64 (n10 + 1)) w18 ∧
                                          I8 (Sl.mk l19.1 l19.2 l19.3) (IntKind.wrap IntKind.i64 (n10 + 1)) w18 < I8 l9 n10 w11)))))))))) ∧
                              (decide (n10 > 0) = false →
                                ∀ w20 : World,
                                (w20 = World.alloc w13 (Obj.cells (Array.mk [Value.int IntKind.u64 n14]) 58) →
                                  ∃ w21 : World, ∃ l22 : Sl, (Sem.run Try.prog (Builtin.append_ (Array.mk [69, 69]) 69 (Array.mk [Value.slice l9.1 l9.2 l9.3, Value.slice (some (Addr.mk (Array.size (World.heap w13)) 0 none)) 1 1])) w20 = Result.ok (Value.slice l22.1 l22.2 l22.3) w21 ∧
                                   (I7 (Sl.mk l22.1 l22.2 l22.3) (IntKind.wrap IntKind.i64 (n10 + 1)) w21 ∧
                                    I8 (Sl.mk l22.1 l22.2 l22.3) (IntKind.wrap IntKind.i64 (n10 + 1)) w21 < I8 l9 n10 w11)))))))))) ∧
                       (decide (n10 < 256) = false →
                         (((0 : Int) ≤ (255 : Int) ∧
                           255 < (↑l9.2 : Int)) ∧
                          ∃ a23 : Addr, (l9.1 = some a23 ∧
                           ∃ n24 : Int, (World.cell? w11 (Addr.add a23 (Int.toNat 255 * 1)) = some (Value.int IntKind.u64 n24) ∧
                            (((decide (n24 > 1000) = true →
                               R (Value.tuple (Array.mk [Value.slice none 0 0, Value.string (ByteArray.mk (Array.mk [])), Value.int IntKind.i64 2])) w11)) ∧
                             (decide (n24 > 1000) = false →
                               (((0 : Int) ≤ (255 : Int) ∧
                                 255 < (↑l9.2 : Int)) ∧
                                ∃ a25 : Addr, (l9.1 = some a25 ∧
                                 ∃ n26 : Int, (World.cell? w11 (Addr.add a25 (Int.toNat 255 * 1)) = some (Value.int IntKind.u64 n26) ∧
                                  (((decide ((↑(ByteArray.size x0) : Int) < IntKind.wrap IntKind.i64 (1072 + IntKind.wrap IntKind.i64 (28 * IntKind.wrap IntKind.i64 n26))) = true →
                                     R (Value.tuple (Array.mk [Value.slice none 0 0, Value.string (ByteArray.mk (Array.mk [])), Value.int IntKind.i64 6])) w11)) ∧
                                   (decide ((↑(ByteArray.size x0) : Int) < IntKind.wrap IntKind.i64 (1072 + IntKind.wrap IntKind.i64 (28 * IntKind.wrap IntKind.i64 n26))) = false →
                                     ((8 : Int) ≠ (0 : Int) ∧
                                      ((((Int.tmod (IntKind.wrap IntKind.i64 (IntKind.wrap IntKind.i64 ((↑(ByteArray.size x0) : Int) - 1072) - IntKind.wrap IntKind.i64 (28 * IntKind.wrap IntKind.i64 n26))) 8 != 0) = true →
                                         R (Value.tuple (Array.mk [Value.slice none 0 0, Value.string (ByteArray.mk (Array.mk [])), Value.int IntKind.i64 3])) w11)) ∧
                                       ((Int.tmod (IntKind.wrap IntKind.i64 (IntKind.wrap IntKind.i64 ((↑(ByteArray.size x0) : Int) - 1072) - IntKind.wrap IntKind.i64 (28 * IntKind.wrap IntKind.i64 n26))) 8 != 0) = false →
                                         (((0 : Int) ≤ (1032 : Int) ∧
                                           (1032 ≤ IntKind.wrap IntKind.i64 (1032 + IntKind.wrap IntKind.i64 (20 * IntKind.wrap IntKind.i64 n26)) ∧
                                            IntKind.wrap IntKind.i64 (1032 + IntKind.wrap IntKind.i64 (20 * IntKind.wrap IntKind.i64 n26)) ≤ (↑(ByteArray.size x0) : Int))) ∧
                                          ((0 ≤ IntKind.wrap IntKind.i64 (1032 + IntKind.wrap IntKind.i64 (20 * IntKind.wrap IntKind.i64 n26)) ∧
                                            (IntKind.wrap IntKind.i64 (1032 + IntKind.wrap IntKind.i64 (20 * IntKind.wrap IntKind.i64 n26)) ≤ IntKind.wrap IntKind.i64 (1032 + IntKind.wrap IntKind.i64 (24 * IntKind.wrap IntKind.i64 n26)) ∧
                                             IntKind.wrap IntKind.i64 (1032 + IntKind.wrap IntKind.i64 (24 * IntKind.wrap IntKind.i64 n26)) ≤ (↑(ByteArray.size x0) : Int))) ∧
                                           ((0 ≤ IntKind.wrap IntKind.i64 (1032 + IntKind.wrap IntKind.i64 (24 * IntKind.wrap IntKind.i64 n26)) ∧
                                             (IntKind.wrap IntKind.i64 (1032 + IntKind.wrap IntKind.i64 (24 * IntKind.wrap IntKind.i64 n26)) ≤ IntKind.wrap IntKind.i64 (1032 + IntKind.wrap IntKind.i64 (28 * IntKind.wrap IntKind.i64 n26)) ∧
                                              IntKind.wrap IntKind.i64 (1032 + IntKind.wrap IntKind.i64 (28 * IntKind.wrap IntKind.i64 n26)) ≤ (↑(ByteArray.size x0) : Int))) ∧
                                            ∀ w27 : World,
                                            (Drew w11 w27 →
                                              ((0 ≤ IntKind.wrap IntKind.i64 (1032 + IntKind.wrap IntKind.i64 (28 * IntKind.wrap IntKind.i64 n26)) ∧
                                                (IntKind.wrap IntKind.i64 (1032 + IntKind.wrap IntKind.i64 (28 * IntKind.wrap IntKind.i64 n26)) ≤ IntKind.wrap IntKind.i64 ((↑(ByteArray.size x0) : Int) - 40) ∧
                                                 IntKind.wrap IntKind.i64 ((↑(ByteArray.size x0) : Int) - 40) ≤ (↑(ByteArray.size x0) : Int))) ∧
                                               ∀ w28 : World,
                                               (w28 = World.alloc w27 (Obj.cells (Array.mk []) 44) →
                                                 ∃ I29 : Sl → Int → World → Prop, ∃ I30 : Sl → Int → World → Nat, (I29 (Sl.mk (some (Addr.mk (Array.size (World.heap w27)) 0 none)) 0 0) 0 w28 ∧
                                                  ∀ l31 : Sl,
                                                  ∀ n32 : Int,
                                                  ∀ w33 : World,
                                                  (I29 l31 n32 w33 →
                                                    (((decide (n32 < IntKind.wrap IntKind.i64 n26) = true →
                                                       ((0 ≤ IntKind.wrap IntKind.i64 (20 * n32) ∧
                                                         (IntKind.wrap IntKind.i64 (20 * n32) ≤ IntKind.wrap IntKind.i64 (IntKind.wrap IntKind.i64 (20 * n32) + 20) ∧
                                                          IntKind.wrap IntKind.i64 (IntKind.wrap IntKind.i64 (20 * n32) + 20) ≤ (↑(ByteArray.size (ByteArray.extract x0 (Int.toNat 1032) (Int.toNat (IntKind.wrap IntKind.i64 (1032 + IntKind.wrap IntKind.i64 (20 * IntKind.wrap IntKind.i64 n26)))))) : Int))) ∧
                                                        ∃ I34 : World → Prop, ((((decide (n32 > 0) = true →
                                                            ((0 ≤ IntKind.wrap IntKind.i64 (IntKind.wrap IntKind.i64 (20 * n32) - 20) ∧
                                                              (IntKind.wrap IntKind.i64 (IntKind.wrap IntKind.i64 (20 * n32) - 20) ≤ IntKind.wrap IntKind.i64 (20 * n32) ∧
                                                               IntKind.wrap IntKind.i64 (20 * n32) ≤ (↑(ByteArray.size (ByteArray.extract x0 (Int.toNat 1032) (Int.toNat (IntKind.wrap IntKind.i64 (1032 + IntKind.wrap IntKind.i64 (20 * IntKind.wrap IntKind.i64 n26)))))) : Int))) ∧
                                                             ((((!Op.bytesLess (ByteArray.toList (ByteArray.extract (ByteArray.extract x0 (Int.toNat 1032) (Int.toNat (IntKind.wrap IntKind.i64 (1032 + IntKind.wrap IntKind.i64 (20 * IntKind.wrap IntKind.i64 n26))))) (Int.toNat (IntKind.wrap IntKind.i64 (IntKind.wrap IntKind.i64 (20 * n32) - 20))) (Int.toNat (IntKind.wrap IntKind.i64 (20 * n32))))) (ByteArray.toList (ByteArray.extract (ByteArray.extract x0 (Int.toNat 1032) (Int.toNat (IntKind.wrap IntKind.i64 (1032 + IntKind.wrap IntKind.i64 (20 * IntKind.wrap IntKind.i64 n26))))) (Int.toNat (IntKind.wrap IntKind.i64 (20 * n32))) (Int.toNat (IntKind.wrap IntKind.i64 (IntKind.wrap IntKind.i64 (20 * n32) + 20)))))) = true →
                                                                R (Value.tuple (Array.mk [Value.slice none 0 0, Value.string (ByteArray.mk (Array.mk [])), Value.int IntKind.i64 3])) w33)) ∧
                                                              ((!Op.bytesLess (ByteArray.toList (ByteArray.extract (ByteArray.extract x0 (Int.toNat 1032) (Int.toNat (IntKind.wrap IntKind.i64 (1032 + IntKind.wrap IntKind.i64 (20 * IntKind.wrap IntKind.i64 n26))))) (Int.toNat (IntKind.wrap IntKind.i64 (IntKind.wrap IntKind.i64 (20 * n32) - 20))) (Int.toNat (IntKind.wrap IntKind.i64 (20 * n32))))) (ByteArray.toList (ByteArray.extract (ByteArray.extract x0 (Int.toNat 1032) (Int.toNat (IntKind.wrap IntKind.i64 (1032 + IntKind.wrap IntKind.i64 (20 * IntKind.wrap IntKind.i64 n26))))) (Int.toNat (IntKind.wrap IntKind.i64 (20 * n32))) (Int.toNat (IntKind.wrap IntKind.i64 (IntKind.wrap IntKind.i64 (20 * n32) + 20)))))) = false →
                                                                I34 w33))))) ∧
                                                          (decide (n32 > 0) = false →
                                                            I34 w33)) ∧
                                                         ∀ w35 : World,
                                                         (I34 w35 →
                                                           (((0 : Int) ≤ (0 : Int) ∧
                                                             0 < (↑(ByteArray.size (ByteArray.extract (ByteArray.extract x0 (Int.toNat 1032) (Int.toNat (IntKind.wrap IntKind.i64 (1032 + IntKind.wrap IntKind.i64 (20 * IntKind.wrap IntKind.i64 n26))))) (Int.toNat (IntKind.wrap IntKind.i64 (20 * n32))) (Int.toNat (IntKind.wrap IntKind.i64 (IntKind.wrap IntKind.i64 (20 * n32) + 20))))) : Int)) ∧
                                                            ∃ I36 : World → Prop, (((0 ≤ IntKind.wrap IntKind.i64 (byteAt (ByteArray.extract (ByteArray.extract x0 (Int.toNat 1032) (Int.toNat (IntKind.wrap IntKind.i64 (1032 + IntKind.wrap IntKind.i64 (20 * IntKind.wrap IntKind.i64 n26))))) (Int.toNat (IntKind.wrap IntKind.i64 (20 * n32))) (Int.toNat (IntKind.wrap IntKind.i64 (IntKind.wrap IntKind.i64 (20 * n32) + 20)))) 0) ∧
                                                               IntKind.wrap IntKind.i64 (byteAt (ByteArray.extract (ByteArray.extract x0 (Int.toNat 1032) (Int.toNat (IntKind.wrap IntKind.i64 (1032 + IntKind.wrap IntKind.i64 (20 * IntKind.wrap IntKind.i64 n26))))) (Int.toNat (IntKind.wrap IntKind.i64 (20 * n32))) (Int.toNat (IntKind.wrap IntKind.i64 (IntKind.wrap IntKind.i64 (20 * n32) + 20)))) 0) < (↑l9.2 : Int)) ∧
                                                              ∃ a37 : Addr, (l9.1 = some a37 ∧
                                                               ∃ n38 : Int, (World.cell? w35 (Addr.add a37 (Int.toNat (IntKind.wrap IntKind.i64 (byteAt (ByteArray.extract (ByteArray.extract x0 (Int.toNat 1032) (Int.toNat (IntKind.wrap IntKind.i64 (1032 + IntKind.wrap IntKind.i64 (20 * IntKind.wrap IntKind.i64 n26))))) (Int.toNat (IntKind.wrap IntKind.i64 (20 * n32))) (Int.toNat (IntKind.wrap IntKind.i64 (IntKind.wrap IntKind.i64 (20 * n32) + 20)))) 0)) * 1)) = some (Value.int IntKind.u64 n38) ∧
                                                                (((decide (IntKind.wrap IntKind.u64 n32 ≥ n38) = true →
                                                                   R (Value.tuple (Array.mk [Value.slice none 0 0, Value.string (ByteArray.mk (Array.mk [])), Value.int IntKind.i64 3])) w35)) ∧
                                                                 (decide (IntKind.wrap IntKind.u64 n32 ≥ n38) = false →
                                                                   (((decide (IntKind.wrap IntKind.i64 (byteAt (ByteArray.extract (ByteArray.extract x0 (Int.toNat 1032) (Int.toNat (IntKind.wrap IntKind.i64 (1032 + IntKind.wrap IntKind.i64 (20 * IntKind.wrap IntKind.i64 n26))))) (Int.toNat (IntKind.wrap IntKind.i64 (20 * n32))) (Int.toNat (IntKind.wrap IntKind.i64 (IntKind.wrap IntKind.i64 (20 * n32) + 20)))) 0) > 0) = true →
                                                                      ((0 ≤ IntKind.wrap IntKind.i64 (IntKind.wrap IntKind.i64 (byteAt (ByteArray.extract (ByteArray.extract x0 (Int.toNat 1032) (Int.toNat (IntKind.wrap IntKind.i64 (1032 + IntKind.wrap IntKind.i64 (20 * IntKind.wrap IntKind.i64 n26))))) (Int.toNat (IntKind.wrap IntKind.i64 (20 * n32))) (Int.toNat (IntKind.wrap IntKind.i64 (IntKind.wrap IntKind.i64 (20 * n32) + 20)))) 0) - 1) ∧
                                                                        IntKind.wrap IntKind.i64 (IntKind.wrap IntKind.i64 (byteAt (ByteArray.extract (ByteArray.extract x0 (Int.toNat 1032) (Int.toNat (IntKind.wrap IntKind.i64 (1032 + IntKind.wrap IntKind.i64 (20 * IntKind.wrap IntKind.i64 n26))))) (Int.toNat (IntKind.wrap IntKind.i64 (20 * n32))) (Int.toNat (IntKind.wrap IntKind.i64 (IntKind.wrap IntKind.i64 (20 * n32) + 20)))) 0) - 1) < (↑l9.2 : Int)) ∧
                                                                       ∃ a39 : Addr, (l9.1 = some a39 ∧
                                                                        ∃ n40 : Int, (World.cell? w35 (Addr.add a39 (Int.toNat (IntKind.wrap IntKind.i64 (IntKind.wrap IntKind.i64 (byteAt (ByteArray.extract (ByteArray.extract x0 (Int.toNat 1032) (Int.toNat (IntKind.wrap IntKind.i64 (1032 + IntKind.wrap IntKind.i64 (20 * IntKind.wrap IntKind.i64 n26))))) (Int.toNat (IntKind.wrap IntKind.i64 (20 * n32))) (Int.toNat (IntKind.wrap IntKind.i64 (IntKind.wrap IntKind.i64 (20 * n32) + 20)))) 0) - 1)) * 1)) = some (Value.int IntKind.u64 n40) ∧
                                                                         (((decide (IntKind.wrap IntKind.u64 n32 < n40) = true →
                                                                            R (Value.tuple (Array.mk [Value.slice none 0 0, Value.string (ByteArray.mk (Array.mk [])), Value.int IntKind.i64 3])) w35)) ∧
                                                                          (decide (IntKind.wrap IntKind.u64 n32 < n40) = false →
                                                                            I36 w35))))))) ∧
                                                                    (decide (IntKind.wrap IntKind.i64 (byteAt (ByteArray.extract (ByteArray.extract x0 (Int.toNat 1032) (Int.toNat (IntKind.wrap IntKind.i64 (1032 + IntKind.wrap IntKind.i64 (20 * IntKind.wrap IntKind.i64 n26))))) (Int.toNat (IntKind.wrap IntKind.i64 (20 * n32))) (Int.toNat (IntKind.wrap IntKind.i64 (IntKind.wrap IntKind.i64 (20 * n32) + 20)))) 0) > 0) = false →
                                                                      I36 w35))))))) ∧
                                                             ∀ w41 : World,
                                                             (I36 w41 →
                                                               ((0 ≤ IntKind.wrap IntKind.i64 (4 * n32) ∧
                                                                 (IntKind.wrap IntKind.i64 (4 * n32) ≤ IntKind.wrap IntKind.i64 (IntKind.wrap IntKind.i64 (4 * n32) + 4) ∧
                                                                  IntKind.wrap IntKind.i64 (IntKind.wrap IntKind.i64 (4 * n32) + 4) ≤ (↑(ByteArray.size (ByteArray.extract x0 (Int.toNat (IntKind.wrap IntKind.i64 (1032 + IntKind.wrap IntKind.i64 (24 * IntKind.wrap IntKind.i64 n26)))) (Int.toNat (IntKind.wrap IntKind.i64 (1032 + IntKind.wrap IntKind.i64 (28 * IntKind.wrap IntKind.i64 n26)))))) : Int))) ∧
                                                                Calls Try.prog (32 : Nat) (Array.mk [Value.string (ByteArray.extract (ByteArray.extract x0 (Int.toNat (IntKind.wrap IntKind.i64 (1032 + IntKind.wrap IntKind.i64 (24 * IntKind.wrap IntKind.i64 n26)))) (Int.toNat (IntKind.wrap IntKind.i64 (1032 + IntKind.wrap IntKind.i64 (28 * IntKind.wrap IntKind.i64 n26))))) (Int.toNat (IntKind.wrap IntKind.i64 (4 * n32))) (Int.toNat (IntKind.wrap IntKind.i64 (IntKind.wrap IntKind.i64 (4 * n32) + 4))))]) (w41) (fun e42 w43 =>
                                                                  ∃ n44 : Int, (e42 = Ending.returned (Value.int IntKind.u64 n44) ∧
                                                                   ∃ I45 : Int → World → Prop, ((((decide (n44 ≥ 2147483648) = true →
                                                                       ((8 : Int) ≠ (0 : Int) ∧
                                                                        (((decide (IntKind.wrap IntKind.i64 (IntKind.wrap IntKind.u64 (n44 - 2147483648)) ≥ IntKind.wrap IntKind.i64 (Int.tdiv (↑(ByteArray.size (ByteArray.extract x0 (Int.toNat (IntKind.wrap IntKind.i64 (1032 + IntKind.wrap IntKind.i64 (28 * IntKind.wrap IntKind.i64 n26)))) (Int.toNat (IntKind.wrap IntKind.i64 ((↑(ByteArray.size x0) : Int) - 40))))) : Int) 8)) = true →
                                                                           R (Value.tuple (Array.mk [Value.slice none 0 0, Value.string (ByteArray.mk (Array.mk [])), Value.int IntKind.i64 3])) w43)) ∧
                                                                         (decide (IntKind.wrap IntKind.i64 (IntKind.wrap IntKind.u64 (n44 - 2147483648)) ≥ IntKind.wrap IntKind.i64 (Int.tdiv (↑(ByteArray.size (ByteArray.extract x0 (Int.toNat (IntKind.wrap IntKind.i64 (1032 + IntKind.wrap IntKind.i64 (28 * IntKind.wrap IntKind.i64 n26)))) (Int.toNat (IntKind.wrap IntKind.i64 ((↑(ByteArray.size x0) : Int) - 40))))) : Int) 8)) = false →
                                                                           ((0 ≤ IntKind.wrap IntKind.i64 (8 * IntKind.wrap IntKind.i64 (IntKind.wrap IntKind.u64 (n44 - 2147483648))) ∧
                                                                             (IntKind.wrap IntKind.i64 (8 * IntKind.wrap IntKind.i64 (IntKind.wrap IntKind.u64 (n44 - 2147483648))) ≤ IntKind.wrap IntKind.i64 (IntKind.wrap IntKind.i64 (8 * IntKind.wrap IntKind.i64 (IntKind.wrap IntKind.u64 (n44 - 2147483648))) + 8) ∧
                                                                              IntKind.wrap IntKind.i64 (IntKind.wrap IntKind.i64 (8 * IntKind.wrap IntKind.i64 (IntKind.wrap IntKind.u64 (n44 - 2147483648))) + 8) ≤ (↑(ByteArray.size (ByteArray.extract x0 (Int.toNat (IntKind.wrap IntKind.i64 (1032 + IntKind.wrap IntKind.i64 (28 * IntKind.wrap IntKind.i64 n26)))) (Int.toNat (IntKind.wrap IntKind.i64 ((↑(ByteArray.size x0) : Int) - 40))))) : Int))) ∧
                                                                            Calls Try.prog (32 : Nat) (Array.mk [Value.string (ByteArray.extract (ByteArray.extract x0 (Int.toNat (IntKind.wrap IntKind.i64 (1032 + IntKind.wrap IntKind.i64 (28 * IntKind.wrap IntKind.i64 n26)))) (Int.toNat (IntKind.wrap IntKind.i64 ((↑(ByteArray.size x0) : Int) - 40)))) (Int.toNat (IntKind.wrap IntKind.i64 (8 * IntKind.wrap IntKind.i64 (IntKind.wrap IntKind.u64 (n44 - 2147483648))))) (Int.toNat (IntKind.wrap IntKind.i64 (IntKind.wrap IntKind.i64 (8 * IntKind.wrap IntKind.i64 (IntKind.wrap IntKind.u64 (n44 - 2147483648))) + 8))))]) (w43) (fun e46 w47 =>
                                                                              ∃ n48 : Int, (e46 = Ending.returned (Value.int IntKind.u64 n48) ∧
                                                                               I45 n48 w47)))))))) ∧
                                                                     (decide (n44 ≥ 2147483648) = false →
                                                                       I45 n44 w43)) ∧
                                                                    ∀ n49 : Int,
                                                                    ∀ w50 : World,
                                                                    (I45 n49 w50 →
                                                                      (((decide (n49 > 1099511627776) = true →
                                                                         R (Value.tuple (Array.mk [Value.slice none 0 0, Value.string (ByteArray.mk (Array.mk [])), Value.int IntKind.i64 2])) w50)) ∧
                                                                       (decide (n49 > 1099511627776) = false →
                                                                         ∀ w51 : World,
                                                                         (Drew w50 w51 →
                                                                           ∃ I52 : World → Prop, (I52 w51 ∧
                                                                            ((0 ≤ IntKind.wrap IntKind.i64 (4 * n32) ∧
                                                                              (IntKind.wrap IntKind.i64 (4 * n32) ≤ IntKind.wrap IntKind.i64 (IntKind.wrap IntKind.i64 (4 * n32) + 4) ∧
                                                                               IntKind.wrap IntKind.i64 (IntKind.wrap IntKind.i64 (4 * n32) + 4) ≤ (↑(ByteArray.size (ByteArray.extract x0 (Int.toNat (IntKind.wrap IntKind.i64 (1032 + IntKind.wrap IntKind.i64 (20 * IntKind.wrap IntKind.i64 n26)))) (Int.toNat (IntKind.wrap IntKind.i64 (1032 + IntKind.wrap IntKind.i64 (24 * IntKind.wrap IntKind.i64 n26)))))) : Int))) ∧
                                                                             Calls Try.prog (33 : Nat) (Array.mk [Value.string (ByteArray.extract (ByteArray.extract x0 (Int.toNat 1032) (Int.toNat (IntKind.wrap IntKind.i64 (1032 + IntKind.wrap IntKind.i64 (20 * IntKind.wrap IntKind.i64 n26))))) (Int.toNat (IntKind.wrap IntKind.i64 (20 * n32))) (Int.toNat (IntKind.wrap IntKind.i64 (IntKind.wrap IntKind.i64 (20 * n32) + 20))))]) (w51) (fun e53 w54 =>
                                                                               ∃ s55 : ByteArray, (e53 = Ending.returned (Value.string s55) ∧
                                                                                (I52 w54 ∧
                                                                                 Calls Try.prog (32 : Nat) (Array.mk [Value.string (ByteArray.extract (ByteArray.extract x0 (Int.toNat (IntKind.wrap IntKind.i64 (1032 + IntKind.wrap IntKind.i64 (20 * IntKind.wrap IntKind.i64 n26)))) (Int.toNat (IntKind.wrap IntKind.i64 (1032 + IntKind.wrap IntKind.i64 (24 * IntKind.wrap IntKind.i64 n26))))) (Int.toNat (IntKind.wrap IntKind.i64 (4 * n32))) (Int.toNat (IntKind.wrap IntKind.i64 (IntKind.wrap IntKind.i64 (4 * n32) + 4))))]) (w54) (fun e56 w57 =>
                                                                                   ∃ n58 : Int, (e56 = Ending.returned (Value.int IntKind.u64 n58) ∧
                                                                                    (I52 w57 ∧
                                                                                     ∀ w59 : World,
                                                                                     (w59 = World.alloc w57 (Obj.cells (Array.mk [Value.string s55, Value.int IntKind.i64 (IntKind.wrap IntKind.i64 n49), Value.int IntKind.u32 (IntKind.wrap IntKind.u32 n58)]) 44) →
                                                                                       (I52 w59 ∧
                                                                                        ∃ w60 : World, ∃ l61 : Sl, (Sem.run Try.prog (Builtin.append_ (Array.mk [39, 39]) 39 (Array.mk [Value.slice l31.1 l31.2 l31.3, Value.slice (some (Addr.mk (Array.size (World.heap w57)) 0 none)) 1 1])) w59 = Result.ok (Value.slice l61.1 l61.2 l61.3) w60 ∧
                                                                                         (I52 w60 ∧
                                                                                          (I29 (Sl.mk l61.1 l61.2 l61.3) (IntKind.wrap IntKind.i64 (n32 + 1)) w60 ∧
                                                                                           I30 (Sl.mk l61.1 l61.2 l61.3) (IntKind.wrap IntKind.i64 (n32 + 1)) w60 < I30 l31 n32 w33))))))))))))))))))))))))))))) ∧
                                                     (decide (n32 < IntKind.wrap IntKind.i64 n26) = false →
                                                       ∀ w62 : World,
                                                       (Drew w33 w62 →
                                                         ∃ I63 : World → Prop, (I63 w62 ∧
                                                          ((0 ≤ IntKind.wrap IntKind.i64 ((↑(ByteArray.size x0) : Int) - 20) ∧
                                                            IntKind.wrap IntKind.i64 ((↑(ByteArray.size x0) : Int) - 20) ≤ (↑(ByteArray.size x0) : Int)) ∧
                                                           ((0 ≤ IntKind.wrap IntKind.i64 ((↑(ByteArray.size x0) : Int) - 20) ∧
                                                             IntKind.wrap IntKind.i64 ((↑(ByteArray.size x0) : Int) - 20) ≤ (↑(ByteArray.size x0) : Int)) ∧
                                                            Calls Try.prog (34 : Nat) (Array.mk [Value.string (ByteArray.extract x0 0 (Int.toNat (IntKind.wrap IntKind.i64 ((↑(ByteArray.size x0) : Int) - 20))))]) (w62) (fun e64 w65 =>
                                                              ∃ s66 : ByteArray, (e64 = Ending.returned (Value.string s66) ∧
                                                               (I63 w65 ∧
                                                                ((((!ByteArray.toList s66 == ByteArray.toList (ByteArray.extract x0 (Int.toNat (IntKind.wrap IntKind.i64 ((↑(ByteArray.size x0) : Int) - 20))) (ByteArray.size x0))) = true →
                                                                   R (Value.tuple (Array.mk [Value.slice none 0 0, Value.string (ByteArray.mk (Array.mk [])), Value.int IntKind.i64 5])) w65)) ∧
                                                                 ((!ByteArray.toList s66 == ByteArray.toList (ByteArray.extract x0 (Int.toNat (IntKind.wrap IntKind.i64 ((↑(ByteArray.size x0) : Int) - 20))) (ByteArray.size x0))) = false →
                                                                   ((0 ≤ IntKind.wrap IntKind.i64 ((↑(ByteArray.size x0) : Int) - 40) ∧
                                                                     (IntKind.wrap IntKind.i64 ((↑(ByteArray.size x0) : Int) - 40) ≤ IntKind.wrap IntKind.i64 ((↑(ByteArray.size x0) : Int) - 20) ∧
                                                                      IntKind.wrap IntKind.i64 ((↑(ByteArray.size x0) : Int) - 20) ≤ (↑(ByteArray.size x0) : Int))) ∧
                                                                    Calls Try.prog (33 : Nat) (Array.mk [Value.string (ByteArray.extract x0 (Int.toNat (IntKind.wrap IntKind.i64 ((↑(ByteArray.size x0) : Int) - 40))) (Int.toNat (IntKind.wrap IntKind.i64 ((↑(ByteArray.size x0) : Int) - 20))))]) (w65) (fun e67 w68 =>
                                                                      ∃ s69 : ByteArray, (e67 = Ending.returned (Value.string s69) ∧
                                                                       R (Value.tuple (Array.mk [Value.slice l31.1 l31.2 l31.3, Value.string s69, Value.int IntKind.i64 0])) w68)))))))))))))))))))))))))))))))))))))))))))))))))))
theorem vc_cartularyref12_Parse_ok {x0 : ByteArray} {w : World} {R : Value → World → Prop} {R' : Ending → World → Prop} (h : vc_cartularyref12_Parse x0 w R) (hR : ∀ v w', R v w' → R' (.returned v) w') :
    Calls Try.prog 12 #[.string x0] w R' :=
  calls_of_body (vs := [(.string x0, false)]) (ty := ty) (ann := ⟨[(29, []), (32, []), (38, [(17, .int .u64)])], [(7, [(5, .slice), (6, .int .i64)]), (24, [(13, .slice), (14, .int .i64)])], [(3, .held [(0, true), (1, true), (2, false), (3, false), (4, true)]), (20, .quiet), (40, .held [(0, true), (1, true), (3, true), (4, true), (5, true), (6, true), (7, true), (8, true), (9, true), (10, true), (11, true), (2, false), (12, false), (13, true), (14, true), (15, false), (16, false), (17, true)]), (41, .held [(0, true), (1, true), (2, true), (3, true), (4, true), (6, true), (7, true), (8, true), (9, true), (10, true), (5, false), (11, true)])], []⟩) (c := Try.f12.body.getD .skip) (by kernel_rfl) Try.func12 (by kernel_rfl) (by kernel_rfl) (Eq.mp (by kernel_rfl) h) hR
/-- cartularyref12.Check -/
def vc_cartularyref12_Check (x0a : Option Addr) (x0n : Nat) (x0c : Nat) (x1 : ByteArray) (w : World) (R : Value → World → Prop) : Prop :=
  (((decide ((↑x0n : Int) > 1000) = true →
     R (Value.int IntKind.i64 2) w)) ∧
   (decide ((↑x0n : Int) > 1000) = false →
     ∃ I1 : Int → World → Prop, ∃ I2 : Int → World → Nat, (I1 0 w ∧
      ∀ n3 : Int,
      ∀ w4 : World,
      (I1 n3 w4 →
        (((decide (n3 < (↑x0n : Int)) = true →
           ((0 ≤ n3 ∧
             n3 < (↑x0n : Int)) ∧
            ∃ a5 : Addr, (x0a = some a5 ∧
             ∃ s6 : ByteArray, ∃ n7 : Int, ∃ n8 : Int, (Sem.run Try.prog (loadVar 44 (Addr.add a5 (Int.toNat n3 * 3))) w4 = Result.ok (Value.agg (Array.mk [Value.string s6, Value.int IntKind.i64 n7, Value.int IntKind.u32 n8])) w4 ∧
              ∀ w9 : World,
              (w9 = World.alloc w4 (Obj.cells (Array.mk [Value.string (ByteArray.mk (Array.mk [])), Value.int IntKind.i64 0, Value.int IntKind.u32 0]) 44) →
                ∃ w10 : World, (Sem.run Try.prog (storeVar 44 (Addr.mk (Array.size (World.heap w4)) 0 none) (Value.agg (Array.mk [Value.string s6, Value.int IntKind.i64 n7, Value.int IntKind.u32 n8]))) w9 = Result.ok PUnit.unit w10 ∧
                 ∃ s11 : ByteArray, (World.cell? w10 (Addr.mk (Array.size (World.heap w4)) 0 none) = some (Value.string s11) ∧
                  Calls Try.prog (39 : Nat) (Array.mk [Value.string s11]) (w10) (fun e12 w13 =>
                    ∃ b14 : Bool, (e12 = Ending.returned (Value.bool b14) ∧
                     ((((!b14) = true →
                        R (Value.int IntKind.i64 4) w13)) ∧
                      ((!b14) = false →
                        ∃ n15 : Int, (World.cell? w13 (Addr.mk (Array.size (World.heap w4)) 1 none) = some (Value.int IntKind.i64 n15) ∧
                         (((decide (n15 < 0) = true →
                            R (Value.int IntKind.i64 4) w13)) ∧
                          (decide (n15 < 0) = false →
                            ∃ n16 : Int, (World.cell? w13 (Addr.mk (Array.size (World.heap w4)) 1 none) = some (Value.int IntKind.i64 n16) ∧
                             (((decide (n16 > 1099511627776) = true →
                                R (Value.int IntKind.i64 4) w13)) ∧
                              (decide (n16 > 1099511627776) = false →
                                ((0 ≤ n3 ∧
                                  n3 ≤ (↑x0c : Int)) ∧
                                 ∃ I17 : Int → World → Prop, ∃ I18 : Int → World → Nat, (I17 0 w13 ∧
                                  ∀ n19 : Int,
                                  ∀ w20 : World,
                                  (I17 n19 w20 →
                                    (((decide (n19 < (↑(Int.toNat n3) : Int)) = true →
                                       ((0 ≤ n19 ∧
                                         n19 < (↑(Int.toNat n3) : Int)) ∧
                                        ∃ a21 : Addr, (subA x0a x0c 0 3 = some a21 ∧
                                         ∃ s22 : ByteArray, ∃ n23 : Int, ∃ n24 : Int, (Sem.run Try.prog (loadVar 44 (Addr.add a21 (Int.toNat n19 * 3))) w20 = Result.ok (Value.agg (Array.mk [Value.string s22, Value.int IntKind.i64 n23, Value.int IntKind.u32 n24])) w20 ∧
                                          ∀ w25 : World,
                                          (w25 = World.alloc w20 (Obj.cells (Array.mk [Value.string (ByteArray.mk (Array.mk [])), Value.int IntKind.i64 0, Value.int IntKind.u32 0]) 44) →
                                            ∃ w26 : World, (Sem.run Try.prog (storeVar 44 (Addr.mk (Array.size (World.heap w20)) 0 none) (Value.agg (Array.mk [Value.string s22, Value.int IntKind.i64 n23, Value.int IntKind.u32 n24]))) w25 = Result.ok PUnit.unit w26 ∧
                                             ∃ s27 : ByteArray, (World.cell? w26 (Addr.mk (Array.size (World.heap w20)) 0 none) = some (Value.string s27) ∧
                                              ∃ s28 : ByteArray, (World.cell? w26 (Addr.mk (Array.size (World.heap w4)) 0 none) = some (Value.string s28) ∧
                                               ((((ByteArray.toList s27 == ByteArray.toList s28) = true →
                                                  R (Value.int IntKind.i64 4) w26)) ∧
                                                ((ByteArray.toList s27 == ByteArray.toList s28) = false →
                                                  (I17 (IntKind.wrap IntKind.i64 (n19 + 1)) w26 ∧
                                                   I18 (IntKind.wrap IntKind.i64 (n19 + 1)) w26 < I18 n19 w20)))))))))))) ∧
                                     (decide (n19 < (↑(Int.toNat n3) : Int)) = false →
                                       (I1 (IntKind.wrap IntKind.i64 (n3 + 1)) w20 ∧
                                        I2 (IntKind.wrap IntKind.i64 (n3 + 1)) w20 < I2 n3 w4)))))))))))))))))))))))) ∧
         (decide (n3 < (↑x0n : Int)) = false →
           Calls Try.prog (39 : Nat) (Array.mk [Value.string x1]) (w4) (fun e29 w30 =>
             ∃ b31 : Bool, (e29 = Ending.returned (Value.bool b31) ∧
              ((((!b31) = true →
                 R (Value.int IntKind.i64 4) w30)) ∧
               ((!b31) = false →
                 R (Value.int IntKind.i64 0) w30))))))))))
theorem vc_cartularyref12_Check_ok {x0a : Option Addr} {x0n : Nat} {x0c : Nat} {x1 : ByteArray} {w : World} {R : Value → World → Prop} {R' : Ending → World → Prop} (h : vc_cartularyref12_Check x0a x0n x0c x1 w R) (hR : ∀ v w', R v w' → R' (.returned v) w') :
    Calls Try.prog 14 #[.slice x0a x0n x0c, .string x1] w R' :=
  calls_of_body (vs := [(.slice x0a x0n x0c, false), (.string x1, false)]) (ty := ty) (ann := ⟨[], [(4, [(14, .int .i64)]), (9, [(37, .int .i64)])], [], []⟩) (c := Try.f14.body.getD .skip) (by kernel_rfl) Try.func14 (by kernel_rfl) (by kernel_rfl) (Eq.mp (by kernel_rfl) h) hR
/-- cartularyref12.Sorted -/
def vc_cartularyref12_Sorted (x0a : Option Addr) (x0n : Nat) (x0c : Nat) (w : World) (R : Value → World → Prop) : Prop :=
  ∀ w1 : World,
  (w1 = World.alloc w (Obj.cells (Array.mk []) 44) →
    ∃ I2 : Sl → Int → World → Prop, ∃ I3 : Sl → Int → World → Nat, (I2 (Sl.mk (some (Addr.mk (Array.size (World.heap w)) 0 none)) 0 0) 0 w1 ∧
     ∀ l4 : Sl,
     ∀ n5 : Int,
     ∀ w6 : World,
     (I2 l4 n5 w6 →
       (((decide (n5 < (↑x0n : Int)) = true →
          ((0 ≤ n5 ∧
            n5 < (↑x0n : Int)) ∧
           ∃ a7 : Addr, (x0a = some a7 ∧
            ∃ s8 : ByteArray, ∃ n9 : Int, ∃ n10 : Int, (Sem.run Try.prog (loadVar 44 (Addr.add a7 (Int.toNat n5 * 3))) w6 = Result.ok (Value.agg (Array.mk [Value.string s8, Value.int IntKind.i64 n9, Value.int IntKind.u32 n10])) w6 ∧
             ∀ w11 : World,
             (w11 = World.alloc w6 (Obj.cells (Array.mk [Value.string (ByteArray.mk (Array.mk [])), Value.int IntKind.i64 0, Value.int IntKind.u32 0]) 44) →
               ∃ w12 : World, (Sem.run Try.prog (storeVar 44 (Addr.mk (Array.size (World.heap w6)) 0 none) (Value.agg (Array.mk [Value.string s8, Value.int IntKind.i64 n9, Value.int IntKind.u32 n10]))) w11 = Result.ok PUnit.unit w12 ∧
                ∀ w13 : World,
                (w13 = World.alloc w12 (Obj.cells (Array.mk []) 44) →
                  ∃ I14 : Sl → Bool → Int → World → Prop, ∃ I15 : Sl → Bool → Int → World → Nat, (I14 (Sl.mk (some (Addr.mk (Array.size (World.heap w12)) 0 none)) 0 0) false 0 w13 ∧
                   ∀ l16 : Sl,
                   ∀ b17 : Bool,
                   ∀ n18 : Int,
                   ∀ w19 : World,
                   (I14 l16 b17 n18 w19 →
                     (((decide (n18 < (↑l4.2 : Int)) = true →
                        ((0 ≤ n18 ∧
                          n18 < (↑l4.2 : Int)) ∧
                         ∃ a20 : Addr, (l4.1 = some a20 ∧
                          ∃ s21 : ByteArray, ∃ n22 : Int, ∃ n23 : Int, (Sem.run Try.prog (loadVar 44 (Addr.add a20 (Int.toNat n18 * 3))) w19 = Result.ok (Value.agg (Array.mk [Value.string s21, Value.int IntKind.i64 n22, Value.int IntKind.u32 n23])) w19 ∧
                           ∀ w24 : World,
                           (w24 = World.alloc w19 (Obj.cells (Array.mk [Value.string (ByteArray.mk (Array.mk [])), Value.int IntKind.i64 0, Value.int IntKind.u32 0]) 44) →
                             ∃ w25 : World, (Sem.run Try.prog (storeVar 44 (Addr.mk (Array.size (World.heap w19)) 0 none) (Value.agg (Array.mk [Value.string s21, Value.int IntKind.i64 n22, Value.int IntKind.u32 n23]))) w24 = Result.ok PUnit.unit w25 ∧
                              ((((!b17) = true →
                                 ∃ s26 : ByteArray, (World.cell? w25 (Addr.mk (Array.size (World.heap w19)) 0 none) = some (Value.string s26) ∧
                                  ∃ s27 : ByteArray, (World.cell? w25 (Addr.mk (Array.size (World.heap w6)) 0 none) = some (Value.string s27) ∧
                                   ((((!(Op.bytesLess (ByteArray.toList s26) (ByteArray.toList s27) || ByteArray.toList s26 == ByteArray.toList s27)) = true →
                                      ∃ s28 : ByteArray, ∃ n29 : Int, ∃ n30 : Int, (Sem.run Try.prog (loadVar 44 (Addr.mk (Array.size (World.heap w6)) 0 none)) w25 = Result.ok (Value.agg (Array.mk [Value.string s28, Value.int IntKind.i64 n29, Value.int IntKind.u32 n30])) w25 ∧
                                       ∀ w31 : World,
                                       (w31 = World.alloc w25 (Obj.cells (Array.mk [Value.string s28, Value.int IntKind.i64 n29, Value.int IntKind.u32 n30]) 44) →
                                         ∃ w32 : World, ∃ l33 : Sl, (Sem.run Try.prog (Builtin.append_ (Array.mk [39, 39]) 39 (Array.mk [Value.slice l16.1 l16.2 l16.3, Value.slice (some (Addr.mk (Array.size (World.heap w25)) 0 none)) 1 1])) w31 = Result.ok (Value.slice l33.1 l33.2 l33.3) w32 ∧
                                          ∃ s34 : ByteArray, ∃ n35 : Int, ∃ n36 : Int, (Sem.run Try.prog (loadVar 44 (Addr.mk (Array.size (World.heap w19)) 0 none)) w32 = Result.ok (Value.agg (Array.mk [Value.string s34, Value.int IntKind.i64 n35, Value.int IntKind.u32 n36])) w32 ∧
                                           ∀ w37 : World,
                                           (w37 = World.alloc w32 (Obj.cells (Array.mk [Value.string s34, Value.int IntKind.i64 n35, Value.int IntKind.u32 n36]) 44) →
                                             ∃ w38 : World, ∃ l39 : Sl, (Sem.run Try.prog (Builtin.append_ (Array.mk [39, 39]) 39 (Array.mk [Value.slice l33.1 l33.2 l33.3, Value.slice (some (Addr.mk (Array.size (World.heap w32)) 0 none)) 1 1])) w37 = Result.ok (Value.slice l39.1 l39.2 l39.3) w38 ∧
                                              (I14 (Sl.mk l39.1 l39.2 l39.3) true (IntKind.wrap IntKind.i64 (n18 + 1)) w38 ∧
                                               I15 (Sl.mk l39.1 l39.2 l39.3) true (IntKind.wrap IntKind.i64 (n18 + 1)) w38 < I15 l16 b17 n18 w19))))))))) ∧
                                    ((!(Op.bytesLess (ByteArray.toList s26) (ByteArray.toList s27) || ByteArray.toList s26 == ByteArray.toList s27)) = false →
                                      ∃ s40 : ByteArray, ∃ n41 : Int, ∃ n42 : Int, (Sem.run Try.prog (loadVar 44 (Addr.mk (Array.size (World.heap w19)) 0 none)) w25 = Result.ok (Value.agg (Array.mk [Value.string s40, Value.int IntKind.i64 n41, Value.int IntKind.u32 n42])) w25 ∧
                                       ∀ w43 : World,
                                       (w43 = World.alloc w25 (Obj.cells (Array.mk [Value.string s40, Value.int IntKind.i64 n41, Value.int IntKind.u32 n42]) 44) →
                                         ∃ w44 : World, ∃ l45 : Sl, (Sem.run Try.prog (Builtin.append_ (Array.mk [39, 39]) 39 (Array.mk [Value.slice l16.1 l16.2 l16.3, Value.slice (some (Addr.mk (Array.size (World.heap w25)) 0 none)) 1 1])) w43 = Result.ok (Value.slice l45.1 l45.2 l45.3) w44 ∧
                                          (I14 (Sl.mk l45.1 l45.2 l45.3) b17 (IntKind.wrap IntKind.i64 (n18 + 1)) w44 ∧
                                           I15 (Sl.mk l45.1 l45.2 l45.3) b17 (IntKind.wrap IntKind.i64 (n18 + 1)) w44 < I15 l16 b17 n18 w19)))))))))) ∧
                               ((!b17) = false →
                                 ∃ s46 : ByteArray, ∃ n47 : Int, ∃ n48 : Int, (Sem.run Try.prog (loadVar 44 (Addr.mk (Array.size (World.heap w19)) 0 none)) w25 = Result.ok (Value.agg (Array.mk [Value.string s46, Value.int IntKind.i64 n47, Value.int IntKind.u32 n48])) w25 ∧
                                  ∀ w49 : World,
                                  (w49 = World.alloc w25 (Obj.cells (Array.mk [Value.string s46, Value.int IntKind.i64 n47, Value.int IntKind.u32 n48]) 44) →
                                    ∃ w50 : World, ∃ l51 : Sl, (Sem.run Try.prog (Builtin.append_ (Array.mk [39, 39]) 39 (Array.mk [Value.slice l16.1 l16.2 l16.3, Value.slice (some (Addr.mk (Array.size (World.heap w25)) 0 none)) 1 1])) w49 = Result.ok (Value.slice l51.1 l51.2 l51.3) w50 ∧
                                     (I14 (Sl.mk l51.1 l51.2 l51.3) b17 (IntKind.wrap IntKind.i64 (n18 + 1)) w50 ∧
                                      I15 (Sl.mk l51.1 l51.2 l51.3) b17 (IntKind.wrap IntKind.i64 (n18 + 1)) w50 < I15 l16 b17 n18 w19))))))))))))) ∧
                      (decide (n18 < (↑l4.2 : Int)) = false →
                        ((((!b17) = true →
                           ∃ s52 : ByteArray, ∃ n53 : Int, ∃ n54 : Int, (Sem.run Try.prog (loadVar 44 (Addr.mk (Array.size (World.heap w6)) 0 none)) w19 = Result.ok (Value.agg (Array.mk [Value.string s52, Value.int IntKind.i64 n53, Value.int IntKind.u32 n54])) w19 ∧
                            ∀ w55 : World,
                            (w55 = World.alloc w19 (Obj.cells (Array.mk [Value.string s52, Value.int IntKind.i64 n53, Value.int IntKind.u32 n54]) 44) →
                              ∃ w56 : World, ∃ l57 : Sl, (Sem.run Try.prog (Builtin.append_ (Array.mk [39, 39]) 39 (Array.mk [Value.slice l16.1 l16.2 l16.3, Value.slice (some (Addr.mk (Array.size (World.heap w19)) 0 none)) 1 1])) w55 = Result.ok (Value.slice l57.1 l57.2 l57.3) w56 ∧
                               (I2 (Sl.mk l57.1 l57.2 l57.3) (IntKind.wrap IntKind.i64 (n5 + 1)) w56 ∧
                                I3 (Sl.mk l57.1 l57.2 l57.3) (IntKind.wrap IntKind.i64 (n5 + 1)) w56 < I3 l4 n5 w6)))))) ∧
                         ((!b17) = false →
                           (I2 (Sl.mk l16.1 l16.2 l16.3) (IntKind.wrap IntKind.i64 (n5 + 1)) w19 ∧
                            I3 (Sl.mk l16.1 l16.2 l16.3) (IntKind.wrap IntKind.i64 (n5 + 1)) w19 < I3 l4 n5 w6))))))))))))))) ∧
        (decide (n5 < (↑x0n : Int)) = false →
          R (Value.slice l4.1 l4.2 l4.3) w6)))))
theorem vc_cartularyref12_Sorted_ok {x0a : Option Addr} {x0n : Nat} {x0c : Nat} {w : World} {R : Value → World → Prop} {R' : Ending → World → Prop} (h : vc_cartularyref12_Sorted x0a x0n x0c w R) (hR : ∀ v w', R v w' → R' (.returned v) w') :
    Calls Try.prog 16 #[.slice x0a x0n x0c] w R' :=
  calls_of_body (vs := [(.slice x0a x0n x0c, false)]) (ty := ty) (ann := ⟨[], [(3, [(3, .slice), (13, .int .i64)]), (8, [(6, .slice), (7, .bool), (20, .int .i64)])], [], []⟩) (c := Try.f16.body.getD .skip) (by kernel_rfl) Try.func16 (by kernel_rfl) (by kernel_rfl) (Eq.mp (by kernel_rfl) h) hR
end Go.Proofs.Ytoagdpjickippaa

/- The reference's Parse of an index. Conditions: the text is shorter than a hundred million bytes. -/
set_option linter.unusedVariables false
namespace Go.Proofs.Ytoagdpjickippaa
open Go Vc HexM SumM ShaM Go.Proofs

theorem elU64 : El Try.prog T_S_uint64 T_uint64 (.int .u64 0) 8 := ⟨by kernel_rfl, by kernel_rfl, rfl⟩
theorem elRP : ElK encP 3 Try.prog T_S_cartularyref12_Row T_cartularyref12_Row (.agg #[.string ⟨#[]⟩, .int .i64 0, .int .u32 0]) 32 :=
  ⟨by kernel_rfl, by kernel_rfl, rfl, by decide, by kernel_rfl, fun _ => rfl, fun x u hu => by
    simp only [encP, List.mem_cons, List.mem_nil_iff, or_false] at hu
    rcases hu with rfl | rfl | rfl <;> rfl⟩
def RParseR (L : List UInt8) (w : World) (v : Value) (w' : World) : Prop := Fr (fun _ => False) w w' ∧ match PkM.parseE sha1D L with
  | .error n => v = .tuple #[.slice none 0 0, .string ⟨#[]⟩, .int .i64 (n : Nat)]
  | .ok (rows, sum) => ∃ l : Sl, v = .tuple #[.slice l.a l.len l.cap, .string ⟨(hexL sum).toArray⟩, .int .i64 0] ∧ OwnK encP 3 w' w.heap.size T_cartularyref12_Row l (rows.map ofRaw)
def fanV (L : List UInt8) (k : Nat) : List Value := (List.range k).map fun i => .int .u64 (PkM.fan L i : Nat)
theorem fanV_len (L : List UInt8) (k : Nat) : (fanV L k).length = k := by simp [fanV]
theorem fanV_succ (L : List UInt8) (k : Nat) : fanV L (k + 1) = fanV L k ++ [.int .u64 (PkM.fan L k : Nat)] := by simp [fanV, List.range_succ]
theorem fan_read {L : List UInt8} {w : World} {a : Option Addr} {k : Nat} (h : Reads w a (fanV L k)) {i : Nat} (hi : i < k) : ∃ ad, a = some ad ∧ w.cell? (ad.add (i * 1)) = some (.int .u64 (PkM.fan L i : Nat)) := by
  obtain ⟨ad, h1, h2⟩ := h i (.int .u64 (PkM.fan L i : Nat)) (by simp [fanV, hi])
  exact ⟨ad, h1, by rw [Nat.mul_one]; exact h2⟩
theorem sl_sub (s : ByteArray) (A B i m : Nat) (h : A + i + m ≤ B) : ((s.extract A B).extract i (i + m)).data.toList = PkM.sl s.data.toList (A + i) m := by
  rw [sl_extract, bs_extract]
  unfold PkM.sl
  rw [List.drop_take, List.take_take, List.drop_drop, Nat.min_eq_left (by omega)]
set_option maxHeartbeats 1000000 in
theorem rparse_spec (s : ByteArray) (hs : s.size ≤ 100000000) (w : World) : Calls Try.prog F_cartularyref12_Parse #[.string s] w fun e w' => ∃ v, e = .returned v ∧ RParseR s.data.toList w v w' := by
  refine vc_cartularyref12_Parse_ok (R := RParseR s.data.toList w) ?_ (fun v w' h => ⟨v, rfl, h⟩)
  obtain ⟨L, hL⟩ : ∃ L, s.data.toList = L := ⟨_, rfl⟩
  have hsz : L.length = s.size := by rw [← hL]; simp
  have ex : ∀ i n, (s.extract i (i + n)).data.toList = PkM.sl L i n := fun i n => by rw [sl_extract, hL]
  rw [hL]
  have bad : ∀ {w' : World} {k : Nat}, Fr (fun _ => False) w w' → PkM.parseE sha1D L = .error k → RParseR L w (.tuple #[.slice none 0 0, .string ⟨#[]⟩, .int .i64 (k : Nat)]) w' := fun hf he => ⟨hf, by rw [he]⟩
  have hE := PkM.parseE.eq_1 sha1D L
  refine ⟨fun h => bad (k := 6) (.refl _ _) (by rw [hE, if_pos (by have := of_decide_eq_true h; omega)]), fun h w1 d1 => ?_⟩
  have h1072 : 1072 ≤ L.length := by have := of_decide_eq_false h; omega
  rw [if_neg (by omega)] at hE
  refine ⟨fun _ => True, trivial, ⟨by decide, by omega⟩, fun w3 h3 => ⟨trivial, w3, ⟨#[255, 116, 79, 99, 0, 0, 0, 2]⟩, ?_, trivial, ?_⟩⟩
  · rw [h3]
    exact bytes_str (e := T_uint8) (bs := [255, 116, 79, 99, 0, 0, 0, 2]) (by kernel_rfl) (by kernel_rfl) (by kernel_rfl) 8 (fun i v hv => ⟨_, rfl, by rw [add_lit, cell_blk (alloc_new _ _), Nat.zero_add, ← Array.getElem?_toList]; exact hv⟩) rfl
  have hf3 : Fr (fun _ => False) w w3 := by rw [h3]; exact (Fr.drew _ d1).trans' (.alloc _ _ _)
  clear h3
  have h8 : (s.extract 0 8).data.toList = L.take 8 := by rw [bs_head, hL]
  have hmg : decide (s.extract 0 8 = ⟨#[255, 116, 79, 99, 0, 0, 0, 2]⟩) = decide (L.take 8 = PkM.magic) := decide_eq_decide.2 ⟨fun e => by rw [← h8, e]; rfl, fun e => bs_ext (by rw [h8, e]; rfl)⟩
  rw [show Int.toNat 8 = 8 from rfl, bs_eq, hmg]
  refine ⟨fun hm => bad (k := 3) hf3 (by rw [hE, if_pos (by simpa using hm)]), fun hm w6 h6 => ?_⟩
  rw [if_neg (by simpa using hm)] at hE
  have hf6 : Fr (fun _ => False) w w6 := by rw [h6]; exact hf3.trans' (.alloc _ _ _)
  have ho6 : Own w6 w.heap.size T_uint64 ⟨some ⟨w3.heap.size, 0, none⟩, 0, 0⟩ (fanV L 0) := by rw [h6]; exact (own_lit w3 T_uint64).mono hf3.size
  clear h6
  refine ⟨fun l n w' => ∃ k : Nat, n = k ∧ k ≤ 256 ∧ Own w' w.heap.size T_uint64 l (fanV L k) ∧ (∀ j, j + 1 < k → ¬ PkM.fan L (j + 1) < PkM.fan L j) ∧ Fr (fun _ => False) w w', fun _ n _ => 256 - n.toNat,
    ⟨0, rfl, Nat.zero_le _, ho6, fun j hj => by omega, hf6⟩, ?_⟩
  clear ho6
  rintro l9 n w11 ⟨k, rfl, hk, ho11, hmon, hf11⟩
  have hl9 : l9.len = k := by rw [ho11.len, fanV_len]
  have e1 : IntKind.i64.wrap ((k : Int) + 1) = ((k + 1 : Nat) : Int) := by rw [wrap_i64 (by omega) (by omega)]; omega
  refine ⟨fun hlt => ?_, fun hge => ?_⟩
  · have hlt := of_decide_eq_true hlt
    have a1 : IntKind.i64.wrap (8 + IntKind.i64.wrap (4 * (k : Int))) = ((8 + 4 * k : Nat) : Int) := by rw [wrap_i64 (x := 4 * (k : Int)) (by omega) (by omega), wrap_i64 (by omega) (by omega)]; omega
    have a2 : IntKind.i64.wrap (12 + IntKind.i64.wrap (4 * (k : Int))) = ((8 + 4 * k + 4 : Nat) : Int) := by rw [wrap_i64 (x := 4 * (k : Int)) (by omega) (by omega), wrap_i64 (by omega) (by omega)]; omega
    rw [a1, a2, e1, Int.toNat_natCast, Int.toNat_natCast]
    refine ⟨⟨by omega, by omega, by omega⟩, (rnum_spec _ (by rw [ByteArray.size_extract]; omega) w11).mono ?_⟩
    rintro e w13 ⟨rfl, hw⟩
    replace hw := hw.symm
    subst hw
    rw [ex]
    have hv : num8 (PkM.sl L (8 + 4 * k) 4) = PkM.fan L k := rfl
    rw [hv]
    have next : ¬ (0 < k ∧ PkM.fan L k < PkM.fan L (k - 1)) → ∀ w17, w17 = w11.alloc (.cells #[.int .u64 (PkM.fan L k : Nat)] T_uint64) → ∃ w18 l19, (Builtin.append_ #[T_S_uint64, T_S_uint64] T_S_uint64 #[.slice l9.a l9.len l9.cap, .slice (some ⟨w11.heap.size, 0, none⟩) 1 1]).run Try.prog w17 = .ok (.slice l19.a l19.len l19.cap) w18 ∧
        ((∃ j : Nat, ((k + 1 : Nat) : Int) = j ∧ j ≤ 256 ∧ Own w18 w.heap.size T_uint64 l19 (fanV L j) ∧ (∀ i, i + 1 < j → ¬ PkM.fan L (i + 1) < PkM.fan L i) ∧ Fr (fun _ => False) w w18) ∧ 256 - ((k + 1 : Nat) : Int).toNat < 256 - ((k : Nat) : Int).toNat) := fun hno w17 h17 => by
      obtain ⟨w18, l19, hr, ho18, hf18⟩ := append_one elU64 ho11 (v := .int .u64 (PkM.fan L k : Nat)) rfl (by rw [fanV_len]; simp only [maxLen]; omega) (by rw [fanV_len]; omega) hf11.size h17
      rw [← fanV_succ] at ho18
      refine ⟨w18, l19, hr, ⟨k + 1, rfl, by omega, ho18, fun i hi => ?_, hf11.trans hf18 fun q hq ⟨y, hy, e⟩ => by have := (ho11.blk hy).1; omega⟩, by omega⟩
      by_cases hik : i + 1 < k
      · exact hmon i hik
      · have hi' : i + 1 = k := by omega
        subst hi'
        exact fun h => hno ⟨by omega, h⟩
    refine ⟨_, rfl, fun h0 => ?_, fun h0 => next fun h => by have := of_decide_eq_false h0; omega⟩
    have h0 : 0 < k := by have := of_decide_eq_true h0; omega
    have e2 : IntKind.i64.wrap ((k : Int) - 1) = ((k - 1 : Nat) : Int) := by rw [wrap_i64 (by omega) (by omega)]; omega
    rw [e2, Int.toNat_natCast]
    obtain ⟨ad, had, hcl⟩ := fan_read ho11.reads (i := k - 1) (by omega)
    refine ⟨⟨by omega, by omega⟩, ad, had, _, hcl, fun h => bad (k := 3) hf11 ?_, fun h => next fun hh => by have := of_decide_eq_false h; omega⟩
    have := of_decide_eq_true h
    rw [hE, if_pos ⟨k - 1, by omega, by rw [show k - 1 + 1 = k by omega]; omega⟩]
  · have hge := of_decide_eq_false hge
    have hk' : k = 256 := by omega
    subst hk'
    clear e1
    have hnm : ¬ ∃ i, i < 255 ∧ PkM.fan L (i + 1) < PkM.fan L i := fun ⟨i, hi, h⟩ => hmon i (by omega) h
    rw [if_neg hnm] at hE
    clear hmon hnm
    obtain ⟨ad9, had9, hc9⟩ := fan_read ho11.reads (i := 255) (by omega)
    rw [show Int.toNat 255 = 255 from rfl]
    have hfanR : ∀ {w' : World}, Fr (fun _ => False) w11 w' → Reads w' l9.a (fanV L 256) := fun h => ho11.reads.keep h (by simp)
    generalize hn : PkM.fan L 255 = n at hE hc9
    refine ⟨⟨by decide, by omega⟩, ad9, had9, _, hc9, fun h => bad (k := 2) hf11 (by rw [hE, if_pos (by have := of_decide_eq_true h; omega)]), fun h => ⟨⟨by decide, by omega⟩, ad9, had9, _, hc9, ?_⟩⟩
    have h1000 : n ≤ 1000 := by have := of_decide_eq_false h; omega
    rw [if_neg (by omega)] at hE
    have f0 : IntKind.i64.wrap (n : Int) = (n : Int) := wrap_i64 (by omega) (by omega)
    have f20 : IntKind.i64.wrap (1032 + IntKind.i64.wrap (20 * (n : Int))) = ((1032 + 20 * n : Nat) : Int) := by rw [wrap_i64 (x := 20 * (n : Int)) (by omega) (by omega), wrap_i64 (by omega) (by omega)]; omega
    have f24 : IntKind.i64.wrap (1032 + IntKind.i64.wrap (24 * (n : Int))) = ((1032 + 24 * n : Nat) : Int) := by rw [wrap_i64 (x := 24 * (n : Int)) (by omega) (by omega), wrap_i64 (by omega) (by omega)]; omega
    have f28 : IntKind.i64.wrap (1032 + IntKind.i64.wrap (28 * (n : Int))) = ((1032 + 28 * n : Nat) : Int) := by rw [wrap_i64 (x := 28 * (n : Int)) (by omega) (by omega), wrap_i64 (by omega) (by omega)]; omega
    have f2 : IntKind.i64.wrap (1072 + IntKind.i64.wrap (28 * (n : Int))) = ((1072 + 28 * n : Nat) : Int) := by rw [wrap_i64 (x := 28 * (n : Int)) (by omega) (by omega), wrap_i64 (by omega) (by omega)]; omega
    have f3 : IntKind.i64.wrap ((s.size : Int) - 40) = ((s.size - 40 : Nat) : Int) := by rw [wrap_i64 (by omega) (by omega)]; omega
    have f4 : IntKind.i64.wrap ((s.size : Int) - 20) = ((s.size - 20 : Nat) : Int) := by rw [wrap_i64 (by omega) (by omega)]; omega
    rw [f0, f20, f24, f28, f2, f3, f4]
    repeat rw [Int.toNat_natCast]
    rw [show Int.toNat 1032 = 1032 from rfl]
    refine ⟨fun h => bad (k := 6) hf11 (by rw [hE, if_pos (by have := of_decide_eq_true h; omega)]), fun h => ⟨by decide, ?_⟩⟩
    have hLn : 1072 + 28 * n ≤ L.length := by have := of_decide_eq_false h; omega
    rw [if_neg (by omega)] at hE
    have hmod : Int.tmod (IntKind.i64.wrap (IntKind.i64.wrap ((s.size : Int) - 1072) - IntKind.i64.wrap (28 * (n : Int)))) 8 = (((L.length - (1072 + 28 * n)) % 8 : Nat) : Int) := by
      rw [wrap_i64 (x := (s.size : Int) - 1072) (by omega) (by omega), wrap_i64 (x := 28 * (n : Int)) (by omega) (by omega), wrap_i64 (by omega) (by omega), Int.tmod_eq_emod_of_nonneg (by omega)]; omega
    rw [hmod]
    refine ⟨fun h => bad (k := 3) hf11 (by rw [hE, if_pos (by intro e; rw [e] at h; simp at h)]), fun h => ?_⟩
    have hm8 : (L.length - (1072 + 28 * n)) % 8 = 0 := by
      have : (((L.length - (1072 + 28 * n)) % 8 : Nat) : Int) = 0 := by simpa using h
      omega
    rw [if_neg (fun h => h hm8)] at hE
    clear hmod
    have hfs : (s.extract (1032 + 28 * n) (s.size - 40)).size = L.length - (1072 + 28 * n) := by rw [ByteArray.size_extract]; omega
    have hfl : (s.extract (1032 + 28 * n) (s.size - 40)).data.toList = PkM.farL L n := by
      rw [bs_extract, hL]
      unfold PkM.farL PkM.sl
      rw [hsz]
    have exf : ∀ i m, ((s.extract (1032 + 28 * n) (s.size - 40)).extract i (i + m)).data.toList = PkM.sl (PkM.farL L n) i m := fun i m => by rw [sl_extract, hfl]
    have hfll : (PkM.farL L n).length = L.length - (1072 + 28 * n) := by rw [← hfl, bs_len, hfs]
    have hdiv : IntKind.i64.wrap (Int.tdiv ((L.length - (1072 + 28 * n) : Nat) : Int) 8) = (((L.length - (1072 + 28 * n)) / 8 : Nat) : Int) := by
      rw [Int.tdiv_eq_ediv_of_nonneg (Int.natCast_nonneg _), wrap_i64 (by omega) (by omega)]; omega
    have exn : ∀ i m, 1032 + i + m ≤ 1032 + 20 * n → ((s.extract 1032 (1032 + 20 * n)).extract i (i + m)).data.toList = PkM.sl L (1032 + i) m := fun i m h => by rw [sl_sub s _ _ _ _ h, hL]
    have exc : ∀ i m, 1032 + 20 * n + i + m ≤ 1032 + 24 * n → ((s.extract (1032 + 20 * n) (1032 + 24 * n)).extract i (i + m)).data.toList = PkM.sl L (1032 + 20 * n + i) m := fun i m h => by rw [sl_sub s _ _ _ _ h, hL]
    have exe : ∀ i m, 1032 + 24 * n + i + m ≤ 1032 + 28 * n → ((s.extract (1032 + 24 * n) (1032 + 28 * n)).extract i (i + m)).data.toList = PkM.sl L (1032 + 24 * n + i) m := fun i m h => by rw [sl_sub s _ _ _ _ h, hL]
    have hns : (s.extract 1032 (1032 + 20 * n)).size = 20 * n := by rw [ByteArray.size_extract]; omega
    have hcs : (s.extract (1032 + 20 * n) (1032 + 24 * n)).size = 4 * n := by rw [ByteArray.size_extract]; omega
    have hes : (s.extract (1032 + 24 * n) (1032 + 28 * n)).size = 4 * n := by rw [ByteArray.size_extract]; omega
    generalize s.extract (1032 + 28 * n) (s.size - 40) = far at exf hfs ⊢
    generalize s.extract 1032 (1032 + 20 * n) = names at exn hns ⊢
    generalize s.extract (1032 + 20 * n) (1032 + 24 * n) = crcs at exc hcs ⊢
    generalize s.extract (1032 + 24 * n) (1032 + 28 * n) = near at exe hes ⊢
    refine ⟨⟨by omega, by omega, by omega⟩, ⟨by omega, by omega, by omega⟩, ⟨by omega, by omega, by omega⟩, fun w27 d27 => ⟨⟨by omega, by omega, by omega⟩, fun w28 h28 => ?_⟩⟩
    have hf27 := hf11.trans' (.drew _ d27)
    have ho28 : OwnK encP 3 w28 w11.heap.size T_cartularyref12_Row ⟨some ⟨w27.heap.size, 0, none⟩, 0, 0⟩ [] := by rw [h28]; exact (OwnK.empty w27 _).mono (Fr.drew (fun _ => False) d27).size
    have hf28' : Fr (fun _ => False) w11 w28 := by rw [h28]; exact (Fr.drew _ d27).trans' (.alloc _ _ _)
    clear h28 d27 hf27
    refine ⟨fun l i w' => ∃ (j : Nat) (done : List PkM.Rw), i = j ∧ j ≤ n ∧ OwnK encP 3 w' w11.heap.size T_cartularyref12_Row l (done.map ofRaw) ∧ done.length = j ∧
        (PkM.rowsE L n 0 n = match PkM.rowsE L n j (n - j) with | .error e => .error e | .ok rs => .ok (done ++ rs)) ∧ Fr (fun _ => False) w11 w', fun _ i _ => n - i.toNat,
      ⟨0, [], rfl, Nat.zero_le _, ho28, rfl, ?_, hf28'⟩, ?_⟩
    · rw [Nat.sub_zero]
      cases PkM.rowsE L n 0 n <;> rfl
    clear ho28 hf28'
    rintro l31 i w33 ⟨j, done, rfl, hj, ho33, hdl, hrw, hf33⟩
    have hdm : (done.map ofRaw).length = j := by rw [List.length_map]; exact hdl
    refine ⟨fun hlt => ?_, fun hge w62 d62 => ?_⟩
    · have hlt := of_decide_eq_true hlt
      have hjn : j < n := by omega
      have b1 : IntKind.i64.wrap (20 * (j : Int)) = ((20 * j : Nat) : Int) := by rw [wrap_i64 (by omega) (by omega)]; omega
      have b2 : IntKind.i64.wrap (((20 * j : Nat) : Int) + 20) = ((20 * j + 20 : Nat) : Int) := by rw [wrap_i64 (by omega) (by omega)]; omega
      have b4 : IntKind.i64.wrap (4 * (j : Int)) = ((4 * j : Nat) : Int) := by rw [wrap_i64 (by omega) (by omega)]; omega
      have b5 : IntKind.i64.wrap (((4 * j : Nat) : Int) + 4) = ((4 * j + 4 : Nat) : Int) := by rw [wrap_i64 (by omega) (by omega)]; omega
      have b8 : IntKind.i64.wrap ((j : Int) + 1) = ((j + 1 : Nat) : Int) := by rw [wrap_i64 (by omega) (by omega)]; omega
      have b9 : IntKind.u64.wrap (j : Int) = (j : Int) := wrap_u64 (by omega) (by omega)
      rw [b1, b2, b4, b5, b8, b9]
      repeat rw [Int.toNat_natCast]
      have hraw : (names.extract (20 * j) (20 * j + 20)).data.toList = PkM.sl L (1032 + 20 * j) 20 := exn _ _ (by omega)
      have hraws : (names.extract (20 * j) (20 * j + 20)).size = 20 := by rw [ByteArray.size_extract]; omega
      have hh0 : IntKind.i64.wrap (byteAt (names.extract (20 * j) (20 * j + 20)) 0) = ((PkM.hd0 (PkM.sl L (1032 + 20 * j) 20) : Nat) : Int) := by
        have := byt_lt (names.extract (20 * j) (20 * j + 20)) 0
        rw [show (0 : Int) = ((0 : Nat) : Int) from rfl, byteAt_nat, wrap_i64 (by omega) (by omega), hd0_byt, hraw]
      rw [hh0, Int.toNat_natCast]
      have hc : PkM.hd0 (PkM.sl L (1032 + 20 * j) 20) < 256 := UInt8.toNat_lt _
      obtain ⟨R, hR⟩ : ∃ R, PkM.rowsE L n j (n - j) = R := ⟨_, rfl⟩
      have hR' := hR
      rw [show n - j = (n - j - 1) + 1 by omega, PkM.rowsE] at hR'
      have hst := PkM.stepE.eq_1 L n j
      have stop : ∀ {w' : World} {e : Nat}, Fr (fun _ => False) w w' → PkM.stepE L n j = .error e → RParseR L w (.tuple #[.slice none 0 0, .string ⟨#[]⟩, .int .i64 (e : Nat)]) w' := fun hf he => bad hf (by
        rw [he] at hR'
        dsimp only at hR'
        rw [hE, hrw, hR, ← hR'])
      have hF33 := hf11.trans' hf33
      generalize hraw0 : PkM.sl L (1032 + 20 * j) 20 = raw at hraw hc hst hh0 ⊢
      generalize hcc : PkM.hd0 raw = c at hc hst ⊢
      have hfr := hfanR hf33
      refine ⟨⟨by omega, by omega, by omega⟩, fun w' => w' = w33 ∧ ¬ (0 < j ∧ ¬ PkM.sl L (1032 + 20 * j - 20) 20 < raw), ⟨fun h0 => ?_, fun h0 => ⟨rfl, fun hh => by have := of_decide_eq_false h0; omega⟩⟩, ?_⟩
      · have h0 : 0 < j := by have := of_decide_eq_true h0; omega
        have b3 : IntKind.i64.wrap (((20 * j : Nat) : Int) - 20) = ((20 * j - 20 : Nat) : Int) := by rw [wrap_i64 (by omega) (by omega)]; omega
        have hprev : (names.extract (20 * j - 20) (20 * j)).data.toList = PkM.sl L (1032 + 20 * j - 20) 20 := by
          have := exn (20 * j - 20) 20 (by omega)
          rwa [show 20 * j - 20 + 20 = 20 * j by omega, show 1032 + (20 * j - 20) = 1032 + 20 * j - 20 by omega] at this
        rw [b3, Int.toNat_natCast]
        refine ⟨⟨by omega, by omega, by omega⟩, fun hl => stop hF33 ?_, fun hl => ⟨rfl, ?_⟩⟩
        · rw [ByteArray.toList_eq, ByteArray.toList_eq, Proofs.bytesLess_eq, hprev, hraw] at hl
          have hl' : ¬ PkM.sl L (1032 + 20 * j - 20) 20 < raw := by simpa using hl
          rw [hst, if_pos ⟨h0, hl'⟩]
        · rw [ByteArray.toList_eq, ByteArray.toList_eq, Proofs.bytesLess_eq, hprev, hraw] at hl
          have hl' : PkM.sl L (1032 + 20 * j - 20) 20 < raw := by simpa using hl
          exact fun hh => hh.2 hl'
      rintro w35 ⟨hw, ok1⟩
      replace hw := hw.symm
      subst hw
      rw [if_neg ok1] at hst
      have hfb1 : PkM.fanB L (c + 1) = PkM.fan L c := by unfold PkM.fanB; rw [if_neg (by omega)]; rfl
      obtain ⟨adc, hadc, hcc1⟩ := fan_read hfr (i := c) hc
      refine ⟨⟨by decide, by omega⟩, fun w' => w' = w33 ∧ ¬ j < PkM.fanB L c ∧ ¬ PkM.fanB L (c + 1) ≤ j, ⟨⟨by omega, by omega⟩, adc, hadc, _, hcc1, fun h => stop hF33 ?_, fun h => ⟨fun h0 => ?_, fun h0 => ⟨rfl, ?_, ?_⟩⟩⟩, ?_⟩
      · have h := of_decide_eq_true h
        rw [hst]
        by_cases hlo : j < PkM.fanB L c
        · rw [if_pos hlo]
        · rw [if_neg hlo, if_pos (by omega)]
      · have h0 := of_decide_eq_true h0
        have g1 : IntKind.i64.wrap ((c : Int) - 1) = ((c - 1 : Nat) : Int) := by rw [wrap_i64 (by omega) (by omega)]; omega
        have hfb : PkM.fanB L c = PkM.fan L (c - 1) := by unfold PkM.fanB; rw [if_neg (by omega)]
        obtain ⟨add, hadd, hcc2⟩ := fan_read hfr (i := c - 1) (by omega)
        rw [g1, Int.toNat_natCast]
        refine ⟨⟨by omega, by omega⟩, add, hadd, _, hcc2, fun h2 => stop hF33 ?_, fun h2 => ⟨rfl, ?_, ?_⟩⟩
        · have h2 := of_decide_eq_true h2
          rw [hst, if_pos (by omega)]
        · have h2 := of_decide_eq_false h2
          omega
        · have h := of_decide_eq_false h
          omega
      · have h0 := of_decide_eq_false h0
        have hfb : PkM.fanB L c = 0 := by unfold PkM.fanB; rw [if_pos (by omega)]
        omega
      · have h := of_decide_eq_false h
        omega
      rintro w41 ⟨hw, ok2, ok3⟩
      replace hw := hw.symm
      subst hw
      rw [if_neg ok2, if_neg ok3] at hst
      refine ⟨⟨by omega, by omega, by omega⟩, (rnum_spec _ (by rw [ByteArray.size_extract]; omega) w33).mono ?_⟩
      rintro e w43 ⟨rfl, hw⟩
      replace hw := hw.symm
      subst hw
      rw [exe _ _ (by omega)]
      have hvl : num8 (PkM.sl L (1032 + 24 * n + 4 * j) 4) < 4294967296 := num8_lt 4 _ (PkM.sl_len (by omega))
      generalize num8 (PkM.sl L (1032 + 24 * n + 4 * j) 4) = v at hvl hst ⊢
      have hpl := PkM.placeE.eq_1 (PkM.farL L n) v
      rw [hfll] at hpl
      refine ⟨_, rfl, fun q w' => ∃ a : Nat, q = a ∧ a < 18446744073709551616 ∧ PkM.placeE (PkM.farL L n) v = .ok a ∧ w' = w33, ⟨fun h => ⟨by decide, ?_⟩, fun h => ⟨v, rfl, by omega, by rw [hpl, if_pos (by have := of_decide_eq_false h; omega)], rfl⟩⟩, ?_⟩
      · have h := of_decide_eq_true h
        have q1 : IntKind.i64.wrap (IntKind.u64.wrap ((v : Int) - 2147483648)) = ((v - 2147483648 : Nat) : Int) := by rw [wrap_u64 (by omega) (by omega), wrap_i64 (by omega) (by omega)]; omega
        rw [if_neg (by omega)] at hpl
        obtain ⟨u, hu⟩ : ∃ u, v - 2147483648 = u := ⟨_, rfl⟩
        rw [hu] at q1 hpl
        rw [q1, hfs, hdiv]
        clear q1
        refine ⟨fun h2 => stop hF33 (by rw [hst, hpl, if_pos (by have := of_decide_eq_true h2; omega)]), fun h2 => ?_⟩
        have h2 := of_decide_eq_false h2
        have hk2 : u < (L.length - (1072 + 28 * n)) / 8 := by omega
        rw [if_neg (by omega)] at hpl
        have q2 : IntKind.i64.wrap (8 * ((u : Nat) : Int)) = ((8 * u : Nat) : Int) := by rw [wrap_i64 (by omega) (by omega)]; omega
        have q3 : IntKind.i64.wrap (((8 * u : Nat) : Int) + 8) = ((8 * u + 8 : Nat) : Int) := by rw [wrap_i64 (by omega) (by omega)]; omega
        rw [q2, q3, Int.toNat_natCast, Int.toNat_natCast]
        refine ⟨⟨by omega, by omega, by omega⟩, (rnum_spec _ (by rw [ByteArray.size_extract]; omega) w33).mono ?_⟩
        rintro e w47 ⟨rfl, hw⟩
        replace hw := hw.symm
        subst hw
        rw [exf]
        have h64 := num8_lt 8 _ (PkM.sl_len (L := PkM.farL L n) (i := 8 * u) (n := 8) (by omega))
        rw [show (256 : Nat) ^ 8 = 18446744073709551616 by decide] at h64
        exact ⟨_, rfl, _, rfl, h64, hpl, rfl⟩
      rintro q w50 ⟨a, rfl, hal, hpla, hw⟩
      replace hw := hw.symm
      subst hw
      rw [hpla] at hst
      dsimp only at hst
      refine ⟨fun h => stop hF33 (by rw [hst, if_pos (by have := of_decide_eq_true h; omega)]), fun h w51 d51 => ?_⟩
      have ha : a ≤ 1099511627776 := by have := of_decide_eq_false h; omega
      rw [if_neg (by omega)] at hst
      refine ⟨fun _ => True, trivial, ⟨by omega, by omega, by omega⟩, (rhex_spec (names.extract (20 * j) (20 * j + 20)) (by omega) w51).mono ?_⟩
      rintro e w54 ⟨rfl, d54⟩
      rw [hraw]
      have d54' := d51.trans d54
      have hf54 : Fr (fun _ => False) w33 w54 := .drew _ d54'
      have ho54 := ho33.drew d54'
      have hF54 := hf33.trans' hf54
      refine ⟨_, rfl, trivial, (rnum_spec _ (by rw [ByteArray.size_extract]; omega) w54).mono ?_⟩
      rintro e w57 ⟨rfl, hw⟩
      replace hw := hw.symm
      subst hw
      rw [exc _ _ (by omega)]
      have hcl : num8 (PkM.sl L (1032 + 20 * n + 4 * j) 4) < 4294967296 := num8_lt 4 _ (PkM.sl_len (by omega))
      generalize num8 (PkM.sl L (1032 + 20 * n + 4 * j) 4) = crc at hcl hst ⊢
      refine ⟨_, rfl, trivial, fun w59 h59 => ⟨trivial, ?_⟩⟩
      have q4 : IntKind.i64.wrap (a : Int) = (a : Int) := wrap_i64 (by omega) (by omega)
      have q5 : IntKind.u32.wrap (crc : Int) = (crc : Int) := wrap_u32 (by omega) (by omega)
      rw [q4, q5] at h59
      have hbase : w11.heap.size ≤ w54.heap.size := hF54.size
      obtain ⟨w60, l61, hr60, ho60, hf60, _⟩ := append_oneK elRP ho54 (x := ofRaw (raw, a, crc)) (by rw [hdm]; simp only [maxLen]; omega) (by rw [hdm]; omega) hbase h59
      refine ⟨w60, l61, hr60, trivial, ⟨j + 1, done ++ [(raw, a, crc)], rfl, by omega, by rw [List.map_append]; exact ho60, by rw [List.length_append, hdl]; rfl, ?_, ?_⟩, by dsimp only; omega⟩
      · rw [hst] at hR'
        dsimp only at hR'
        rw [hrw, hR, ← hR', show n - (j + 1) = n - j - 1 by omega]
        cases PkM.rowsE L n (j + 1) (n - j - 1) with
        | error e => rfl
        | ok rs => simp
      · exact hF54.trans hf60 fun q hq ⟨y, hy, e⟩ => by have := (ho54.blk hy).1; omega
    · have hge := of_decide_eq_false hge
      have hjn : j = n := by omega
      subst hjn
      have hrw' : PkM.rowsE L j 0 j = .ok done := by
        rw [hrw, Nat.sub_self, PkM.rowsE]
        simp
      rw [hrw'] at hE
      dsimp only at hE
      have hF62 := (hf11.trans' hf33).trans' (.drew _ d62)
      have ho62 := ho33.drew d62
      refine ⟨fun _ => True, trivial, ⟨by omega, by omega⟩, ⟨by omega, by omega⟩, (rsum1_spec _ (by rw [ByteArray.size_extract]; omega) w62).mono ?_⟩
      rintro e w65 ⟨rfl, hf65⟩
      have hF65 := hF62.trans' hf65
      have hhead : (s.extract 0 (s.size - 20)).data.toList = L.take (L.length - 20) := by rw [bs_head, hL, hsz]
      have htail : (s.extract (s.size - 20) s.size).data.toList = L.drop (L.length - 20) := by rw [bs_tail, hL, hsz]
      rw [hhead]
      have hdec : decide ((⟨(digest block1 start1 (L.take (L.length - 20))).toArray⟩ : ByteArray) = s.extract (s.size - 20) s.size) = decide (sha1D (L.take (L.length - 20)) = L.drop (L.length - 20)) := decide_eq_decide.2 ⟨fun e => by
          have := congrArg (fun x : ByteArray => x.data.toList) e
          dsimp only at this
          rw [← htail]; exact this, fun e => bs_ext (by rw [bs_mk, htail]; exact e)⟩
      refine ⟨_, rfl, trivial, ?_⟩
      rw [bs_eq, hdec]
      refine ⟨fun h => bad (k := 5) hF65 (by rw [hE, if_pos (by simpa using h)]), fun h => ⟨⟨by omega, by omega, by omega⟩, (rhex_spec _ (by rw [ByteArray.size_extract]; omega) w65).mono ?_⟩⟩
      rw [if_neg (by simpa using h)] at hE
      rintro e w68 ⟨rfl, d68⟩
      have hsum : (s.extract (s.size - 40) (s.size - 20)).data.toList = PkM.sl L (L.length - 40) 20 := by
        have h1 := ex (s.size - 40) 20
        have h2 : s.size - 40 + 20 = s.size - 20 := by omega
        rw [h2] at h1
        rw [h1, hsz]
      rw [hsum]
      refine ⟨_, rfl, hF65.trans' (.drew _ d68), ?_⟩
      rw [hE]
      exact ⟨l31, rfl, ((ho62.keep hf65 (by simp)).drew d68).mono hf11.size⟩
end Go.Proofs.Ytoagdpjickippaa

/- Structures of the kit over its shelf, at this seat (written by a program of the author's, laysn.py). No condition. -/
namespace Go.Proofs.Ytoagdpjickippaa
open Go Go.Shelf Go.Proofs
def lays106_ren : Go.Shelf.Ren := ⟨fun | 106 => 20 | 213 => 44 | 265 => 66 | n => n, fun | 3 => 3 | 9 => 9 | n => n, fun  | n => n⟩
theorem lays106 : Go.Proofs.Lays.n106 Try.prog lays106_ren := {
  mixed := by kernel_rfl,
  f106 := Try.func20.trans (congrArg some (by kernel_rfl)),
  f213 := Try.func44.trans (congrArg some (by kernel_rfl)),
  f265 := Try.func66.trans (congrArg some (by kernel_rfl)),
  t3 := Try.underlying3,
  a3 := Try.isAgg3,
  z3 := Try.sizeOf3,
  v3 := Try.zeroValue3,
  t9 := Try.underlying9,
  a9 := Try.isAgg9,
  z9 := Try.sizeOf9,
  v9 := Try.zeroValue9 }
end Go.Proofs.Ytoagdpjickippaa

/- strings.Compare. No condition. -/
set_option linter.unusedVariables false
namespace Go.Proofs.Ytoagdpjickippaa
open Go Vc Go.Proofs Go.Lib

theorem compare_spec (a b : ByteArray) (w : World) : Calls Try.prog F_strings_Compare #[.string a, .string b] w fun e w' => e = .returned (.int .i64 (Lib.compareBytes a.data.toList b.data.toList)) ∧ w' = w := Any.strings_Compare lays106 a b w
end Go.Proofs.Ytoagdpjickippaa

/- Beginnings of texts in plain. No condition. -/
set_option linter.unusedVariables false
namespace Go.Proofs.Ytoagdpjickippaa
open Go Vc Go.Proofs

/-- Does s begin with t? -/
def begB (s t : ByteArray) : Bool := decide (t.data.toList <+: s.data.toList)
theorem begB_cut {s t : ByteArray} (h : t.size ≤ s.size) : (ByteArray.toList (s.extract 0 t.size) == ByteArray.toList t) = begB s t := by
  rw [bs_eq]
  unfold begB
  refine decide_eq_decide.2 ⟨fun e => ?_, fun e => ?_⟩
  · rw [← e, bs_head]; exact List.take_prefix _ _
  · obtain ⟨r, hr⟩ := e
    refine bs_ext ?_
    rw [bs_head, ← hr, ← bs_len, List.take_left]
theorem begB_short {s t : ByteArray} (h : ¬ t.size ≤ s.size) : begB s t = false := decide_eq_false fun e => h (by rw [← bs_len, ← bs_len]; exact e.length_le)
theorem beg_le {s t : ByteArray} (h : begB s t = true) : t.size ≤ s.size := by
  have := (of_decide_eq_true h : t.data.toList <+: s.data.toList).length_le
  rw [bs_len, bs_len] at this; exact this
theorem pre_between : ∀ (a b c : List UInt8), ¬ b < a → ¬ c < b → a <+: c → a <+: b
  | [], b, c, _, _, _ => List.nil_prefix
  | x :: a, [], c, h, _, _ => absurd (List.nil_lt_cons x a) h
  | x :: a, y :: b, [], _, _, h => by simp at h
  | x :: a, y :: b, z :: c, h1, h2, h3 => by
    rw [List.cons_prefix_cons] at h3 ⊢
    obtain ⟨rfl, h3⟩ := h3
    rw [List.cons_lt_cons_iff] at h1 h2
    have e1 : ¬ y < x := fun h => h1 (.inl h)
    have e2 : ¬ x < y := fun h => h2 (.inl h)
    have e : x = y := UInt8.toNat_inj.1 (by rw [UInt8.lt_iff_toNat_lt] at e1 e2; omega)
    subst e
    exact ⟨rfl, pre_between a b c (fun h => h1 (.inr ⟨rfl, h⟩)) (fun h => h2 (.inr ⟨rfl, h⟩)) h3⟩
theorem pre_le : ∀ (a c : List UInt8), a <+: c → ¬ c < a
  | [], c, _ => by simp
  | x :: a, [], h => by simp at h
  | x :: a, z :: c, h => by
    rw [List.cons_prefix_cons] at h
    obtain ⟨rfl, h⟩ := h
    rw [List.cons_lt_cons_iff]
    rintro (h1 | ⟨_, h1⟩)
    · rw [UInt8.lt_iff_toNat_lt] at h1; omega
    · exact pre_le a c h h1
theorem filter_mid {α : Type} (f : α → Bool) (xs : List α) {i m : Nat} (him : i ≤ m) (h1 : ∀ k x, xs[k]? = some x → k < i → f x = false) (h2 : ∀ k x, xs[k]? = some x → i ≤ k → k < m → f x = true) (h3 : ∀ k x, xs[k]? = some x → m ≤ k → f x = false) : xs.filter f = (xs.take m).drop i := by
  have hx : xs = (xs.take m).take i ++ (xs.take m).drop i ++ xs.drop m := by rw [List.take_append_drop, List.take_append_drop]
  have e1 : ((xs.take m).take i).filter f = [] := by
    rw [List.filter_eq_nil_iff]
    intro x hx
    obtain ⟨k, hk⟩ := List.mem_iff_getElem?.1 hx
    rw [List.getElem?_take] at hk
    split at hk
    · rename_i hki
      rw [List.getElem?_take, if_pos (by omega)] at hk
      rw [h1 k x hk hki]; decide
    · cases hk
  have e2 : ((xs.take m).drop i).filter f = (xs.take m).drop i := by
    rw [List.filter_eq_self]
    intro x hx
    obtain ⟨k, hk⟩ := List.mem_iff_getElem?.1 hx
    rw [List.getElem?_drop, List.getElem?_take] at hk
    split at hk
    · rename_i hki
      exact h2 _ x hk (by omega) hki
    · cases hk
  have e3 : (xs.drop m).filter f = [] := by
    rw [List.filter_eq_nil_iff]
    intro x hx
    obtain ⟨k, hk⟩ := List.mem_iff_getElem?.1 hx
    rw [List.getElem?_drop] at hk
    rw [h3 _ x hk (by omega)]; decide
  conv => lhs; rw [hx]
  rw [List.filter_append, List.filter_append, e1, e2, e3, List.nil_append, List.append_nil]
end Go.Proofs.Ytoagdpjickippaa

/- Formulas of 2 Go functions of this seat (written by a program of the author's, vcgen.py), and that each is enough for the call. No condition. -/
set_option linter.unusedVariables false
namespace Go.Proofs.Ytoagdpjickippaa
open Go Vc Go.Proofs
set_option maxRecDepth 100000
/-- strings.HasPrefix -/
def vc_strings_HasPrefix (x0 : ByteArray) (x1 : ByteArray) (w : World) (R : Value → World → Prop) : Prop :=
  Calls Try.prog (48 : Nat) (Array.mk [Value.string x0, Value.string x1]) (w) (fun e1 w2 =>
    ∃ b3 : Bool, (e1 = Ending.returned (Value.bool b3) ∧
     R (Value.bool b3) w2))
theorem vc_strings_HasPrefix_ok {x0 : ByteArray} {x1 : ByteArray} {w : World} {R : Value → World → Prop} {R' : Ending → World → Prop} (h : vc_strings_HasPrefix x0 x1 w R) (hR : ∀ v w', R v w' → R' (.returned v) w') :
    Calls Try.prog 31 #[.string x0, .string x1] w R' :=
  calls_of_body (vs := [(.string x0, false), (.string x1, false)]) (ty := ty) (ann := ⟨[], [], [], []⟩) (c := Try.f31.body.getD .skip) (by kernel_rfl) Try.func31 (by kernel_rfl) (by kernel_rfl) (Eq.mp (by kernel_rfl) h) hR
/-- internal/stringslite.HasPrefix -/
def vc_stringslite_HasPrefix (x0 : ByteArray) (x1 : ByteArray) (w : World) (R : Value → World → Prop) : Prop :=
  (((decide ((↑(ByteArray.size x0) : Int) ≥ (↑(ByteArray.size x1) : Int)) = true →
     ((0 ≤ (↑(ByteArray.size x1) : Int) ∧
       (↑(ByteArray.size x1) : Int) ≤ (↑(ByteArray.size x0) : Int)) ∧
      R (Value.bool (ByteArray.toList (ByteArray.extract x0 0 (Int.toNat (↑(ByteArray.size x1) : Int))) == ByteArray.toList x1)) w))) ∧
   (decide ((↑(ByteArray.size x0) : Int) ≥ (↑(ByteArray.size x1) : Int)) = false →
     R (Value.bool false) w))
theorem vc_stringslite_HasPrefix_ok {x0 : ByteArray} {x1 : ByteArray} {w : World} {R : Value → World → Prop} {R' : Ending → World → Prop} (h : vc_stringslite_HasPrefix x0 x1 w R) (hR : ∀ v w', R v w' → R' (.returned v) w') :
    Calls Try.prog 48 #[.string x0, .string x1] w R' :=
  calls_of_body (vs := [(.string x0, false), (.string x1, false)]) (ty := ty) (ann := ⟨[], [], [], []⟩) (c := Try.f48.body.getD .skip) (by kernel_rfl) Try.func48 (by kernel_rfl) (by kernel_rfl) (Eq.mp (by kernel_rfl) h) hR
end Go.Proofs.Ytoagdpjickippaa

/- strings.HasPrefix. No condition. -/
set_option linter.unusedVariables false
namespace Go.Proofs.Ytoagdpjickippaa
open Go Vc Go.Proofs

theorem hasPrefix_spec (s t : ByteArray) (w : World) : Calls Try.prog F_strings_HasPrefix #[.string s, .string t] w fun e w' => e = .returned (.bool (begB s t)) ∧ w' = w := by
  refine vc_strings_HasPrefix_ok (R := fun v w' => v = .bool (begB s t) ∧ w' = w) ?_ (fun v w' h => ⟨by rw [h.1], h.2⟩)
  refine Calls.mono (R := fun e w' => e = .returned (.bool (begB s t)) ∧ w' = w) (vc_stringslite_HasPrefix_ok (R := fun v w' => v = .bool (begB s t) ∧ w' = w) ?_ (fun v w' h => ⟨by rw [h.1], h.2⟩)) ?_
  · refine ⟨fun h => ⟨⟨by omega, by have := of_decide_eq_true h; omega⟩, ?_, rfl⟩, fun h => ⟨?_, rfl⟩⟩
    · have h := of_decide_eq_true h
      rw [Int.toNat_natCast, begB_cut (by omega)]
    · rw [begB_short (by have := of_decide_eq_false h; omega)]
  · rintro e w2 ⟨rfl, rfl⟩
    exact ⟨_, rfl, rfl, rfl⟩
end Go.Proofs.Ytoagdpjickippaa

/- Formulas of 9 Go functions of this seat (written by a program of the author's, vcgen.py), and that each is enough for the call. No condition. -/
set_option linter.unusedVariables false
namespace Go.Proofs.Ytoagdpjickippaa
open Go Vc Go.Proofs
set_option maxRecDepth 100000
/-- (*packidx.Idx).Find -/
def vc_packidx_Idx_Find (x0 : Nat) (x1 : ByteArray) (w : World) (R : Value → World → Prop) : Prop :=
  ∀ w1 : World,
  (w1 = World.alloc w (Obj.cells (Array.mk [Value.string (ByteArray.mk (Array.mk [])), Value.int IntKind.i64 0, Value.int IntKind.u32 0]) 32) →
    ∃ l2 : Sl, (World.cell? w1 (Addr.mk x0 0 none) = some (Value.slice l2.1 l2.2 l2.3) ∧
     Calls Try.prog (28 : Nat) (Array.mk [Value.slice l2.1 l2.2 l2.3, Value.string x1, Value.func (Fn.func 29) (Array.mk []) (Array.mk [])]) (w1) (fun e3 w4 =>
       ∃ n5 : Int, ∃ b6 : Bool, (e3 = Ending.returned (Value.tuple (Array.mk [Value.int IntKind.i64 n5, Value.bool b6])) ∧
        ((((!b6) = true →
           ∃ w7 : World, (Sem.run Try.prog (storeVar 32 (Addr.mk (Array.size (World.heap w)) 0 none) (Value.agg (Array.mk [Value.string (ByteArray.mk (Array.mk [])), Value.int IntKind.i64 0, Value.int IntKind.u32 0]))) w4 = Result.ok PUnit.unit w7 ∧
            ∃ s8 : ByteArray, ∃ n9 : Int, ∃ n10 : Int, (Sem.run Try.prog (loadVar 32 (Addr.mk (Array.size (World.heap w)) 0 none)) w7 = Result.ok (Value.agg (Array.mk [Value.string s8, Value.int IntKind.i64 n9, Value.int IntKind.u32 n10])) w7 ∧
             R (Value.tuple (Array.mk [Value.agg (Array.mk [Value.string s8, Value.int IntKind.i64 n9, Value.int IntKind.u32 n10]), Value.int IntKind.i64 7])) w7)))) ∧
         ((!b6) = false →
           ∃ l11 : Sl, (World.cell? w4 (Addr.mk x0 0 none) = some (Value.slice l11.1 l11.2 l11.3) ∧
            ((0 ≤ n5 ∧
              n5 < (↑l11.2 : Int)) ∧
             ∃ a12 : Addr, (l11.1 = some a12 ∧
              ∃ s13 : ByteArray, ∃ n14 : Int, ∃ n15 : Int, (Sem.run Try.prog (loadVar 32 (Addr.add a12 (Int.toNat n5 * 3))) w4 = Result.ok (Value.agg (Array.mk [Value.string s13, Value.int IntKind.i64 n14, Value.int IntKind.u32 n15])) w4 ∧
               ∃ w16 : World, (Sem.run Try.prog (storeVar 32 (Addr.mk (Array.size (World.heap w)) 0 none) (Value.agg (Array.mk [Value.string s13, Value.int IntKind.i64 n14, Value.int IntKind.u32 n15]))) w4 = Result.ok PUnit.unit w16 ∧
                ∃ s17 : ByteArray, ∃ n18 : Int, ∃ n19 : Int, (Sem.run Try.prog (loadVar 32 (Addr.mk (Array.size (World.heap w)) 0 none)) w16 = Result.ok (Value.agg (Array.mk [Value.string s17, Value.int IntKind.i64 n18, Value.int IntKind.u32 n19])) w16 ∧
                 R (Value.tuple (Array.mk [Value.agg (Array.mk [Value.string s17, Value.int IntKind.i64 n18, Value.int IntKind.u32 n19]), Value.int IntKind.i64 0])) w16))))))))))))
theorem vc_packidx_Idx_Find_ok {x0 : Nat} {x1 : ByteArray} {w : World} {R : Value → World → Prop} {R' : Ending → World → Prop} (h : vc_packidx_Idx_Find x0 x1 w R) (hR : ∀ v w', R v w' → R' (.returned v) w') :
    Calls Try.prog 9 #[.pointer (some ⟨x0, 0, none⟩), .string x1] w R' :=
  calls_of_body (vs := [(.pointer (some ⟨x0, 0, none⟩), true), (.string x1, false)]) (ty := ty) (ann := ⟨[], [], [], []⟩) (c := Try.f9.body.getD .skip) (by kernel_rfl) Try.func9 (by kernel_rfl) (by kernel_rfl) (Eq.mp (by kernel_rfl) h) hR
/-- (*packidx.Idx).Match -/
def vc_packidx_Idx_Match (x0 : Nat) (x1 : ByteArray) (w : World) (R : Value → World → Prop) : Prop :=
  ∃ l1 : Sl, (World.cell? w (Addr.mk x0 0 none) = some (Value.slice l1.1 l1.2 l1.3) ∧
   Calls Try.prog (28 : Nat) (Array.mk [Value.slice l1.1 l1.2 l1.3, Value.string x1, Value.func (Fn.func 30) (Array.mk []) (Array.mk [])]) (w) (fun e2 w3 =>
     ∃ n4 : Int, ∃ b5 : Bool, (e2 = Ending.returned (Value.tuple (Array.mk [Value.int IntKind.i64 n4, Value.bool b5])) ∧
      ∃ I6 : Sl → Int → World → Prop, ∃ I7 : Sl → Int → World → Nat, (I6 (Sl.mk none 0 0) n4 w3 ∧
       ∀ l8 : Sl,
       ∀ n9 : Int,
       ∀ w10 : World,
       (I6 l8 n9 w10 →
         ∃ l11 : Sl, (World.cell? w10 (Addr.mk x0 0 none) = some (Value.slice l11.1 l11.2 l11.3) ∧
          (((decide (n9 < (↑l11.2 : Int)) = true →
             ∃ l12 : Sl, (World.cell? w10 (Addr.mk x0 0 none) = some (Value.slice l12.1 l12.2 l12.3) ∧
              ((0 ≤ n9 ∧
                n9 < (↑l12.2 : Int)) ∧
               ∃ a13 : Addr, (l12.1 = some a13 ∧
                ∃ s14 : ByteArray, (World.cell? w10 (Addr.add a13 (Int.toNat n9 * 3)) = some (Value.string s14) ∧
                 Calls Try.prog (31 : Nat) (Array.mk [Value.string s14, Value.string x1]) (w10) (fun e15 w16 =>
                   ∃ b17 : Bool, (e15 = Ending.returned (Value.bool b17) ∧
                    (((b17 = true →
                       ∃ l18 : Sl, (World.cell? w16 (Addr.mk x0 0 none) = some (Value.slice l18.1 l18.2 l18.3) ∧
                        ((0 ≤ n9 ∧
                          n9 < (↑l18.2 : Int)) ∧
                         ∃ a19 : Addr, (l18.1 = some a19 ∧
                          ∃ s20 : ByteArray, (World.cell? w16 (Addr.add a19 (Int.toNat n9 * 3)) = some (Value.string s20) ∧
                           ∀ w21 : World,
                           (w21 = World.alloc w16 (Obj.cells (Array.mk [Value.string s20]) 9) →
                             ∃ w22 : World, ∃ l23 : Sl, (Sem.run Try.prog (Builtin.append_ (Array.mk [35, 35]) 35 (Array.mk [Value.slice l8.1 l8.2 l8.3, Value.slice (some (Addr.mk (Array.size (World.heap w16)) 0 none)) 1 1])) w21 = Result.ok (Value.slice l23.1 l23.2 l23.3) w22 ∧
                              (I6 (Sl.mk l23.1 l23.2 l23.3) (IntKind.wrap IntKind.i64 (n9 + 1)) w22 ∧
                               I7 (Sl.mk l23.1 l23.2 l23.3) (IntKind.wrap IntKind.i64 (n9 + 1)) w22 < I7 l8 n9 w10))))))))) ∧
                     (b17 = false →
                       R (Value.slice l8.1 l8.2 l8.3) w16)))))))))) ∧
           (decide (n9 < (↑l11.2 : Int)) = false →
             R (Value.slice l8.1 l8.2 l8.3) w10))))))))
theorem vc_packidx_Idx_Match_ok {x0 : Nat} {x1 : ByteArray} {w : World} {R : Value → World → Prop} {R' : Ending → World → Prop} (h : vc_packidx_Idx_Match x0 x1 w R) (hR : ∀ v w', R v w' → R' (.returned v) w') :
    Calls Try.prog 10 #[.pointer (some ⟨x0, 0, none⟩), .string x1] w R' :=
  calls_of_body (vs := [(.pointer (some ⟨x0, 0, none⟩), true), (.string x1, false)]) (ty := ty) (ann := ⟨[], [(3, [(5, .slice), (6, .int .i64)])], [], []⟩) (c := Try.f10.body.getD .skip) (by kernel_rfl) Try.func10 (by kernel_rfl) (by kernel_rfl) (Eq.mp (by kernel_rfl) h) hR
/-- (*packidx.Idx).Find$1 -/
def vc_packidx_Idx_Find_1 (x0_0 : ByteArray) (x0_1 : Int) (x0_2 : Int) (x1 : ByteArray) (w : World) (R : Value → World → Prop) : Prop :=
  ∀ w1 : World,
  (w1 = World.alloc w (Obj.cells (Array.mk [Value.string x0_0, Value.int IntKind.i64 x0_1, Value.int IntKind.u32 x0_2]) 32) →
    ∃ s2 : ByteArray, (World.cell? w1 (Addr.mk (Array.size (World.heap w)) 0 none) = some (Value.string s2) ∧
     Calls Try.prog (20 : Nat) (Array.mk [Value.string s2, Value.string x1]) (w1) (fun e3 w4 =>
       ∃ n5 : Int, (e3 = Ending.returned (Value.int IntKind.i64 n5) ∧
        R (Value.int IntKind.i64 n5) w4))))
theorem vc_packidx_Idx_Find_1_ok {x0_0 : ByteArray} {x0_1 : Int} {x0_2 : Int} {x1 : ByteArray} {w : World} {R : Value → World → Prop} {R' : Ending → World → Prop} (h : vc_packidx_Idx_Find_1 x0_0 x0_1 x0_2 x1 w R) (hR : ∀ v w', R v w' → R' (.returned v) w') :
    Calls Try.prog 29 #[.agg #[.string x0_0, .int .i64 x0_1, .int .u32 x0_2], .string x1] w R' :=
  calls_of_body (vs := [(.agg #[.string x0_0, .int .i64 x0_1, .int .u32 x0_2], false), (.string x1, false)]) (ty := ty) (ann := ⟨[], [], [], []⟩) (c := Try.f29.body.getD .skip) (by kernel_rfl) Try.func29 (by kernel_rfl) (by kernel_rfl) (Eq.mp (by kernel_rfl) h) hR
/-- (*packidx.Idx).Match$1 -/
def vc_packidx_Idx_Match_1 (x0_0 : ByteArray) (x0_1 : Int) (x0_2 : Int) (x1 : ByteArray) (w : World) (R : Value → World → Prop) : Prop :=
  ∀ w1 : World,
  (w1 = World.alloc w (Obj.cells (Array.mk [Value.string x0_0, Value.int IntKind.i64 x0_1, Value.int IntKind.u32 x0_2]) 32) →
    ∃ s2 : ByteArray, (World.cell? w1 (Addr.mk (Array.size (World.heap w)) 0 none) = some (Value.string s2) ∧
     Calls Try.prog (20 : Nat) (Array.mk [Value.string s2, Value.string x1]) (w1) (fun e3 w4 =>
       ∃ n5 : Int, (e3 = Ending.returned (Value.int IntKind.i64 n5) ∧
        R (Value.int IntKind.i64 n5) w4))))
theorem vc_packidx_Idx_Match_1_ok {x0_0 : ByteArray} {x0_1 : Int} {x0_2 : Int} {x1 : ByteArray} {w : World} {R : Value → World → Prop} {R' : Ending → World → Prop} (h : vc_packidx_Idx_Match_1 x0_0 x0_1 x0_2 x1 w R) (hR : ∀ v w', R v w' → R' (.returned v) w') :
    Calls Try.prog 30 #[.agg #[.string x0_0, .int .i64 x0_1, .int .u32 x0_2], .string x1] w R' :=
  calls_of_body (vs := [(.agg #[.string x0_0, .int .i64 x0_1, .int .u32 x0_2], false), (.string x1, false)]) (ty := ty) (ann := ⟨[], [], [], []⟩) (c := Try.f30.body.getD .skip) (by kernel_rfl) Try.func30 (by kernel_rfl) (by kernel_rfl) (Eq.mp (by kernel_rfl) h) hR
/-- (*packidx.Idx).Len -/
def vc_packidx_Idx_Len (x0 : Nat) (w : World) (R : Value → World → Prop) : Prop :=
  ∃ l1 : Sl, (World.cell? w (Addr.mk x0 0 none) = some (Value.slice l1.1 l1.2 l1.3) ∧
   R (Value.int IntKind.i64 (↑l1.2 : Int)) w)
theorem vc_packidx_Idx_Len_ok {x0 : Nat} {w : World} {R : Value → World → Prop} {R' : Ending → World → Prop} (h : vc_packidx_Idx_Len x0 w R) (hR : ∀ v w', R v w' → R' (.returned v) w') :
    Calls Try.prog 25 #[.pointer (some ⟨x0, 0, none⟩)] w R' :=
  calls_of_body (vs := [(.pointer (some ⟨x0, 0, none⟩), true)]) (ty := ty) (ann := ⟨[], [], [], []⟩) (c := Try.f25.body.getD .skip) (by kernel_rfl) Try.func25 (by kernel_rfl) (by kernel_rfl) (Eq.mp (by kernel_rfl) h) hR
/-- (*packidx.Idx).Sum -/
def vc_packidx_Idx_Sum (x0 : Nat) (w : World) (R : Value → World → Prop) : Prop :=
  ∃ s1 : ByteArray, (World.cell? w (Addr.mk x0 258 none) = some (Value.string s1) ∧
   R (Value.string s1) w)
theorem vc_packidx_Idx_Sum_ok {x0 : Nat} {w : World} {R : Value → World → Prop} {R' : Ending → World → Prop} (h : vc_packidx_Idx_Sum x0 w R) (hR : ∀ v w', R v w' → R' (.returned v) w') :
    Calls Try.prog 35 #[.pointer (some ⟨x0, 0, none⟩)] w R' :=
  calls_of_body (vs := [(.pointer (some ⟨x0, 0, none⟩), true)]) (ty := ty) (ann := ⟨[], [], [], []⟩) (c := Try.f35.body.getD .skip) (by kernel_rfl) Try.func35 (by kernel_rfl) (by kernel_rfl) (Eq.mp (by kernel_rfl) h) hR
/-- (*packidx.Idx).At -/
def vc_packidx_Idx_At (x0 : Nat) (x1 : Int) (w : World) (R : Value → World → Prop) : Prop :=
  ∀ w1 : World,
  (w1 = World.alloc w (Obj.cells (Array.mk [Value.string (ByteArray.mk (Array.mk [])), Value.int IntKind.i64 0, Value.int IntKind.u32 0]) 32) →
    (((decide (x1 < 0) = true →
       ∃ w2 : World, (Sem.run Try.prog (storeVar 32 (Addr.mk (Array.size (World.heap w)) 0 none) (Value.agg (Array.mk [Value.string (ByteArray.mk (Array.mk [])), Value.int IntKind.i64 0, Value.int IntKind.u32 0]))) w1 = Result.ok PUnit.unit w2 ∧
        ∃ s3 : ByteArray, ∃ n4 : Int, ∃ n5 : Int, (Sem.run Try.prog (loadVar 32 (Addr.mk (Array.size (World.heap w)) 0 none)) w2 = Result.ok (Value.agg (Array.mk [Value.string s3, Value.int IntKind.i64 n4, Value.int IntKind.u32 n5])) w2 ∧
         R (Value.tuple (Array.mk [Value.agg (Array.mk [Value.string s3, Value.int IntKind.i64 n4, Value.int IntKind.u32 n5]), Value.int IntKind.i64 7])) w2)))) ∧
     (decide (x1 < 0) = false →
       ∃ l6 : Sl, (World.cell? w1 (Addr.mk x0 0 none) = some (Value.slice l6.1 l6.2 l6.3) ∧
        (((decide (x1 ≥ (↑l6.2 : Int)) = true →
           ∃ w7 : World, (Sem.run Try.prog (storeVar 32 (Addr.mk (Array.size (World.heap w)) 0 none) (Value.agg (Array.mk [Value.string (ByteArray.mk (Array.mk [])), Value.int IntKind.i64 0, Value.int IntKind.u32 0]))) w1 = Result.ok PUnit.unit w7 ∧
            ∃ s8 : ByteArray, ∃ n9 : Int, ∃ n10 : Int, (Sem.run Try.prog (loadVar 32 (Addr.mk (Array.size (World.heap w)) 0 none)) w7 = Result.ok (Value.agg (Array.mk [Value.string s8, Value.int IntKind.i64 n9, Value.int IntKind.u32 n10])) w7 ∧
             R (Value.tuple (Array.mk [Value.agg (Array.mk [Value.string s8, Value.int IntKind.i64 n9, Value.int IntKind.u32 n10]), Value.int IntKind.i64 7])) w7)))) ∧
         (decide (x1 ≥ (↑l6.2 : Int)) = false →
           ∃ l11 : Sl, (World.cell? w1 (Addr.mk x0 0 none) = some (Value.slice l11.1 l11.2 l11.3) ∧
            ((0 ≤ x1 ∧
              x1 < (↑l11.2 : Int)) ∧
             ∃ a12 : Addr, (l11.1 = some a12 ∧
              ∃ s13 : ByteArray, ∃ n14 : Int, ∃ n15 : Int, (Sem.run Try.prog (loadVar 32 (Addr.add a12 (Int.toNat x1 * 3))) w1 = Result.ok (Value.agg (Array.mk [Value.string s13, Value.int IntKind.i64 n14, Value.int IntKind.u32 n15])) w1 ∧
               ∃ w16 : World, (Sem.run Try.prog (storeVar 32 (Addr.mk (Array.size (World.heap w)) 0 none) (Value.agg (Array.mk [Value.string s13, Value.int IntKind.i64 n14, Value.int IntKind.u32 n15]))) w1 = Result.ok PUnit.unit w16 ∧
                ∃ s17 : ByteArray, ∃ n18 : Int, ∃ n19 : Int, (Sem.run Try.prog (loadVar 32 (Addr.mk (Array.size (World.heap w)) 0 none)) w16 = Result.ok (Value.agg (Array.mk [Value.string s17, Value.int IntKind.i64 n18, Value.int IntKind.u32 n19])) w16 ∧
                 R (Value.tuple (Array.mk [Value.agg (Array.mk [Value.string s17, Value.int IntKind.i64 n18, Value.int IntKind.u32 n19]), Value.int IntKind.i64 0])) w16))))))))))))
theorem vc_packidx_Idx_At_ok {x0 : Nat} {x1 : Int} {w : World} {R : Value → World → Prop} {R' : Ending → World → Prop} (h : vc_packidx_Idx_At x0 x1 w R) (hR : ∀ v w', R v w' → R' (.returned v) w') :
    Calls Try.prog 36 #[.pointer (some ⟨x0, 0, none⟩), .int .i64 x1] w R' :=
  calls_of_body (vs := [(.pointer (some ⟨x0, 0, none⟩), true), (.int .i64 x1, false)]) (ty := ty) (ann := ⟨[], [], [], []⟩) (c := Try.f36.body.getD .skip) (by kernel_rfl) Try.func36 (by kernel_rfl) (by kernel_rfl) (Eq.mp (by kernel_rfl) h) hR
/-- slices.BinarySearchFunc[[]packidx.Row,packidx.Row,string]#find -/
def vc_slices_BinarySearchFunc_find (x0a : Option Addr) (x0n : Nat) (x0c : Nat) (x1 : ByteArray) (w : World) (R : Value → World → Prop) : Prop :=
  ∃ I1 : Int → Int → World → Prop, ∃ I2 : Int → Int → World → Nat, (I1 0 (↑x0n : Int) w ∧
   ∀ n3 : Int,
   ∀ n4 : Int,
   ∀ w5 : World,
   (I1 n3 n4 w5 →
     (((decide (n3 < n4) = true →
        ((0 : Int) ≤ (1 : Int) ∧
         ((0 ≤ IntKind.wrap IntKind.i64 (Int.fdiv (IntKind.wrap IntKind.u64 (IntKind.wrap IntKind.i64 (n3 + n4))) (2 ^ min (Int.toNat 1) 64)) ∧
           IntKind.wrap IntKind.i64 (Int.fdiv (IntKind.wrap IntKind.u64 (IntKind.wrap IntKind.i64 (n3 + n4))) (2 ^ min (Int.toNat 1) 64)) < (↑x0n : Int)) ∧
          ∃ a6 : Addr, (x0a = some a6 ∧
           ∃ s7 : ByteArray, ∃ n8 : Int, ∃ n9 : Int, (Sem.run Try.prog (loadVar 32 (Addr.add a6 (Int.toNat (IntKind.wrap IntKind.i64 (Int.fdiv (IntKind.wrap IntKind.u64 (IntKind.wrap IntKind.i64 (n3 + n4))) (2 ^ min (Int.toNat 1) 64))) * 3))) w5 = Result.ok (Value.agg (Array.mk [Value.string s7, Value.int IntKind.i64 n8, Value.int IntKind.u32 n9])) w5 ∧
            Calls Try.prog (29 : FuncId) (Array.mk [Value.agg (Array.mk [Value.string s7, Value.int IntKind.i64 n8, Value.int IntKind.u32 n9]), Value.string x1]) (w5) (fun e10 w11 =>
              ∃ n12 : Int, (e10 = Ending.returned (Value.int IntKind.i64 n12) ∧
               (((decide (n12 < 0) = true →
                  (I1 (IntKind.wrap IntKind.i64 (IntKind.wrap IntKind.i64 (Int.fdiv (IntKind.wrap IntKind.u64 (IntKind.wrap IntKind.i64 (n3 + n4))) (2 ^ min (Int.toNat 1) 64)) + 1)) n4 w11 ∧
                   I2 (IntKind.wrap IntKind.i64 (IntKind.wrap IntKind.i64 (Int.fdiv (IntKind.wrap IntKind.u64 (IntKind.wrap IntKind.i64 (n3 + n4))) (2 ^ min (Int.toNat 1) 64)) + 1)) n4 w11 < I2 n3 n4 w5))) ∧
                (decide (n12 < 0) = false →
                  (I1 n3 (IntKind.wrap IntKind.i64 (Int.fdiv (IntKind.wrap IntKind.u64 (IntKind.wrap IntKind.i64 (n3 + n4))) (2 ^ min (Int.toNat 1) 64))) w11 ∧
                   I2 n3 (IntKind.wrap IntKind.i64 (Int.fdiv (IntKind.wrap IntKind.u64 (IntKind.wrap IntKind.i64 (n3 + n4))) (2 ^ min (Int.toNat 1) 64))) w11 < I2 n3 n4 w5))))))))))) ∧
      (decide (n3 < n4) = false →
        (((decide (n3 < (↑x0n : Int)) = true →
           ((0 ≤ n3 ∧
             n3 < (↑x0n : Int)) ∧
            ∃ a13 : Addr, (x0a = some a13 ∧
             ∃ s14 : ByteArray, ∃ n15 : Int, ∃ n16 : Int, (Sem.run Try.prog (loadVar 32 (Addr.add a13 (Int.toNat n3 * 3))) w5 = Result.ok (Value.agg (Array.mk [Value.string s14, Value.int IntKind.i64 n15, Value.int IntKind.u32 n16])) w5 ∧
              Calls Try.prog (29 : FuncId) (Array.mk [Value.agg (Array.mk [Value.string s14, Value.int IntKind.i64 n15, Value.int IntKind.u32 n16]), Value.string x1]) (w5) (fun e17 w18 =>
                ∃ n19 : Int, (e17 = Ending.returned (Value.int IntKind.i64 n19) ∧
                 R (Value.tuple (Array.mk [Value.int IntKind.i64 n3, Value.bool (n19 == 0)])) w18))))))) ∧
         (decide (n3 < (↑x0n : Int)) = false →
           R (Value.tuple (Array.mk [Value.int IntKind.i64 n3, Value.bool false])) w5))))))
theorem vc_slices_BinarySearchFunc_find_ok {x0a : Option Addr} {x0n : Nat} {x0c : Nat} {x1 : ByteArray} {w : World} {R : Value → World → Prop} {R' : Ending → World → Prop} (h : vc_slices_BinarySearchFunc_find x0a x0n x0c x1 w R) (hR : ∀ v w', R v w' → R' (.returned v) w') :
    Calls Try.prog 28 #[.slice x0a x0n x0c, .string x1, .func (.func 29) #[] #[]] w R' :=
  calls_of_body (vs := [(.slice x0a x0n x0c, false), (.string x1, false), (.func (.func 29) #[] #[], false)]) (ty := ty) (ann := ⟨[], [(3, [(9, .int .i64), (10, .int .i64)])], [], []⟩) (c := Try.f28.body.getD .skip) (by kernel_rfl) Try.func28 (by kernel_rfl) (by kernel_rfl) (Eq.mp (by kernel_rfl) h) hR
/-- slices.BinarySearchFunc[[]packidx.Row,packidx.Row,string]#match -/
def vc_slices_BinarySearchFunc_match (x0a : Option Addr) (x0n : Nat) (x0c : Nat) (x1 : ByteArray) (w : World) (R : Value → World → Prop) : Prop :=
  ∃ I1 : Int → Int → World → Prop, ∃ I2 : Int → Int → World → Nat, (I1 0 (↑x0n : Int) w ∧
   ∀ n3 : Int,
   ∀ n4 : Int,
   ∀ w5 : World,
   (I1 n3 n4 w5 →
     (((decide (n3 < n4) = true →
        ((0 : Int) ≤ (1 : Int) ∧
         ((0 ≤ IntKind.wrap IntKind.i64 (Int.fdiv (IntKind.wrap IntKind.u64 (IntKind.wrap IntKind.i64 (n3 + n4))) (2 ^ min (Int.toNat 1) 64)) ∧
           IntKind.wrap IntKind.i64 (Int.fdiv (IntKind.wrap IntKind.u64 (IntKind.wrap IntKind.i64 (n3 + n4))) (2 ^ min (Int.toNat 1) 64)) < (↑x0n : Int)) ∧
          ∃ a6 : Addr, (x0a = some a6 ∧
           ∃ s7 : ByteArray, ∃ n8 : Int, ∃ n9 : Int, (Sem.run Try.prog (loadVar 32 (Addr.add a6 (Int.toNat (IntKind.wrap IntKind.i64 (Int.fdiv (IntKind.wrap IntKind.u64 (IntKind.wrap IntKind.i64 (n3 + n4))) (2 ^ min (Int.toNat 1) 64))) * 3))) w5 = Result.ok (Value.agg (Array.mk [Value.string s7, Value.int IntKind.i64 n8, Value.int IntKind.u32 n9])) w5 ∧
            Calls Try.prog (30 : FuncId) (Array.mk [Value.agg (Array.mk [Value.string s7, Value.int IntKind.i64 n8, Value.int IntKind.u32 n9]), Value.string x1]) (w5) (fun e10 w11 =>
              ∃ n12 : Int, (e10 = Ending.returned (Value.int IntKind.i64 n12) ∧
               (((decide (n12 < 0) = true →
                  (I1 (IntKind.wrap IntKind.i64 (IntKind.wrap IntKind.i64 (Int.fdiv (IntKind.wrap IntKind.u64 (IntKind.wrap IntKind.i64 (n3 + n4))) (2 ^ min (Int.toNat 1) 64)) + 1)) n4 w11 ∧
                   I2 (IntKind.wrap IntKind.i64 (IntKind.wrap IntKind.i64 (Int.fdiv (IntKind.wrap IntKind.u64 (IntKind.wrap IntKind.i64 (n3 + n4))) (2 ^ min (Int.toNat 1) 64)) + 1)) n4 w11 < I2 n3 n4 w5))) ∧
                (decide (n12 < 0) = false →
                  (I1 n3 (IntKind.wrap IntKind.i64 (Int.fdiv (IntKind.wrap IntKind.u64 (IntKind.wrap IntKind.i64 (n3 + n4))) (2 ^ min (Int.toNat 1) 64))) w11 ∧
                   I2 n3 (IntKind.wrap IntKind.i64 (Int.fdiv (IntKind.wrap IntKind.u64 (IntKind.wrap IntKind.i64 (n3 + n4))) (2 ^ min (Int.toNat 1) 64))) w11 < I2 n3 n4 w5))))))))))) ∧
      (decide (n3 < n4) = false →
        (((decide (n3 < (↑x0n : Int)) = true →
           ((0 ≤ n3 ∧
             n3 < (↑x0n : Int)) ∧
            ∃ a13 : Addr, (x0a = some a13 ∧
             ∃ s14 : ByteArray, ∃ n15 : Int, ∃ n16 : Int, (Sem.run Try.prog (loadVar 32 (Addr.add a13 (Int.toNat n3 * 3))) w5 = Result.ok (Value.agg (Array.mk [Value.string s14, Value.int IntKind.i64 n15, Value.int IntKind.u32 n16])) w5 ∧
              Calls Try.prog (30 : FuncId) (Array.mk [Value.agg (Array.mk [Value.string s14, Value.int IntKind.i64 n15, Value.int IntKind.u32 n16]), Value.string x1]) (w5) (fun e17 w18 =>
                ∃ n19 : Int, (e17 = Ending.returned (Value.int IntKind.i64 n19) ∧
                 R (Value.tuple (Array.mk [Value.int IntKind.i64 n3, Value.bool (n19 == 0)])) w18))))))) ∧
         (decide (n3 < (↑x0n : Int)) = false →
           R (Value.tuple (Array.mk [Value.int IntKind.i64 n3, Value.bool false])) w5))))))
theorem vc_slices_BinarySearchFunc_match_ok {x0a : Option Addr} {x0n : Nat} {x0c : Nat} {x1 : ByteArray} {w : World} {R : Value → World → Prop} {R' : Ending → World → Prop} (h : vc_slices_BinarySearchFunc_match x0a x0n x0c x1 w R) (hR : ∀ v w', R v w' → R' (.returned v) w') :
    Calls Try.prog 28 #[.slice x0a x0n x0c, .string x1, .func (.func 30) #[] #[]] w R' :=
  calls_of_body (vs := [(.slice x0a x0n x0c, false), (.string x1, false), (.func (.func 30) #[] #[], false)]) (ty := ty) (ann := ⟨[], [(3, [(9, .int .i64), (10, .int .i64)])], [], []⟩) (c := Try.f28.body.getD .skip) (by kernel_rfl) Try.func28 (by kernel_rfl) (by kernel_rfl) (Eq.mp (by kernel_rfl) h) hR
end Go.Proofs.Ytoagdpjickippaa

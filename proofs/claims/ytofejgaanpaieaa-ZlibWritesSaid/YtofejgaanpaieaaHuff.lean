/- Formulas of 6 Go functions of this seat (written by a program of the author's, vcgen.py), and that each is enough for the call. No condition. -/
import Derived.Test.YtofejgaanpaieaaTy
import Derived.Test.YtofejgaanpaieaaProg
set_option linter.unusedVariables false
namespace Go.Proofs.Ytofejgaanpaieaa
open Go Vc Go.Proofs
set_option maxRecDepth 100000
/-- huff.New -/
def vc_huff_New (x0a : Option Addr) (x0n : Nat) (x0c : Nat) (w : World) (R : Value → World → Prop) : Prop :=
  (((decide ((↑x0n : Int) > 320) = true →
     R (Value.tuple (Array.mk [Value.pointer none, Value.int IntKind.i64 2])) w)) ∧
   (decide ((↑x0n : Int) > 320) = false →
     ∃ w1 : World, ∃ l2 : Sl, (Sem.run Try.prog (Builtin.append_ (Array.mk [58, 58]) 58 (Array.mk [Value.slice none 0 0, Value.slice x0a x0n x0c])) w = Result.ok (Value.slice l2.1 l2.2 l2.3) w1 ∧
      ∀ w3 : World,
      (w3 = World.alloc w1 (Obj.cells (Array.mk [Value.slice l2.1 l2.2 l2.3, Value.int IntKind.i64 0, Value.int IntKind.i64 0, Value.int IntKind.i64 0, Value.int IntKind.i64 0, Value.int IntKind.i64 0, Value.int IntKind.i64 0, Value.int IntKind.i64 0, Value.int IntKind.i64 0, Value.int IntKind.i64 0, Value.int IntKind.i64 0, Value.int IntKind.i64 0, Value.int IntKind.i64 0, Value.int IntKind.i64 0, Value.int IntKind.i64 0, Value.int IntKind.i64 0, Value.int IntKind.i64 0, Value.slice none 0 0]) 108) →
        ∃ I4 : Int → World → Prop, ∃ I5 : Int → World → Nat, (I4 0 w3 ∧
         ∀ n6 : Int,
         ∀ w7 : World,
         (I4 n6 w7 →
           (((decide (n6 < (↑x0n : Int)) = true →
              ((0 ≤ n6 ∧
                n6 < (↑x0n : Int)) ∧
               ∃ a8 : Addr, (x0a = some a8 ∧
                ∃ n9 : Int, (World.cell? w7 (Addr.add a8 (Int.toNat n6 * 1)) = some (Value.int IntKind.i64 n9) ∧
                 (((decide (n9 < 0) = true →
                    R (Value.tuple (Array.mk [Value.pointer none, Value.int IntKind.i64 1])) w7)) ∧
                  (decide (n9 < 0) = false →
                    (((decide (n9 > 15) = true →
                       R (Value.tuple (Array.mk [Value.pointer none, Value.int IntKind.i64 1])) w7)) ∧
                     (decide (n9 > 15) = false →
                       ∀ w10 : World,
                       (Drew w7 w10 →
                         ((0 ≤ n9 ∧
                           n9 < (↑16 : Int)) ∧
                          ∃ n11 : Int, (World.cell? w10 (Addr.add (Addr.mk (Array.size (World.heap w1)) 1 none) (Int.toNat n9 * 1)) = some (Value.int IntKind.i64 n11) ∧
                           ((0 ≤ n9 ∧
                             n9 < (↑16 : Int)) ∧
                            (Wr w10 (Addr.add (Addr.mk (Array.size (World.heap w1)) 1 none) (Int.toNat n9 * 1)) ∧
                             ∀ w12 : World,
                             (w12 = World.setCell w10 (Addr.add (Addr.mk (Array.size (World.heap w1)) 1 none) (Int.toNat n9 * 1)) (Value.int IntKind.i64 (IntKind.wrap IntKind.i64 (n11 + 1))) →
                               (I4 (IntKind.wrap IntKind.i64 (n6 + 1)) w12 ∧
                                I5 (IntKind.wrap IntKind.i64 (n6 + 1)) w12 < I5 n6 w7)))))))))))))))) ∧
            (decide (n6 < (↑x0n : Int)) = false →
              ∃ I13 : Int → Int → Int → World → Prop, ∃ I14 : Int → Int → Int → World → Nat, (I13 1 0 1 w7 ∧
               ∀ n15 : Int,
               ∀ n16 : Int,
               ∀ n17 : Int,
               ∀ w18 : World,
               (I13 n15 n16 n17 w18 →
                 (((decide (n17 ≤ 15) = true →
                    ((0 ≤ n17 ∧
                      n17 < (↑16 : Int)) ∧
                     ∃ n19 : Int, (World.cell? w18 (Addr.add (Addr.mk (Array.size (World.heap w1)) 1 none) (Int.toNat n17 * 1)) = some (Value.int IntKind.i64 n19) ∧
                      ((0 ≤ n17 ∧
                        n17 < (↑16 : Int)) ∧
                       ∃ n20 : Int, (World.cell? w18 (Addr.add (Addr.mk (Array.size (World.heap w1)) 1 none) (Int.toNat n17 * 1)) = some (Value.int IntKind.i64 n20) ∧
                        (((decide (IntKind.wrap IntKind.i64 (IntKind.wrap IntKind.i64 (2 * n15) - n19) < 0) = true →
                           R (Value.tuple (Array.mk [Value.pointer none, Value.int IntKind.i64 4])) w18)) ∧
                         (decide (IntKind.wrap IntKind.i64 (IntKind.wrap IntKind.i64 (2 * n15) - n19) < 0) = false →
                           ∃ I21 : Int → World → Prop, ∃ I22 : Int → World → Nat, (I21 0 w18 ∧
                            ∀ n23 : Int,
                            ∀ w24 : World,
                            (I21 n23 w24 →
                              (((decide (n23 < (↑x0n : Int)) = true →
                                 ((0 ≤ n23 ∧
                                   n23 < (↑x0n : Int)) ∧
                                  ∃ a25 : Addr, (x0a = some a25 ∧
                                   ∃ n26 : Int, (World.cell? w24 (Addr.add a25 (Int.toNat n23 * 1)) = some (Value.int IntKind.i64 n26) ∧
                                    ((((n26 == n17) = true →
                                       ∃ l27 : Sl, (World.cell? w24 (Addr.mk (Array.size (World.heap w1)) 17 none) = some (Value.slice l27.1 l27.2 l27.3) ∧
                                        ∀ w28 : World,
                                        (w28 = World.alloc w24 (Obj.cells (Array.mk [Value.int IntKind.i64 n23]) 3) →
                                          ∃ w29 : World, ∃ l30 : Sl, (Sem.run Try.prog (Builtin.append_ (Array.mk [58, 58]) 58 (Array.mk [Value.slice l27.1 l27.2 l27.3, Value.slice (some (Addr.mk (Array.size (World.heap w24)) 0 none)) 1 1])) w28 = Result.ok (Value.slice l30.1 l30.2 l30.3) w29 ∧
                                           (Wr w29 (Addr.mk (Array.size (World.heap w1)) 17 none) ∧
                                            ∀ w31 : World,
                                            (w31 = World.setCell w29 (Addr.mk (Array.size (World.heap w1)) 17 none) (Value.slice l30.1 l30.2 l30.3) →
                                              (I21 (IntKind.wrap IntKind.i64 (n23 + 1)) w31 ∧
                                               I22 (IntKind.wrap IntKind.i64 (n23 + 1)) w31 < I22 n23 w24)))))))) ∧
                                     ((n26 == n17) = false →
                                       (I21 (IntKind.wrap IntKind.i64 (n23 + 1)) w24 ∧
                                        I22 (IntKind.wrap IntKind.i64 (n23 + 1)) w24 < I22 n23 w24)))))))) ∧
                               (decide (n23 < (↑x0n : Int)) = false →
                                 (I13 (IntKind.wrap IntKind.i64 (IntKind.wrap IntKind.i64 (2 * n15) - n19)) (IntKind.wrap IntKind.i64 (n16 + n20)) (IntKind.wrap IntKind.i64 (n17 + 1)) w24 ∧
                                  I14 (IntKind.wrap IntKind.i64 (IntKind.wrap IntKind.i64 (2 * n15) - n19)) (IntKind.wrap IntKind.i64 (n16 + n20)) (IntKind.wrap IntKind.i64 (n17 + 1)) w24 < I14 n15 n16 n17 w18))))))))))))) ∧
                  (decide (n17 ≤ 15) = false →
                    (((decide (n15 > 0) = true →
                       (((decide (n16 > 0) = true →
                          ((((n16 == 1) = true →
                             (((0 : Int) ≤ (1 : Int) ∧
                               (1 : Int) < (↑(16 : Nat) : Int)) ∧
                              ∃ n32 : Int, (World.cell? w18 (Addr.add (Addr.mk (Array.size (World.heap w1)) 1 none) (Int.toNat 1 * 1)) = some (Value.int IntKind.i64 n32) ∧
                               ((((!n32 == 1) = true →
                                  R (Value.tuple (Array.mk [Value.pointer none, Value.int IntKind.i64 4])) w18)) ∧
                                ((!n32 == 1) = false →
                                  R (Value.tuple (Array.mk [Value.pointer (some (Addr.mk (Array.size (World.heap w1)) 0 none)), Value.int IntKind.i64 0])) w18)))))) ∧
                           ((n16 == 1) = false →
                             R (Value.tuple (Array.mk [Value.pointer none, Value.int IntKind.i64 4])) w18)))) ∧
                        (decide (n16 > 0) = false →
                          R (Value.tuple (Array.mk [Value.pointer (some (Addr.mk (Array.size (World.heap w1)) 0 none)), Value.int IntKind.i64 0])) w18)))) ∧
                     (decide (n15 > 0) = false →
                       R (Value.tuple (Array.mk [Value.pointer (some (Addr.mk (Array.size (World.heap w1)) 0 none)), Value.int IntKind.i64 0])) w18))))))))))))))
theorem vc_huff_New_ok {x0a : Option Addr} {x0n : Nat} {x0c : Nat} {w : World} {R : Value → World → Prop} {R' : Ending → World → Prop} (h : vc_huff_New x0a x0n x0c w R) (hR : ∀ v w', R v w' → R' (.returned v) w') :
    Calls Try.prog 69 #[.slice x0a x0n x0c] w R' :=
  calls_of_body (vs := [(.slice x0a x0n x0c, false)]) (ty := ty) (ann := ⟨[], [(5, [(21, .int .i64)]), (13, [(7, .int .i64), (8, .int .i64), (9, .int .i64)]), (20, [(67, .int .i64)])], [(9, .tail 10)], []⟩) (c := Try.f69.body.getD .skip) (by kernel_rfl) Try.func69 (by kernel_rfl) (by kernel_rfl) (Eq.mp (by kernel_rfl) h) hR
/-- (*huff.Table).Read -/
def vc_huff_Table_Read (x0 : Nat) (x1 : Nat) (w : World) (R : Value → World → Prop) : Prop :=
  ∃ l1 : Sl, (World.cell? w (Addr.mk x0 17 none) = some (Value.slice l1.1 l1.2 l1.3) ∧
   (((((↑l1.2 : Int) == 0) = true →
      R (Value.tuple (Array.mk [Value.int IntKind.i64 0, Value.int IntKind.i64 3])) w)) ∧
    (((↑l1.2 : Int) == 0) = false →
      ∃ I2 : Int → Int → Int → Int → World → Prop, ∃ I3 : Int → Int → Int → Int → World → Nat, (I2 0 0 0 1 w ∧
       ∀ n4 : Int,
       ∀ n5 : Int,
       ∀ n6 : Int,
       ∀ n7 : Int,
       ∀ w8 : World,
       (I2 n4 n5 n6 n7 w8 →
         (((decide (n7 ≤ 15) = true →
            Calls Try.prog (52 : Nat) (Array.mk [Value.pointer (some (Addr.mk x1 0 none)), Value.int IntKind.i64 1]) (w8) (fun e9 w10 =>
              ∃ n11 : Int, ∃ b12 : Bool, (e9 = Ending.returned (Value.tuple (Array.mk [Value.int IntKind.u32 n11, Value.bool b12])) ∧
               ((((!b12) = true →
                  R (Value.tuple (Array.mk [Value.int IntKind.i64 0, Value.int IntKind.i64 6])) w10)) ∧
                ((!b12) = false →
                  ((0 : Int) ≤ (1 : Int) ∧
                   ((0 ≤ n7 ∧
                     n7 < (↑16 : Int)) ∧
                    ∃ n13 : Int, (World.cell? w10 (Addr.add (Addr.mk x0 1 none) (Int.toNat n7 * 1)) = some (Value.int IntKind.i64 n13) ∧
                     (((decide (IntKind.wrap IntKind.i64 (IntKind.wrap IntKind.i64 (↑(BitVec.toNat (BitVec.ofInt 64 (IntKind.wrap IntKind.i64 (n4 * 2 ^ min (Int.toNat 1) 64)) ||| BitVec.ofInt 64 (IntKind.wrap IntKind.i64 n11))) : Int) - n5) < n13) = true →
                        ∃ l14 : Sl, (World.cell? w10 (Addr.mk x0 17 none) = some (Value.slice l14.1 l14.2 l14.3) ∧
                         ((0 ≤ IntKind.wrap IntKind.i64 (n6 + IntKind.wrap IntKind.i64 (IntKind.wrap IntKind.i64 (↑(BitVec.toNat (BitVec.ofInt 64 (IntKind.wrap IntKind.i64 (n4 * 2 ^ min (Int.toNat 1) 64)) ||| BitVec.ofInt 64 (IntKind.wrap IntKind.i64 n11))) : Int) - n5)) ∧
                           IntKind.wrap IntKind.i64 (n6 + IntKind.wrap IntKind.i64 (IntKind.wrap IntKind.i64 (↑(BitVec.toNat (BitVec.ofInt 64 (IntKind.wrap IntKind.i64 (n4 * 2 ^ min (Int.toNat 1) 64)) ||| BitVec.ofInt 64 (IntKind.wrap IntKind.i64 n11))) : Int) - n5)) < (↑l14.2 : Int)) ∧
                          ∃ a15 : Addr, (l14.1 = some a15 ∧
                           ∃ n16 : Int, (World.cell? w10 (Addr.add a15 (Int.toNat (IntKind.wrap IntKind.i64 (n6 + IntKind.wrap IntKind.i64 (IntKind.wrap IntKind.i64 (↑(BitVec.toNat (BitVec.ofInt 64 (IntKind.wrap IntKind.i64 (n4 * 2 ^ min (Int.toNat 1) 64)) ||| BitVec.ofInt 64 (IntKind.wrap IntKind.i64 n11))) : Int) - n5))) * 1)) = some (Value.int IntKind.i64 n16) ∧
                            R (Value.tuple (Array.mk [Value.int IntKind.i64 n16, Value.int IntKind.i64 0])) w10)))))) ∧
                      (decide (IntKind.wrap IntKind.i64 (IntKind.wrap IntKind.i64 (↑(BitVec.toNat (BitVec.ofInt 64 (IntKind.wrap IntKind.i64 (n4 * 2 ^ min (Int.toNat 1) 64)) ||| BitVec.ofInt 64 (IntKind.wrap IntKind.i64 n11))) : Int) - n5) < n13) = false →
                        ((0 ≤ n7 ∧
                          n7 < (↑16 : Int)) ∧
                         ∃ n17 : Int, (World.cell? w10 (Addr.add (Addr.mk x0 1 none) (Int.toNat n7 * 1)) = some (Value.int IntKind.i64 n17) ∧
                          ((0 ≤ n7 ∧
                            n7 < (↑16 : Int)) ∧
                           ∃ n18 : Int, (World.cell? w10 (Addr.add (Addr.mk x0 1 none) (Int.toNat n7 * 1)) = some (Value.int IntKind.i64 n18) ∧
                            ((0 : Int) ≤ (1 : Int) ∧
                             ∃ l19 : Sl, (World.cell? w10 (Addr.mk x0 17 none) = some (Value.slice l19.1 l19.2 l19.3) ∧
                              ((((IntKind.wrap IntKind.i64 (n6 + n17) == (↑l19.2 : Int)) = true →
                                 R (Value.tuple (Array.mk [Value.int IntKind.i64 0, Value.int IntKind.i64 3])) w10)) ∧
                               ((IntKind.wrap IntKind.i64 (n6 + n17) == (↑l19.2 : Int)) = false →
                                 (I2 (IntKind.wrap IntKind.i64 (↑(BitVec.toNat (BitVec.ofInt 64 (IntKind.wrap IntKind.i64 (n4 * 2 ^ min (Int.toNat 1) 64)) ||| BitVec.ofInt 64 (IntKind.wrap IntKind.i64 n11))) : Int)) (IntKind.wrap IntKind.i64 (IntKind.wrap IntKind.i64 (n5 + n18) * 2 ^ min (Int.toNat 1) 64)) (IntKind.wrap IntKind.i64 (n6 + n17)) (IntKind.wrap IntKind.i64 (n7 + 1)) w10 ∧
                                  I3 (IntKind.wrap IntKind.i64 (↑(BitVec.toNat (BitVec.ofInt 64 (IntKind.wrap IntKind.i64 (n4 * 2 ^ min (Int.toNat 1) 64)) ||| BitVec.ofInt 64 (IntKind.wrap IntKind.i64 n11))) : Int)) (IntKind.wrap IntKind.i64 (IntKind.wrap IntKind.i64 (n5 + n18) * 2 ^ min (Int.toNat 1) 64)) (IntKind.wrap IntKind.i64 (n6 + n17)) (IntKind.wrap IntKind.i64 (n7 + 1)) w10 < I3 n4 n5 n6 n7 w8)))))))))))))))))))) ∧
          (decide (n7 ≤ 15) = false →
            R (Value.tuple (Array.mk [Value.int IntKind.i64 0, Value.int IntKind.i64 3])) w8)))))))
theorem vc_huff_Table_Read_ok {x0 : Nat} {x1 : Nat} {w : World} {R : Value → World → Prop} {R' : Ending → World → Prop} (h : vc_huff_Table_Read x0 x1 w R) (hR : ∀ v w', R v w' → R' (.returned v) w') :
    Calls Try.prog 55 #[.pointer (some ⟨x0, 0, none⟩), .pointer (some ⟨x1, 0, none⟩)] w R' :=
  calls_of_body (vs := [(.pointer (some ⟨x0, 0, none⟩), true), (.pointer (some ⟨x1, 0, none⟩), true)]) (ty := ty) (ann := ⟨[], [(5, [(6, .int .i64), (7, .int .i64), (8, .int .i64), (9, .int .i64)])], [], []⟩) (c := Try.f55.body.getD .skip) (by kernel_rfl) Try.func55 (by kernel_rfl) (by kernel_rfl) (Eq.mp (by kernel_rfl) h) hR
/-- cartularyref04.Check -/
def vc_cartularyref04_Check (x0a : Option Addr) (x0n : Nat) (x0c : Nat) (w : World) (R : Value → World → Prop) : Prop :=
  (((decide ((↑x0n : Int) > 320) = true →
     R (Value.int IntKind.i64 2) w)) ∧
   (decide ((↑x0n : Int) > 320) = false →
     ∃ I1 : Int → Int → Int → Int → World → Prop, ∃ I2 : Int → Int → Int → Int → World → Nat, (I1 0 0 0 0 w ∧
      ∀ n3 : Int,
      ∀ n4 : Int,
      ∀ n5 : Int,
      ∀ n6 : Int,
      ∀ w7 : World,
      (I1 n3 n4 n5 n6 w7 →
        (((decide (n6 < (↑x0n : Int)) = true →
           ((0 ≤ n6 ∧
             n6 < (↑x0n : Int)) ∧
            ∃ a8 : Addr, (x0a = some a8 ∧
             ∃ n9 : Int, (World.cell? w7 (Addr.add a8 (Int.toNat n6 * 1)) = some (Value.int IntKind.i64 n9) ∧
              (((decide (n9 < 0) = true →
                 R (Value.int IntKind.i64 1) w7)) ∧
               (decide (n9 < 0) = false →
                 (((decide (n9 > 15) = true →
                    R (Value.int IntKind.i64 1) w7)) ∧
                  (decide (n9 > 15) = false →
                    (((decide (n9 > 0) = true →
                       ∃ I10 : Int → Int → World → Prop, ∃ I11 : Int → Int → World → Nat, (I10 32768 0 w7 ∧
                        ∀ n12 : Int,
                        ∀ n13 : Int,
                        ∀ w14 : World,
                        (I10 n12 n13 w14 →
                          (((decide (n13 < n9) = true →
                             ((2 : Int) ≠ (0 : Int) ∧
                              (I10 (IntKind.wrap IntKind.i64 (Int.tdiv n12 2)) (IntKind.wrap IntKind.i64 (n13 + 1)) w14 ∧
                               I11 (IntKind.wrap IntKind.i64 (Int.tdiv n12 2)) (IntKind.wrap IntKind.i64 (n13 + 1)) w14 < I11 n12 n13 w14)))) ∧
                           (decide (n13 < n9) = false →
                             ((((n9 == 1) = true →
                                (I1 (IntKind.wrap IntKind.i64 (n3 + n12)) (IntKind.wrap IntKind.i64 (n4 + 1)) (IntKind.wrap IntKind.i64 (n5 + 1)) (IntKind.wrap IntKind.i64 (n6 + 1)) w14 ∧
                                 I2 (IntKind.wrap IntKind.i64 (n3 + n12)) (IntKind.wrap IntKind.i64 (n4 + 1)) (IntKind.wrap IntKind.i64 (n5 + 1)) (IntKind.wrap IntKind.i64 (n6 + 1)) w14 < I2 n3 n4 n5 n6 w7))) ∧
                              ((n9 == 1) = false →
                                (I1 (IntKind.wrap IntKind.i64 (n3 + n12)) (IntKind.wrap IntKind.i64 (n4 + 1)) n5 (IntKind.wrap IntKind.i64 (n6 + 1)) w14 ∧
                                 I2 (IntKind.wrap IntKind.i64 (n3 + n12)) (IntKind.wrap IntKind.i64 (n4 + 1)) n5 (IntKind.wrap IntKind.i64 (n6 + 1)) w14 < I2 n3 n4 n5 n6 w7))))))))) ∧
                     (decide (n9 > 0) = false →
                       ((((n9 == 1) = true →
                          (I1 n3 n4 (IntKind.wrap IntKind.i64 (n5 + 1)) (IntKind.wrap IntKind.i64 (n6 + 1)) w7 ∧
                           I2 n3 n4 (IntKind.wrap IntKind.i64 (n5 + 1)) (IntKind.wrap IntKind.i64 (n6 + 1)) w7 < I2 n3 n4 n5 n6 w7))) ∧
                        ((n9 == 1) = false →
                          (I1 n3 n4 n5 (IntKind.wrap IntKind.i64 (n6 + 1)) w7 ∧
                           I2 n3 n4 n5 (IntKind.wrap IntKind.i64 (n6 + 1)) w7 < I2 n3 n4 n5 n6 w7)))))))))))))) ∧
         (decide (n6 < (↑x0n : Int)) = false →
           (((decide (n3 > 32768) = true →
              R (Value.int IntKind.i64 4) w7)) ∧
            (decide (n3 > 32768) = false →
              (((decide (n3 < 32768) = true →
                 (((decide (n4 > 0) = true →
                    ((((n4 == 1) = true →
                       ((((!n5 == 1) = true →
                          R (Value.int IntKind.i64 4) w7)) ∧
                        ((!n5 == 1) = false →
                          R (Value.int IntKind.i64 0) w7)))) ∧
                     ((n4 == 1) = false →
                       R (Value.int IntKind.i64 4) w7)))) ∧
                  (decide (n4 > 0) = false →
                    R (Value.int IntKind.i64 0) w7)))) ∧
               (decide (n3 < 32768) = false →
                 R (Value.int IntKind.i64 0) w7))))))))))
theorem vc_cartularyref04_Check_ok {x0a : Option Addr} {x0n : Nat} {x0c : Nat} {w : World} {R : Value → World → Prop} {R' : Ending → World → Prop} (h : vc_cartularyref04_Check x0a x0n x0c w R) (hR : ∀ v w', R v w' → R' (.returned v) w') :
    Calls Try.prog 63 #[.slice x0a x0n x0c] w R' :=
  calls_of_body (vs := [(.slice x0a x0n x0c, false)]) (ty := ty) (ann := ⟨[], [(5, [(3, .int .i64), (4, .int .i64), (5, .int .i64), (15, .int .i64)]), (13, [(8, .int .i64), (9, .int .i64)])], [], []⟩) (c := Try.f63.body.getD .skip) (by kernel_rfl) Try.func63 (by kernel_rfl) (by kernel_rfl) (Eq.mp (by kernel_rfl) h) hR
/-- cartularyref04.Codes -/
def vc_cartularyref04_Codes (x0a : Option Addr) (x0n : Nat) (x0c : Nat) (w : World) (R : Value → World → Prop) : Prop :=
  ∀ w1 : World,
  (w1 = World.alloc w (Obj.cells (Array.mk []) 52) →
    ∃ I2 : Sl → Int → World → Prop, ∃ I3 : Sl → Int → World → Nat, (I2 (Sl.mk (some (Addr.mk (Array.size (World.heap w)) 0 none)) 0 0) 0 w1 ∧
     ∀ l4 : Sl,
     ∀ n5 : Int,
     ∀ w6 : World,
     (I2 l4 n5 w6 →
       (((decide (n5 < (↑x0n : Int)) = true →
          ∀ w7 : World,
          (w7 = World.alloc w6 (Obj.cells (Array.mk [Value.slice none 0 0]) 52) →
            ∃ w8 : World, ∃ l9 : Sl, (Sem.run Try.prog (Builtin.append_ (Array.mk [94, 94]) 94 (Array.mk [Value.slice l4.1 l4.2 l4.3, Value.slice (some (Addr.mk (Array.size (World.heap w6)) 0 none)) 1 1])) w7 = Result.ok (Value.slice l9.1 l9.2 l9.3) w8 ∧
             (I2 (Sl.mk l9.1 l9.2 l9.3) (IntKind.wrap IntKind.i64 (n5 + 1)) w8 ∧
              I3 (Sl.mk l9.1 l9.2 l9.3) (IntKind.wrap IntKind.i64 (n5 + 1)) w8 < I3 l4 n5 w6))))) ∧
        (decide (n5 < (↑x0n : Int)) = false →
          ∃ I10 : Int → Int → World → Prop, ∃ I11 : Int → Int → World → Nat, (I10 0 1 w6 ∧
           ∀ n12 : Int,
           ∀ n13 : Int,
           ∀ w14 : World,
           (I10 n12 n13 w14 →
             (((decide (n13 ≤ 15) = true →
                ∃ I15 : Int → Int → World → Prop, ∃ I16 : Int → Int → World → Nat, (I15 (IntKind.wrap IntKind.i64 (2 * n12)) 0 w14 ∧
                 ∀ n17 : Int,
                 ∀ n18 : Int,
                 ∀ w19 : World,
                 (I15 n17 n18 w19 →
                   (((decide (n18 < (↑x0n : Int)) = true →
                      ((0 ≤ n18 ∧
                        n18 < (↑x0n : Int)) ∧
                       ∃ a20 : Addr, (x0a = some a20 ∧
                        ∃ n21 : Int, (World.cell? w19 (Addr.add a20 (Int.toNat n18 * 1)) = some (Value.int IntKind.i64 n21) ∧
                         ((((n21 != n13) = true →
                            (I15 n17 (IntKind.wrap IntKind.i64 (n18 + 1)) w19 ∧
                             I16 n17 (IntKind.wrap IntKind.i64 (n18 + 1)) w19 < I16 n17 n18 w19))) ∧
                          ((n21 != n13) = false →
                            ∀ w22 : World,
                            (w22 = World.alloc w19 (Obj.cells (Array.mk []) 4) →
                              ∃ I23 : Sl → Int → Int → World → Prop, ∃ I24 : Sl → Int → Int → World → Nat, (I23 (Sl.mk (some (Addr.mk (Array.size (World.heap w19)) 0 none)) 0 0) n17 0 w22 ∧
                               ∀ l25 : Sl,
                               ∀ n26 : Int,
                               ∀ n27 : Int,
                               ∀ w28 : World,
                               (I23 l25 n26 n27 w28 →
                                 (((decide (n27 < n13) = true →
                                    ((2 : Int) ≠ (0 : Int) ∧
                                     ∀ w29 : World,
                                     (w29 = World.alloc w28 (Obj.cells (Array.mk [Value.bool (Int.tmod n26 2 == 1)]) 4) →
                                       ∃ w30 : World, ∃ l31 : Sl, (Sem.run Try.prog (Builtin.append_ (Array.mk [52, 52]) 52 (Array.mk [Value.slice (some (Addr.mk (Array.size (World.heap w28)) 0 none)) 1 1, Value.slice l25.1 l25.2 l25.3])) w29 = Result.ok (Value.slice l31.1 l31.2 l31.3) w30 ∧
                                        ((2 : Int) ≠ (0 : Int) ∧
                                         (I23 (Sl.mk l31.1 l31.2 l31.3) (IntKind.wrap IntKind.i64 (Int.tdiv n26 2)) (IntKind.wrap IntKind.i64 (n27 + 1)) w30 ∧
                                          I24 (Sl.mk l31.1 l31.2 l31.3) (IntKind.wrap IntKind.i64 (Int.tdiv n26 2)) (IntKind.wrap IntKind.i64 (n27 + 1)) w30 < I24 l25 n26 n27 w28))))))) ∧
                                  (decide (n27 < n13) = false →
                                    ((0 ≤ n18 ∧
                                      n18 < (↑l4.2 : Int)) ∧
                                     ∃ a32 : Addr, (l4.1 = some a32 ∧
                                      (Wr w28 (Addr.add a32 (Int.toNat n18 * 1)) ∧
                                       ∀ w33 : World,
                                       (w33 = World.setCell w28 (Addr.add a32 (Int.toNat n18 * 1)) (Value.slice l25.1 l25.2 l25.3) →
                                         (I15 (IntKind.wrap IntKind.i64 (n17 + 1)) (IntKind.wrap IntKind.i64 (n18 + 1)) w33 ∧
                                          I16 (IntKind.wrap IntKind.i64 (n17 + 1)) (IntKind.wrap IntKind.i64 (n18 + 1)) w33 < I16 n17 n18 w19))))))))))))))))) ∧
                    (decide (n18 < (↑x0n : Int)) = false →
                      (I10 n17 (IntKind.wrap IntKind.i64 (n13 + 1)) w19 ∧
                       I11 n17 (IntKind.wrap IntKind.i64 (n13 + 1)) w19 < I11 n12 n13 w14))))))) ∧
              (decide (n13 ≤ 15) = false →
                R (Value.slice l4.1 l4.2 l4.3) w14)))))))))
theorem vc_cartularyref04_Codes_ok {x0a : Option Addr} {x0n : Nat} {x0c : Nat} {w : World} {R : Value → World → Prop} {R' : Ending → World → Prop} (h : vc_cartularyref04_Codes x0a x0n x0c w R) (hR : ∀ v w', R v w' → R' (.returned v) w') :
    Calls Try.prog 60 #[.slice x0a x0n x0c] w R' :=
  calls_of_body (vs := [(.slice x0a x0n x0c, false)]) (ty := ty) (ann := ⟨[], [(3, [(3, .slice), (14, .int .i64)]), (8, [(4, .int .i64), (5, .int .i64)]), (12, [(4, .int .i64), (28, .int .i64)]), (18, [(8, .slice), (9, .int .i64), (10, .int .i64)])], [], []⟩) (c := Try.f60.body.getD .skip) (by kernel_rfl) Try.func60 (by kernel_rfl) (by kernel_rfl) (Eq.mp (by kernel_rfl) h) hR
/-- cartularyref04.Read -/
def vc_cartularyref04_Read (x0a : Option Addr) (x0n : Nat) (x0c : Nat) (x1a : Option Addr) (x1n : Nat) (x1c : Nat) (w : World) (R : Value → World → Prop) : Prop :=
  ∃ I1 : Bool → Int → World → Prop, ∃ I2 : Bool → Int → World → Nat, (I1 false 0 w ∧
   ∀ b3 : Bool,
   ∀ n4 : Int,
   ∀ w5 : World,
   (I1 b3 n4 w5 →
     (((decide (n4 < (↑x0n : Int)) = true →
        ((0 ≤ n4 ∧
          n4 < (↑x0n : Int)) ∧
         ∃ a6 : Addr, (x0a = some a6 ∧
          ∃ l7 : Sl, (World.cell? w5 (Addr.add a6 (Int.toNat n4 * 1)) = some (Value.slice l7.1 l7.2 l7.3) ∧
           (((decide ((↑l7.2 : Int) > 0) = true →
              Calls Try.prog (80 : Nat) (Array.mk [Value.slice x1a x1n x1c, Value.slice l7.1 l7.2 l7.3]) (w5) (fun e8 w9 =>
                ∃ b10 : Bool, (e8 = Ending.returned (Value.bool b10) ∧
                 (((b10 = true →
                    R (Value.tuple (Array.mk [Value.int IntKind.i64 n4, Value.int IntKind.i64 (↑l7.2 : Int), Value.int IntKind.i64 0])) w9)) ∧
                  (b10 = false →
                    (I1 true (IntKind.wrap IntKind.i64 (n4 + 1)) w9 ∧
                     I2 true (IntKind.wrap IntKind.i64 (n4 + 1)) w9 < I2 b3 n4 w5))))))) ∧
            (decide ((↑l7.2 : Int) > 0) = false →
              (I1 b3 (IntKind.wrap IntKind.i64 (n4 + 1)) w5 ∧
               I2 b3 (IntKind.wrap IntKind.i64 (n4 + 1)) w5 < I2 b3 n4 w5)))))))) ∧
      (decide (n4 < (↑x0n : Int)) = false →
        ((((!b3) = true →
           R (Value.tuple (Array.mk [Value.int IntKind.i64 0, Value.int IntKind.i64 0, Value.int IntKind.i64 3])) w5)) ∧
         ((!b3) = false →
           ∃ I11 : Int → World → Prop, ∃ I12 : Int → World → Nat, (I11 0 w5 ∧
            ∀ n13 : Int,
            ∀ w14 : World,
            (I11 n13 w14 →
              (((decide (n13 < (↑x0n : Int)) = true →
                 ((0 ≤ n13 ∧
                   n13 < (↑x0n : Int)) ∧
                  ∃ a15 : Addr, (x0a = some a15 ∧
                   ∃ l16 : Sl, (World.cell? w14 (Addr.add a15 (Int.toNat n13 * 1)) = some (Value.slice l16.1 l16.2 l16.3) ∧
                    (((decide ((↑l16.2 : Int) > (↑x1n : Int)) = true →
                       Calls Try.prog (80 : Nat) (Array.mk [Value.slice l16.1 l16.2 l16.3, Value.slice x1a x1n x1c]) (w14) (fun e17 w18 =>
                         ∃ b19 : Bool, (e17 = Ending.returned (Value.bool b19) ∧
                          (((b19 = true →
                             R (Value.tuple (Array.mk [Value.int IntKind.i64 0, Value.int IntKind.i64 0, Value.int IntKind.i64 6])) w18)) ∧
                           (b19 = false →
                             (I11 (IntKind.wrap IntKind.i64 (n13 + 1)) w18 ∧
                              I12 (IntKind.wrap IntKind.i64 (n13 + 1)) w18 < I12 n13 w14))))))) ∧
                     (decide ((↑l16.2 : Int) > (↑x1n : Int)) = false →
                       (I11 (IntKind.wrap IntKind.i64 (n13 + 1)) w14 ∧
                        I12 (IntKind.wrap IntKind.i64 (n13 + 1)) w14 < I12 n13 w14)))))))) ∧
               (decide (n13 < (↑x0n : Int)) = false →
                 R (Value.tuple (Array.mk [Value.int IntKind.i64 0, Value.int IntKind.i64 0, Value.int IntKind.i64 3])) w14))))))))))
theorem vc_cartularyref04_Read_ok {x0a : Option Addr} {x0n : Nat} {x0c : Nat} {x1a : Option Addr} {x1n : Nat} {x1c : Nat} {w : World} {R : Value → World → Prop} {R' : Ending → World → Prop} (h : vc_cartularyref04_Read x0a x0n x0c x1a x1n x1c w R) (hR : ∀ v w', R v w' → R' (.returned v) w') :
    Calls Try.prog 77 #[.slice x0a x0n x0c, .slice x1a x1n x1c] w R' :=
  calls_of_body (vs := [(.slice x0a x0n x0c, false), (.slice x1a x1n x1c, false)]) (ty := ty) (ann := ⟨[], [(3, [(7, .bool), (14, .int .i64)]), (13, [(33, .int .i64)])], [], []⟩) (c := Try.f77.body.getD .skip) (by kernel_rfl) Try.func77 (by kernel_rfl) (by kernel_rfl) (Eq.mp (by kernel_rfl) h) hR
/-- cartularyref04.begins -/
def vc_cartularyref04_begins (x0a : Option Addr) (x0n : Nat) (x0c : Nat) (x1a : Option Addr) (x1n : Nat) (x1c : Nat) (w : World) (R : Value → World → Prop) : Prop :=
  (((decide ((↑x1n : Int) > (↑x0n : Int)) = true →
     R (Value.bool false) w)) ∧
   (decide ((↑x1n : Int) > (↑x0n : Int)) = false →
     ∃ I1 : Int → World → Prop, ∃ I2 : Int → World → Nat, (I1 0 w ∧
      ∀ n3 : Int,
      ∀ w4 : World,
      (I1 n3 w4 →
        (((decide (n3 < (↑x1n : Int)) = true →
           ((0 ≤ n3 ∧
             n3 < (↑x1n : Int)) ∧
            ∃ a5 : Addr, (x1a = some a5 ∧
             ∃ b6 : Bool, (World.cell? w4 (Addr.add a5 (Int.toNat n3 * 1)) = some (Value.bool b6) ∧
              ((0 ≤ n3 ∧
                n3 < (↑x0n : Int)) ∧
               ∃ a7 : Addr, (x0a = some a7 ∧
                ∃ b8 : Bool, (World.cell? w4 (Addr.add a7 (Int.toNat n3 * 1)) = some (Value.bool b8) ∧
                 ∀ w9 : World,
                 (Drew w4 w9 →
                   ((((!b6 == b8) = true →
                      R (Value.bool false) w9)) ∧
                    ((!b6 == b8) = false →
                      (I1 (IntKind.wrap IntKind.i64 (n3 + 1)) w9 ∧
                       I2 (IntKind.wrap IntKind.i64 (n3 + 1)) w9 < I2 n3 w4)))))))))))) ∧
         (decide (n3 < (↑x1n : Int)) = false →
           R (Value.bool true) w4))))))
theorem vc_cartularyref04_begins_ok {x0a : Option Addr} {x0n : Nat} {x0c : Nat} {x1a : Option Addr} {x1n : Nat} {x1c : Nat} {w : World} {R : Value → World → Prop} {R' : Ending → World → Prop} (h : vc_cartularyref04_begins x0a x0n x0c x1a x1n x1c w R) (hR : ∀ v w', R v w' → R' (.returned v) w') :
    Calls Try.prog 80 #[.slice x0a x0n x0c, .slice x1a x1n x1c] w R' :=
  calls_of_body (vs := [(.slice x0a x0n x0c, false), (.slice x1a x1n x1c, false)]) (ty := ty) (ann := ⟨[], [(4, [(13, .int .i64)])], [(6, .quiet)], []⟩) (c := Try.f80.body.getD .skip) (by kernel_rfl) Try.func80 (by kernel_rfl) (by kernel_rfl) (Eq.mp (by kernel_rfl) h) hR
end Go.Proofs.Ytofejgaanpaieaa

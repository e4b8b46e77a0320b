/- Formulas of 5 Go functions of this seat (written by a program of the author's, vcgen.py), and that each is enough for the call. No condition. -/
import Derived.Test.YtoagdpjickippaaTy
import Derived.Test.YtoagdpjickippaaProg
set_option linter.unusedVariables false
namespace Go.Proofs.Ytoagdpjickippaa
open Go Vc Go.Proofs
set_option maxRecDepth 100000
/-- cartularyref02.turn -/
def vc_cartularyref02_turn (x0 : Int) (x1 : Int) (w : World) (R : Value → World → Prop) : Prop :=
  (0 ≤ x1 ∧
   (0 ≤ IntKind.wrap IntKind.i64 (32 - x1) ∧
    ∀ w1 : World,
    (Drew w w1 →
      R (Value.int IntKind.u32 (IntKind.wrap IntKind.u32 (↑(BitVec.toNat (BitVec.ofInt 32 (IntKind.wrap IntKind.u32 (x0 * 2 ^ min (Int.toNat x1) 32)) ||| BitVec.ofInt 32 (Int.fdiv x0 (2 ^ min (Int.toNat (IntKind.wrap IntKind.i64 (32 - x1))) 32)))) : Int))) w1)))
theorem vc_cartularyref02_turn_ok {x0 : Int} {x1 : Int} {w : World} {R : Value → World → Prop} {R' : Ending → World → Prop} (h : vc_cartularyref02_turn x0 x1 w R) (hR : ∀ v w', R v w' → R' (.returned v) w') :
    Calls Try.prog 51 #[.int .u32 x0, .int .i64 x1] w R' :=
  calls_of_body (vs := [(.int .u32 x0, false), (.int .i64 x1, false)]) (ty := ty) (ann := ⟨[], [], [(1, .quiet)], []⟩) (c := Try.f51.body.getD .skip) (by kernel_rfl) Try.func51 (by kernel_rfl) (by kernel_rfl) (Eq.mp (by kernel_rfl) h) hR
/-- cartularyref02.Pad -/
def vc_cartularyref02_Pad (x0 : ByteArray) (w : World) (R : Value → World → Prop) : Prop :=
  ∃ w1 : World, ∃ l2 : Sl, (Sem.run Try.prog (convert 9 68 (Value.string x0)) w = Result.ok (Value.slice l2.1 l2.2 l2.3) w1 ∧
   ∀ w3 : World,
   (w3 = World.alloc w1 (Obj.cells (Array.mk [Value.int IntKind.u8 128]) 5) →
     ∃ w4 : World, ∃ l5 : Sl, (Sem.run Try.prog (Builtin.append_ (Array.mk [68, 68]) 68 (Array.mk [Value.slice l2.1 l2.2 l2.3, Value.slice (some (Addr.mk (Array.size (World.heap w1)) 0 none)) 1 1])) w3 = Result.ok (Value.slice l5.1 l5.2 l5.3) w4 ∧
      ∃ I6 : Sl → World → Prop, ∃ I7 : Sl → World → Nat, (I6 (Sl.mk l5.1 l5.2 l5.3) w4 ∧
       ∀ l8 : Sl,
       ∀ w9 : World,
       (I6 l8 w9 →
         ((64 : Int) ≠ (0 : Int) ∧
          ((((Int.tmod (↑l8.2 : Int) 64 != 56) = true →
             ∀ w10 : World,
             (w10 = World.alloc w9 (Obj.cells (Array.mk [Value.int IntKind.u8 0]) 5) →
               ∃ w11 : World, ∃ l12 : Sl, (Sem.run Try.prog (Builtin.append_ (Array.mk [68, 68]) 68 (Array.mk [Value.slice l8.1 l8.2 l8.3, Value.slice (some (Addr.mk (Array.size (World.heap w9)) 0 none)) 1 1])) w10 = Result.ok (Value.slice l12.1 l12.2 l12.3) w11 ∧
                (I6 (Sl.mk l12.1 l12.2 l12.3) w11 ∧
                 I7 (Sl.mk l12.1 l12.2 l12.3) w11 < I7 l8 w9))))) ∧
           ((Int.tmod (↑l8.2 : Int) 64 != 56) = false →
             ∃ I13 : Sl → Int → World → Prop, ∃ I14 : Sl → Int → World → Nat, (I13 (Sl.mk l8.1 l8.2 l8.3) 7 w9 ∧
              ∀ l15 : Sl,
              ∀ n16 : Int,
              ∀ w17 : World,
              (I13 l15 n16 w17 →
                (((decide (n16 ≥ 0) = true →
                   (0 ≤ IntKind.wrap IntKind.i64 (8 * n16) ∧
                    ∀ w18 : World,
                    (w18 = World.alloc w17 (Obj.cells (Array.mk [Value.int IntKind.u8 (IntKind.wrap IntKind.u8 (Int.fdiv (IntKind.wrap IntKind.u64 (IntKind.wrap IntKind.u64 (↑(ByteArray.size x0) : Int) * 8)) (2 ^ min (Int.toNat (IntKind.wrap IntKind.i64 (8 * n16))) 64)))]) 5) →
                      ∃ w19 : World, ∃ l20 : Sl, (Sem.run Try.prog (Builtin.append_ (Array.mk [68, 68]) 68 (Array.mk [Value.slice l15.1 l15.2 l15.3, Value.slice (some (Addr.mk (Array.size (World.heap w17)) 0 none)) 1 1])) w18 = Result.ok (Value.slice l20.1 l20.2 l20.3) w19 ∧
                       (I13 (Sl.mk l20.1 l20.2 l20.3) (IntKind.wrap IntKind.i64 (n16 - 1)) w19 ∧
                        I14 (Sl.mk l20.1 l20.2 l20.3) (IntKind.wrap IntKind.i64 (n16 - 1)) w19 < I14 l15 n16 w17)))))) ∧
                 (decide (n16 ≥ 0) = false →
                   R (Value.slice l15.1 l15.2 l15.3) w17))))))))))))
theorem vc_cartularyref02_Pad_ok {x0 : ByteArray} {w : World} {R : Value → World → Prop} {R' : Ending → World → Prop} (h : vc_cartularyref02_Pad x0 w R) (hR : ∀ v w', R v w' → R' (.returned v) w') :
    Calls Try.prog 49 #[.string x0] w R' :=
  calls_of_body (vs := [(.string x0, false)]) (ty := ty) (ann := ⟨[], [(2, [(3, .slice)]), (6, [(3, .slice), (5, .int .i64)])], [], []⟩) (c := Try.f49.body.getD .skip) (by kernel_rfl) Try.func49 (by kernel_rfl) (by kernel_rfl) (Eq.mp (by kernel_rfl) h) hR
/-- cartularyref02.words -/
def vc_cartularyref02_words (x0a : Option Addr) (x0n : Nat) (x0c : Nat) (w : World) (R : Value → World → Prop) : Prop :=
  ∀ w1 : World,
  (w1 = World.alloc w (Obj.cells (Array.mk []) 30) →
    ∃ I2 : Sl → Int → World → Prop, ∃ I3 : Sl → Int → World → Nat, (I2 (Sl.mk (some (Addr.mk (Array.size (World.heap w)) 0 none)) 0 0) 0 w1 ∧
     ∀ l4 : Sl,
     ∀ n5 : Int,
     ∀ w6 : World,
     (I2 l4 n5 w6 →
       (((decide (n5 < 64) = true →
          ∀ w7 : World,
          (Drew w6 w7 →
            ∃ I8 : World → Prop, (I8 w7 ∧
             ((0 ≤ n5 ∧
               n5 < (↑x0n : Int)) ∧
              ∃ a9 : Addr, (x0a = some a9 ∧
               ∃ n10 : Int, ((∀ w11 : World,
                (I8 w11 →
                  World.cell? w11 (Addr.add a9 (Int.toNat n5 * 1)) = some (Value.int IntKind.u8 n10))) ∧
                ((0 ≤ IntKind.wrap IntKind.i64 (n5 + 1) ∧
                  IntKind.wrap IntKind.i64 (n5 + 1) < (↑x0n : Int)) ∧
                 ∃ a12 : Addr, (x0a = some a12 ∧
                  ∃ n13 : Int, ((∀ w14 : World,
                   (I8 w14 →
                     World.cell? w14 (Addr.add a12 (Int.toNat (IntKind.wrap IntKind.i64 (n5 + 1)) * 1)) = some (Value.int IntKind.u8 n13))) ∧
                   ((0 ≤ IntKind.wrap IntKind.i64 (n5 + 2) ∧
                     IntKind.wrap IntKind.i64 (n5 + 2) < (↑x0n : Int)) ∧
                    ∃ a15 : Addr, (x0a = some a15 ∧
                     ∃ n16 : Int, ((∀ w17 : World,
                      (I8 w17 →
                        World.cell? w17 (Addr.add a15 (Int.toNat (IntKind.wrap IntKind.i64 (n5 + 2)) * 1)) = some (Value.int IntKind.u8 n16))) ∧
                      ((0 ≤ IntKind.wrap IntKind.i64 (n5 + 3) ∧
                        IntKind.wrap IntKind.i64 (n5 + 3) < (↑x0n : Int)) ∧
                       ∃ a18 : Addr, (x0a = some a18 ∧
                        ∃ n19 : Int, ((∀ w20 : World,
                         (I8 w20 →
                           World.cell? w20 (Addr.add a18 (Int.toNat (IntKind.wrap IntKind.i64 (n5 + 3)) * 1)) = some (Value.int IntKind.u8 n19))) ∧
                         ∀ w21 : World,
                         (w21 = World.alloc w7 (Obj.cells (Array.mk [Value.int IntKind.u32 (IntKind.wrap IntKind.u32 (IntKind.wrap IntKind.u32 (IntKind.wrap IntKind.u32 (IntKind.wrap IntKind.u32 (IntKind.wrap IntKind.u32 n10 * 16777216) + IntKind.wrap IntKind.u32 (IntKind.wrap IntKind.u32 n13 * 65536)) + IntKind.wrap IntKind.u32 (IntKind.wrap IntKind.u32 n16 * 256)) + IntKind.wrap IntKind.u32 n19))]) 30) →
                           (I8 w21 ∧
                            ∃ w22 : World, ∃ l23 : Sl, (Sem.run Try.prog (Builtin.append_ (Array.mk [77, 77]) 77 (Array.mk [Value.slice l4.1 l4.2 l4.3, Value.slice (some (Addr.mk (Array.size (World.heap w7)) 0 none)) 1 1])) w21 = Result.ok (Value.slice l23.1 l23.2 l23.3) w22 ∧
                             (I8 w22 ∧
                              (I2 (Sl.mk l23.1 l23.2 l23.3) (IntKind.wrap IntKind.i64 (n5 + 4)) w22 ∧
                               I3 (Sl.mk l23.1 l23.2 l23.3) (IntKind.wrap IntKind.i64 (n5 + 4)) w22 < I3 l4 n5 w6))))))))))))))))))))) ∧
        (decide (n5 < 64) = false →
          R (Value.slice l4.1 l4.2 l4.3) w6)))))
theorem vc_cartularyref02_words_ok {x0a : Option Addr} {x0n : Nat} {x0c : Nat} {w : World} {R : Value → World → Prop} {R' : Ending → World → Prop} (h : vc_cartularyref02_words x0a x0n x0c w R) (hR : ∀ v w', R v w' → R' (.returned v) w') :
    Calls Try.prog 50 #[.slice x0a x0n x0c] w R' :=
  calls_of_body (vs := [(.slice x0a x0n x0c, false)]) (ty := ty) (ann := ⟨[], [(3, [(3, .slice), (4, .int .i64)])], [(5, .held [(0, true), (1, true), (2, true), (3, true), (4, true), (5, true), (6, true), (7, true), (8, true), (9, true), (10, true), (11, true), (12, true), (13, true), (14, true), (15, true), (16, true), (17, true), (18, true), (19, true), (20, true), (21, true), (22, true), (23, true), (24, true), (25, true), (26, true), (27, true), (28, true), (29, true), (30, false), (31, false), (32, true)])], []⟩) (c := Try.f50.body.getD .skip) (by kernel_rfl) Try.func50 (by kernel_rfl) (by kernel_rfl) (Eq.mp (by kernel_rfl) h) hR
/-- cartularyref02.out -/
def vc_cartularyref02_out (x0a : Option Addr) (x0n : Nat) (x0c : Nat) (w : World) (R : Value → World → Prop) : Prop :=
  ∀ w1 : World,
  (w1 = World.alloc w (Obj.cells (Array.mk []) 5) →
    ∃ I2 : Sl → Int → World → Prop, ∃ I3 : Sl → Int → World → Nat, (I2 (Sl.mk (some (Addr.mk (Array.size (World.heap w)) 0 none)) 0 0) 0 w1 ∧
     ∀ l4 : Sl,
     ∀ n5 : Int,
     ∀ w6 : World,
     (I2 l4 n5 w6 →
       (((decide (n5 < (↑x0n : Int)) = true →
          ((0 ≤ n5 ∧
            n5 < (↑x0n : Int)) ∧
           ∃ a7 : Addr, (x0a = some a7 ∧
            ∃ n8 : Int, (World.cell? w6 (Addr.add a7 (Int.toNat n5 * 1)) = some (Value.int IntKind.u32 n8) ∧
             ((0 : Int) ≤ (24 : Int) ∧
              ((0 : Int) ≤ (16 : Int) ∧
               ((0 : Int) ≤ (8 : Int) ∧
                ∀ w9 : World,
                (w9 = World.alloc w6 (Obj.cells (Array.mk [Value.int IntKind.u8 (IntKind.wrap IntKind.u8 (Int.fdiv n8 (2 ^ min (Int.toNat 24) 32))), Value.int IntKind.u8 (IntKind.wrap IntKind.u8 (Int.fdiv n8 (2 ^ min (Int.toNat 16) 32))), Value.int IntKind.u8 (IntKind.wrap IntKind.u8 (Int.fdiv n8 (2 ^ min (Int.toNat 8) 32))), Value.int IntKind.u8 (IntKind.wrap IntKind.u8 n8)]) 5) →
                  ∃ w10 : World, ∃ l11 : Sl, (Sem.run Try.prog (Builtin.append_ (Array.mk [68, 68]) 68 (Array.mk [Value.slice l4.1 l4.2 l4.3, Value.slice (some (Addr.mk (Array.size (World.heap w6)) 0 none)) 4 4])) w9 = Result.ok (Value.slice l11.1 l11.2 l11.3) w10 ∧
                   (I2 (Sl.mk l11.1 l11.2 l11.3) (IntKind.wrap IntKind.i64 (n5 + 1)) w10 ∧
                    I3 (Sl.mk l11.1 l11.2 l11.3) (IntKind.wrap IntKind.i64 (n5 + 1)) w10 < I3 l4 n5 w6))))))))))) ∧
        (decide (n5 < (↑x0n : Int)) = false →
          ∃ w12 : World, ∃ s13 : ByteArray, (Sem.run Try.prog (convert 68 9 (Value.slice l4.1 l4.2 l4.3)) w6 = Result.ok (Value.string s13) w12 ∧
           R (Value.string s13) w12))))))
theorem vc_cartularyref02_out_ok {x0a : Option Addr} {x0n : Nat} {x0c : Nat} {w : World} {R : Value → World → Prop} {R' : Ending → World → Prop} (h : vc_cartularyref02_out x0a x0n x0c w R) (hR : ∀ v w', R v w' → R' (.returned v) w') :
    Calls Try.prog 52 #[.slice x0a x0n x0c] w R' :=
  calls_of_body (vs := [(.slice x0a x0n x0c, false)]) (ty := ty) (ann := ⟨[], [(3, [(3, .slice), (9, .int .i64)])], [], []⟩) (c := Try.f52.body.getD .skip) (by kernel_rfl) Try.func52 (by kernel_rfl) (by kernel_rfl) (Eq.mp (by kernel_rfl) h) hR
/-- cartularyref02.Sum1 -/
def vc_cartularyref02_Sum1 (x0 : ByteArray) (w : World) (R : Value → World → Prop) : Prop :=
  Calls Try.prog (49 : Nat) (Array.mk [Value.string x0]) (w) (fun e1 w2 =>
    ∃ l3 : Sl, (e1 = Ending.returned (Value.slice l3.1 l3.2 l3.3) ∧
     ∀ w4 : World,
     (w4 = World.alloc w2 (Obj.cells (Array.mk [Value.int IntKind.u32 1732584193, Value.int IntKind.u32 4023233417, Value.int IntKind.u32 2562383102, Value.int IntKind.u32 271733878, Value.int IntKind.u32 3285377520]) 30) →
       ∃ I5 : Sl → Int → World → Prop, ∃ I6 : Sl → Int → World → Nat, (I5 (Sl.mk (some (Addr.mk (Array.size (World.heap w2)) 0 none)) 5 5) 0 w4 ∧
        ∀ l7 : Sl,
        ∀ n8 : Int,
        ∀ w9 : World,
        (I5 l7 n8 w9 →
          (((decide (n8 < (↑l3.2 : Int)) = true →
             ((0 ≤ n8 ∧
               (n8 ≤ IntKind.wrap IntKind.i64 (n8 + 64) ∧
                IntKind.wrap IntKind.i64 (n8 + 64) ≤ (↑l3.3 : Int))) ∧
              Calls Try.prog (50 : Nat) (Array.mk [Value.slice (subA l3.1 l3.3 (Int.toNat n8) 1) (Int.toNat (IntKind.wrap IntKind.i64 (n8 + 64)) - Int.toNat n8) (l3.3 - Int.toNat n8)]) (w9) (fun e10 w11 =>
                ∃ l12 : Sl, (e10 = Ending.returned (Value.slice l12.1 l12.2 l12.3) ∧
                 ∃ I13 : Sl → Int → World → Prop, ∃ I14 : Sl → Int → World → Nat, (I13 (Sl.mk l12.1 l12.2 l12.3) 16 w11 ∧
                  ∀ l15 : Sl,
                  ∀ n16 : Int,
                  ∀ w17 : World,
                  (I13 l15 n16 w17 →
                    (((decide (n16 < 80) = true →
                       ∀ w18 : World,
                       (Drew w17 w18 →
                         ∃ I19 : World → Prop, (I19 w18 ∧
                          ((0 ≤ IntKind.wrap IntKind.i64 (n16 - 3) ∧
                            IntKind.wrap IntKind.i64 (n16 - 3) < (↑l15.2 : Int)) ∧
                           ∃ a20 : Addr, (l15.1 = some a20 ∧
                            ∃ n21 : Int, ((∀ w22 : World,
                             (I19 w22 →
                               World.cell? w22 (Addr.add a20 (Int.toNat (IntKind.wrap IntKind.i64 (n16 - 3)) * 1)) = some (Value.int IntKind.u32 n21))) ∧
                             ((0 ≤ IntKind.wrap IntKind.i64 (n16 - 8) ∧
                               IntKind.wrap IntKind.i64 (n16 - 8) < (↑l15.2 : Int)) ∧
                              ∃ a23 : Addr, (l15.1 = some a23 ∧
                               ∃ n24 : Int, ((∀ w25 : World,
                                (I19 w25 →
                                  World.cell? w25 (Addr.add a23 (Int.toNat (IntKind.wrap IntKind.i64 (n16 - 8)) * 1)) = some (Value.int IntKind.u32 n24))) ∧
                                ((0 ≤ IntKind.wrap IntKind.i64 (n16 - 14) ∧
                                  IntKind.wrap IntKind.i64 (n16 - 14) < (↑l15.2 : Int)) ∧
                                 ∃ a26 : Addr, (l15.1 = some a26 ∧
                                  ∃ n27 : Int, ((∀ w28 : World,
                                   (I19 w28 →
                                     World.cell? w28 (Addr.add a26 (Int.toNat (IntKind.wrap IntKind.i64 (n16 - 14)) * 1)) = some (Value.int IntKind.u32 n27))) ∧
                                   ((0 ≤ IntKind.wrap IntKind.i64 (n16 - 16) ∧
                                     IntKind.wrap IntKind.i64 (n16 - 16) < (↑l15.2 : Int)) ∧
                                    ∃ a29 : Addr, (l15.1 = some a29 ∧
                                     ∃ n30 : Int, ((∀ w31 : World,
                                      (I19 w31 →
                                        World.cell? w31 (Addr.add a29 (Int.toNat (IntKind.wrap IntKind.i64 (n16 - 16)) * 1)) = some (Value.int IntKind.u32 n30))) ∧
                                      Calls Try.prog (51 : Nat) (Array.mk [Value.int IntKind.u32 (IntKind.wrap IntKind.u32 (↑(BitVec.toNat (BitVec.ofInt 32 (IntKind.wrap IntKind.u32 (↑(BitVec.toNat (BitVec.ofInt 32 (IntKind.wrap IntKind.u32 (↑(BitVec.toNat (BitVec.ofInt 32 n21 ^^^ BitVec.ofInt 32 n24)) : Int)) ^^^ BitVec.ofInt 32 n27)) : Int)) ^^^ BitVec.ofInt 32 n30)) : Int)), Value.int IntKind.i64 1]) (w18) (fun e32 w33 =>
                                        ∃ n34 : Int, (e32 = Ending.returned (Value.int IntKind.u32 n34) ∧
                                         (I19 w33 ∧
                                          ∀ w35 : World,
                                          (w35 = World.alloc w33 (Obj.cells (Array.mk [Value.int IntKind.u32 n34]) 30) →
                                            (I19 w35 ∧
                                             ∃ w36 : World, ∃ l37 : Sl, (Sem.run Try.prog (Builtin.append_ (Array.mk [77, 77]) 77 (Array.mk [Value.slice l15.1 l15.2 l15.3, Value.slice (some (Addr.mk (Array.size (World.heap w33)) 0 none)) 1 1])) w35 = Result.ok (Value.slice l37.1 l37.2 l37.3) w36 ∧
                                              (I19 w36 ∧
                                               (I13 (Sl.mk l37.1 l37.2 l37.3) (IntKind.wrap IntKind.i64 (n16 + 1)) w36 ∧
                                                I14 (Sl.mk l37.1 l37.2 l37.3) (IntKind.wrap IntKind.i64 (n16 + 1)) w36 < I14 l15 n16 w17)))))))))))))))))))))))) ∧
                     (decide (n16 < 80) = false →
                       (((0 : Int) ≤ (0 : Int) ∧
                         0 < (↑l7.2 : Int)) ∧
                        ∃ a38 : Addr, (l7.1 = some a38 ∧
                         ∃ n39 : Int, (World.cell? w17 (Addr.add a38 (Int.toNat 0 * 1)) = some (Value.int IntKind.u32 n39) ∧
                          (((0 : Int) ≤ (1 : Int) ∧
                            1 < (↑l7.2 : Int)) ∧
                           ∃ a40 : Addr, (l7.1 = some a40 ∧
                            ∃ n41 : Int, (World.cell? w17 (Addr.add a40 (Int.toNat 1 * 1)) = some (Value.int IntKind.u32 n41) ∧
                             (((0 : Int) ≤ (2 : Int) ∧
                               2 < (↑l7.2 : Int)) ∧
                              ∃ a42 : Addr, (l7.1 = some a42 ∧
                               ∃ n43 : Int, (World.cell? w17 (Addr.add a42 (Int.toNat 2 * 1)) = some (Value.int IntKind.u32 n43) ∧
                                (((0 : Int) ≤ (3 : Int) ∧
                                  3 < (↑l7.2 : Int)) ∧
                                 ∃ a44 : Addr, (l7.1 = some a44 ∧
                                  ∃ n45 : Int, (World.cell? w17 (Addr.add a44 (Int.toNat 3 * 1)) = some (Value.int IntKind.u32 n45) ∧
                                   (((0 : Int) ≤ (4 : Int) ∧
                                     4 < (↑l7.2 : Int)) ∧
                                    ∃ a46 : Addr, (l7.1 = some a46 ∧
                                     ∃ n47 : Int, (World.cell? w17 (Addr.add a46 (Int.toNat 4 * 1)) = some (Value.int IntKind.u32 n47) ∧
                                      ∀ w48 : World,
                                      (Drew w17 w48 →
                                        ∃ I49 : Int → Int → Int → Int → Int → Int → World → Prop, ∃ I50 : Int → Int → Int → Int → Int → Int → World → Nat, (I49 n39 n41 n43 n45 n47 0 w48 ∧
                                         ∀ n51 : Int,
                                         ∀ n52 : Int,
                                         ∀ n53 : Int,
                                         ∀ n54 : Int,
                                         ∀ n55 : Int,
                                         ∀ n56 : Int,
                                         ∀ w57 : World,
                                         (I49 n51 n52 n53 n54 n55 n56 w57 →
                                           (((decide (n56 < 80) = true →
                                              ∃ I58 : Int → Int → World → Prop, ((((decide (n56 < 60) = true →
                                                  I58 (IntKind.wrap IntKind.u32 (↑(BitVec.toNat (BitVec.ofInt 32 (IntKind.wrap IntKind.u32 (↑(BitVec.toNat (BitVec.ofInt 32 (IntKind.wrap IntKind.u32 (↑(BitVec.toNat (BitVec.ofInt 32 n52 &&& BitVec.ofInt 32 n53)) : Int)) ||| BitVec.ofInt 32 (IntKind.wrap IntKind.u32 (↑(BitVec.toNat (BitVec.ofInt 32 n52 &&& BitVec.ofInt 32 n54)) : Int)))) : Int)) ||| BitVec.ofInt 32 (IntKind.wrap IntKind.u32 (↑(BitVec.toNat (BitVec.ofInt 32 n53 &&& BitVec.ofInt 32 n54)) : Int)))) : Int)) 2400959708 w57)) ∧
                                                (decide (n56 < 60) = false →
                                                  I58 (IntKind.wrap IntKind.u32 (↑(BitVec.toNat (BitVec.ofInt 32 (IntKind.wrap IntKind.u32 (↑(BitVec.toNat (BitVec.ofInt 32 n52 ^^^ BitVec.ofInt 32 n53)) : Int)) ^^^ BitVec.ofInt 32 n54)) : Int)) 3395469782 w57)) ∧
                                               ∀ n59 : Int,
                                               ∀ n60 : Int,
                                               ∀ w61 : World,
                                               (I58 n59 n60 w61 →
                                                 ∃ I62 : Int → Int → World → Prop, ((((decide (n56 < 40) = true →
                                                     I62 (IntKind.wrap IntKind.u32 (↑(BitVec.toNat (BitVec.ofInt 32 (IntKind.wrap IntKind.u32 (↑(BitVec.toNat (BitVec.ofInt 32 n52 ^^^ BitVec.ofInt 32 n53)) : Int)) ^^^ BitVec.ofInt 32 n54)) : Int)) 1859775393 w61)) ∧
                                                   (decide (n56 < 40) = false →
                                                     I62 n59 n60 w61)) ∧
                                                  ∀ n63 : Int,
                                                  ∀ n64 : Int,
                                                  ∀ w65 : World,
                                                  (I62 n63 n64 w65 →
                                                    ∃ I66 : Int → Int → World → Prop, ((((decide (n56 < 20) = true →
                                                        I66 (IntKind.wrap IntKind.u32 (↑(BitVec.toNat (BitVec.ofInt 32 (IntKind.wrap IntKind.u32 (↑(BitVec.toNat (BitVec.ofInt 32 n52 &&& BitVec.ofInt 32 n53)) : Int)) ||| BitVec.ofInt 32 (IntKind.wrap IntKind.u32 (↑(BitVec.toNat (BitVec.ofInt 32 (IntKind.wrap IntKind.u32 (↑(BitVec.toNat (BitVec.ofInt 32 n52 ^^^ BitVec.ofInt 32 4294967295)) : Int)) &&& BitVec.ofInt 32 n54)) : Int)))) : Int)) 1518500249 w65)) ∧
                                                      (decide (n56 < 20) = false →
                                                        I66 n63 n64 w65)) ∧
                                                     ∀ n67 : Int,
                                                     ∀ n68 : Int,
                                                     ∀ w69 : World,
                                                     (I66 n67 n68 w69 →
                                                       ∀ w70 : World,
                                                       (Drew w69 w70 →
                                                         ∃ I71 : World → Prop, (I71 w70 ∧
                                                          ((0 ≤ n56 ∧
                                                            n56 < (↑l15.2 : Int)) ∧
                                                           ∃ a72 : Addr, (l15.1 = some a72 ∧
                                                            ∃ n73 : Int, ((∀ w74 : World,
                                                             (I71 w74 →
                                                               World.cell? w74 (Addr.add a72 (Int.toNat n56 * 1)) = some (Value.int IntKind.u32 n73))) ∧
                                                             Calls Try.prog (51 : Nat) (Array.mk [Value.int IntKind.u32 n51, Value.int IntKind.i64 5]) (w70) (fun e75 w76 =>
                                                               ∃ n77 : Int, (e75 = Ending.returned (Value.int IntKind.u32 n77) ∧
                                                                (I71 w76 ∧
                                                                 Calls Try.prog (51 : Nat) (Array.mk [Value.int IntKind.u32 n52, Value.int IntKind.i64 30]) (w76) (fun e78 w79 =>
                                                                   ∃ n80 : Int, (e78 = Ending.returned (Value.int IntKind.u32 n80) ∧
                                                                    (I49 (IntKind.wrap IntKind.u32 (IntKind.wrap IntKind.u32 (IntKind.wrap IntKind.u32 (IntKind.wrap IntKind.u32 (n77 + n67) + n55) + n68) + n73)) n51 n80 n53 n54 (IntKind.wrap IntKind.i64 (n56 + 1)) w79 ∧
                                                                     I50 (IntKind.wrap IntKind.u32 (IntKind.wrap IntKind.u32 (IntKind.wrap IntKind.u32 (IntKind.wrap IntKind.u32 (n77 + n67) + n55) + n68) + n73)) n51 n80 n53 n54 (IntKind.wrap IntKind.i64 (n56 + 1)) w79 < I50 n51 n52 n53 n54 n55 n56 w57))))))))))))))))))) ∧
                                            (decide (n56 < 80) = false →
                                              ∀ w81 : World,
                                              (Drew w57 w81 →
                                                (((0 : Int) ≤ (0 : Int) ∧
                                                  0 < (↑l7.2 : Int)) ∧
                                                 ∃ a82 : Addr, (l7.1 = some a82 ∧
                                                  ∃ n83 : Int, (World.cell? w81 (Addr.add a82 (Int.toNat 0 * 1)) = some (Value.int IntKind.u32 n83) ∧
                                                   (((0 : Int) ≤ (1 : Int) ∧
                                                     1 < (↑l7.2 : Int)) ∧
                                                    ∃ a84 : Addr, (l7.1 = some a84 ∧
                                                     ∃ n85 : Int, (World.cell? w81 (Addr.add a84 (Int.toNat 1 * 1)) = some (Value.int IntKind.u32 n85) ∧
                                                      (((0 : Int) ≤ (2 : Int) ∧
                                                        2 < (↑l7.2 : Int)) ∧
                                                       ∃ a86 : Addr, (l7.1 = some a86 ∧
                                                        ∃ n87 : Int, (World.cell? w81 (Addr.add a86 (Int.toNat 2 * 1)) = some (Value.int IntKind.u32 n87) ∧
                                                         (((0 : Int) ≤ (3 : Int) ∧
                                                           3 < (↑l7.2 : Int)) ∧
                                                          ∃ a88 : Addr, (l7.1 = some a88 ∧
                                                           ∃ n89 : Int, (World.cell? w81 (Addr.add a88 (Int.toNat 3 * 1)) = some (Value.int IntKind.u32 n89) ∧
                                                            (((0 : Int) ≤ (4 : Int) ∧
                                                              4 < (↑l7.2 : Int)) ∧
                                                             ∃ a90 : Addr, (l7.1 = some a90 ∧
                                                              ∃ n91 : Int, (World.cell? w81 (Addr.add a90 (Int.toNat 4 * 1)) = some (Value.int IntKind.u32 n91) ∧
                                                               ∀ w92 : World,
                                                               (w92 = World.alloc w81 (Obj.cells (Array.mk [Value.int IntKind.u32 (IntKind.wrap IntKind.u32 (n83 + n51)), Value.int IntKind.u32 (IntKind.wrap IntKind.u32 (n85 + n52)), Value.int IntKind.u32 (IntKind.wrap IntKind.u32 (n87 + n53)), Value.int IntKind.u32 (IntKind.wrap IntKind.u32 (n89 + n54)), Value.int IntKind.u32 (IntKind.wrap IntKind.u32 (n91 + n55))]) 30) →
                                                                 (I5 (Sl.mk (some (Addr.mk (Array.size (World.heap w81)) 0 none)) 5 5) (IntKind.wrap IntKind.i64 (n8 + 64)) w92 ∧
                                                                  I6 (Sl.mk (some (Addr.mk (Array.size (World.heap w81)) 0 none)) 5 5) (IntKind.wrap IntKind.i64 (n8 + 64)) w92 < I6 l7 n8 w9))))))))))))))))))))))))))))))))))))))))))))))) ∧
           (decide (n8 < (↑l3.2 : Int)) = false →
             Calls Try.prog (52 : Nat) (Array.mk [Value.slice l7.1 l7.2 l7.3]) (w9) (fun e93 w94 =>
               ∃ s95 : ByteArray, (e93 = Ending.returned (Value.string s95) ∧
                R (Value.string s95) w94)))))))))
theorem vc_cartularyref02_Sum1_ok {x0 : ByteArray} {w : World} {R : Value → World → Prop} {R' : Ending → World → Prop} (h : vc_cartularyref02_Sum1 x0 w R) (hR : ∀ v w', R v w' → R' (.returned v) w') :
    Calls Try.prog 34 #[.string x0] w R' :=
  calls_of_body (vs := [(.string x0, false)]) (ty := ty) (ann := ⟨[(19, [(14, .int .u32), (15, .int .u32)]), (22, [(14, .int .u32), (15, .int .u32)]), (25, [(14, .int .u32), (15, .int .u32)])], [(4, [(4, .slice), (5, .int .i64)]), (8, [(6, .slice), (7, .int .i64)]), (13, [(8, .int .u32), (9, .int .u32), (10, .int .u32), (11, .int .u32), (12, .int .u32), (13, .int .i64)])], [(10, .held [(0, true), (1, true), (2, true), (3, true), (4, true), (5, true), (6, true), (7, true), (8, true), (9, true), (10, true), (11, true), (12, true), (13, true), (14, true), (15, true), (16, true), (17, true), (18, true), (19, true), (20, true), (21, true), (22, true), (23, true), (24, false), (25, false), (26, false), (27, true)]), (11, .quiet), (25, .held [(0, true), (2, true), (4, true), (6, true), (8, true), (9, true), (10, true), (11, true), (1, false), (3, true), (5, true), (7, true), (12, true), (13, true)]), (31, .tail 25)], []⟩) (c := Try.f34.body.getD .skip) (by kernel_rfl) Try.func34 (by kernel_rfl) (by kernel_rfl) (Eq.mp (by kernel_rfl) h) hR
end Go.Proofs.Ytoagdpjickippaa

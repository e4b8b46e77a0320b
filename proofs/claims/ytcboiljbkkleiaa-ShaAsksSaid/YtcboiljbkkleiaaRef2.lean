/- Formulas of 12 Go functions of this seat (written by a program of the author's, vcgen.py), and that each is enough for the call. No condition. -/
import Derived.Test.YtcboiljbkkleiaaTy
import Derived.Test.YtcboiljbkkleiaaProg
set_option linter.unusedVariables false
namespace Go.Proofs.Ytcboiljbkkleiaa
open Go Vc Go.Proofs
set_option maxRecDepth 100000
/-- cartularyref02.turn -/
def vc_cartularyref02_turn (x0 : Int) (x1 : Int) (w : World) (R : Value → World → Prop) : Prop :=
  (0 ≤ x1 ∧
   (0 ≤ IntKind.wrap IntKind.i64 (32 - x1) ∧
    ∀ w1 : World,
    (Drew w w1 →
      R (Value.int IntKind.u32 (IntKind.wrap IntKind.u32 (↑(BitVec.toNat (BitVec.ofInt 32 (IntKind.wrap IntKind.u32 (x0 * 2 ^ min (Int.toNat x1) 32)) ||| BitVec.ofInt 32 (Int.fdiv x0 (2 ^ min (Int.toNat (IntKind.wrap IntKind.i64 (32 - x1))) 32)))) : Int))) w1)))
theorem vc_cartularyref02_turn_ok {x0 : Int} {x1 : Int} {w : World} {R : Value → World → Prop} {R' : Ending → World → Prop} (h : vc_cartularyref02_turn x0 x1 w R) (hR : ∀ v w', R v w' → R' (.returned v) w') :
    Calls Try.prog 59 #[.int .u32 x0, .int .i64 x1] w R' :=
  calls_of_body (vs := [(.int .u32 x0, false), (.int .i64 x1, false)]) (ty := ty) (ann := ⟨[], [], [(1, .quiet)], []⟩) (c := Try.f59.body.getD .skip) (by kernel_rfl) Try.func59 (by kernel_rfl) (by kernel_rfl) (Eq.mp (by kernel_rfl) h) hR
/-- cartularyref02.Pad -/
def vc_cartularyref02_Pad (x0 : ByteArray) (w : World) (R : Value → World → Prop) : Prop :=
  ∃ w1 : World, ∃ l2 : Sl, (Sem.run Try.prog (convert 9 57 (Value.string x0)) w = Result.ok (Value.slice l2.1 l2.2 l2.3) w1 ∧
   ∀ w3 : World,
   (w3 = World.alloc w1 (Obj.cells (Array.mk [Value.int IntKind.u8 128]) 5) →
     ∃ w4 : World, ∃ l5 : Sl, (Sem.run Try.prog (Builtin.append_ (Array.mk [57, 57]) 57 (Array.mk [Value.slice l2.1 l2.2 l2.3, Value.slice (some (Addr.mk (Array.size (World.heap w1)) 0 none)) 1 1])) w3 = Result.ok (Value.slice l5.1 l5.2 l5.3) w4 ∧
      ∃ I6 : Sl → World → Prop, ∃ I7 : Sl → World → Nat, (I6 (Sl.mk l5.1 l5.2 l5.3) w4 ∧
       ∀ l8 : Sl,
       ∀ w9 : World,
       (I6 l8 w9 →
         ((64 : Int) ≠ (0 : Int) ∧
          ((((Int.tmod (↑l8.2 : Int) 64 != 56) = true →
             ∀ w10 : World,
             (w10 = World.alloc w9 (Obj.cells (Array.mk [Value.int IntKind.u8 0]) 5) →
               ∃ w11 : World, ∃ l12 : Sl, (Sem.run Try.prog (Builtin.append_ (Array.mk [57, 57]) 57 (Array.mk [Value.slice l8.1 l8.2 l8.3, Value.slice (some (Addr.mk (Array.size (World.heap w9)) 0 none)) 1 1])) w10 = Result.ok (Value.slice l12.1 l12.2 l12.3) w11 ∧
                (I6 (Sl.mk l12.1 l12.2 l12.3) w11 ∧
                 I7 (Sl.mk l12.1 l12.2 l12.3) w11 < I7 l8 w9))))) ∧
           ((Int.tmod (↑l8.2 : Int) 64 != 56) = false →
             ∃ I13 : Sl → Int → World → Prop, ∃ I14 : Sl → Int → World → Nat, (I13 (Sl.mk l8.1 l8.2 l8.3) 7 w9 ∧
              ∀ l15 : Sl,
              ∀ n16 : Int,
              ∀ w17 : World,
              (I13 l15 n16 w17 →
                (((decide (n16 ≥ 0) = true →
                   (0 ≤ IntKind.wrap IntKind.i64 (8 * n16) ∧
                    ∀ w18 : World,
                    (w18 = World.alloc w17 (Obj.cells (Array.mk [Value.int IntKind.u8 (IntKind.wrap IntKind.u8 (Int.fdiv (IntKind.wrap IntKind.u64 (IntKind.wrap IntKind.u64 (↑(ByteArray.size x0) : Int) * 8)) (2 ^ min (Int.toNat (IntKind.wrap IntKind.i64 (8 * n16))) 64)))]) 5) →
                      ∃ w19 : World, ∃ l20 : Sl, (Sem.run Try.prog (Builtin.append_ (Array.mk [57, 57]) 57 (Array.mk [Value.slice l15.1 l15.2 l15.3, Value.slice (some (Addr.mk (Array.size (World.heap w17)) 0 none)) 1 1])) w18 = Result.ok (Value.slice l20.1 l20.2 l20.3) w19 ∧
                       (I13 (Sl.mk l20.1 l20.2 l20.3) (IntKind.wrap IntKind.i64 (n16 - 1)) w19 ∧
                        I14 (Sl.mk l20.1 l20.2 l20.3) (IntKind.wrap IntKind.i64 (n16 - 1)) w19 < I14 l15 n16 w17)))))) ∧
                 (decide (n16 ≥ 0) = false →
                   R (Value.slice l15.1 l15.2 l15.3) w17))))))))))))
theorem vc_cartularyref02_Pad_ok {x0 : ByteArray} {w : World} {R : Value → World → Prop} {R' : Ending → World → Prop} (h : vc_cartularyref02_Pad x0 w R) (hR : ∀ v w', R v w' → R' (.returned v) w') :
    Calls Try.prog 57 #[.string x0] w R' :=
  calls_of_body (vs := [(.string x0, false)]) (ty := ty) (ann := ⟨[], [(2, [(3, .slice)]), (6, [(3, .slice), (5, .int .i64)])], [], []⟩) (c := Try.f57.body.getD .skip) (by kernel_rfl) Try.func57 (by kernel_rfl) (by kernel_rfl) (Eq.mp (by kernel_rfl) h) hR
/-- cartularyref02.words -/
def vc_cartularyref02_words (x0a : Option Addr) (x0n : Nat) (x0c : Nat) (w : World) (R : Value → World → Prop) : Prop :=
  ∀ w1 : World,
  (w1 = World.alloc w (Obj.cells (Array.mk []) 26) →
    ∃ I2 : Sl → Int → World → Prop, ∃ I3 : Sl → Int → World → Nat, (I2 (Sl.mk (some (Addr.mk (Array.size (World.heap w)) 0 none)) 0 0) 0 w1 ∧
     ∀ l4 : Sl,
     ∀ n5 : Int,
     ∀ w6 : World,
     (I2 l4 n5 w6 →
       (((decide (n5 < 64) = true →
          ∀ w7 : World,
          (Drew w6 w7 →
            ∃ I8 : World → Prop, (I8 w7 ∧
             ((0 ≤ n5 ∧
               n5 < (↑x0n : Int)) ∧
              ∃ a9 : Addr, (x0a = some a9 ∧
               ∃ n10 : Int, ((∀ w11 : World,
                (I8 w11 →
                  World.cell? w11 (Addr.add a9 (Int.toNat n5 * 1)) = some (Value.int IntKind.u8 n10))) ∧
                ((0 ≤ IntKind.wrap IntKind.i64 (n5 + 1) ∧
                  IntKind.wrap IntKind.i64 (n5 + 1) < (↑x0n : Int)) ∧
                 ∃ a12 : Addr, (x0a = some a12 ∧
                  ∃ n13 : Int, ((∀ w14 : World,
                   (I8 w14 →
                     World.cell? w14 (Addr.add a12 (Int.toNat (IntKind.wrap IntKind.i64 (n5 + 1)) * 1)) = some (Value.int IntKind.u8 n13))) ∧
                   ((0 ≤ IntKind.wrap IntKind.i64 (n5 + 2) ∧
                     IntKind.wrap IntKind.i64 (n5 + 2) < (↑x0n : Int)) ∧
                    ∃ a15 : Addr, (x0a = some a15 ∧
                     ∃ n16 : Int, ((∀ w17 : World,
                      (I8 w17 →
                        World.cell? w17 (Addr.add a15 (Int.toNat (IntKind.wrap IntKind.i64 (n5 + 2)) * 1)) = some (Value.int IntKind.u8 n16))) ∧
                      ((0 ≤ IntKind.wrap IntKind.i64 (n5 + 3) ∧
                        IntKind.wrap IntKind.i64 (n5 + 3) < (↑x0n : Int)) ∧
                       ∃ a18 : Addr, (x0a = some a18 ∧
                        ∃ n19 : Int, ((∀ w20 : World,
                         (I8 w20 →
                           World.cell? w20 (Addr.add a18 (Int.toNat (IntKind.wrap IntKind.i64 (n5 + 3)) * 1)) = some (Value.int IntKind.u8 n19))) ∧
                         ∀ w21 : World,
                         (w21 = World.alloc w7 (Obj.cells (Array.mk [Value.int IntKind.u32 (IntKind.wrap IntKind.u32 (IntKind.wrap IntKind.u32 (IntKind.wrap IntKind.u32 (IntKind.wrap IntKind.u32 (IntKind.wrap IntKind.u32 n10 * 16777216) + IntKind.wrap IntKind.u32 (IntKind.wrap IntKind.u32 n13 * 65536)) + IntKind.wrap IntKind.u32 (IntKind.wrap IntKind.u32 n16 * 256)) + IntKind.wrap IntKind.u32 n19))]) 26) →
                           (I8 w21 ∧
                            ∃ w22 : World, ∃ l23 : Sl, (Sem.run Try.prog (Builtin.append_ (Array.mk [56, 56]) 56 (Array.mk [Value.slice l4.1 l4.2 l4.3, Value.slice (some (Addr.mk (Array.size (World.heap w7)) 0 none)) 1 1])) w21 = Result.ok (Value.slice l23.1 l23.2 l23.3) w22 ∧
                             (I8 w22 ∧
                              (I2 (Sl.mk l23.1 l23.2 l23.3) (IntKind.wrap IntKind.i64 (n5 + 4)) w22 ∧
                               I3 (Sl.mk l23.1 l23.2 l23.3) (IntKind.wrap IntKind.i64 (n5 + 4)) w22 < I3 l4 n5 w6))))))))))))))))))))) ∧
        (decide (n5 < 64) = false →
          R (Value.slice l4.1 l4.2 l4.3) w6)))))
theorem vc_cartularyref02_words_ok {x0a : Option Addr} {x0n : Nat} {x0c : Nat} {w : World} {R : Value → World → Prop} {R' : Ending → World → Prop} (h : vc_cartularyref02_words x0a x0n x0c w R) (hR : ∀ v w', R v w' → R' (.returned v) w') :
    Calls Try.prog 58 #[.slice x0a x0n x0c] w R' :=
  calls_of_body (vs := [(.slice x0a x0n x0c, false)]) (ty := ty) (ann := ⟨[], [(3, [(3, .slice), (4, .int .i64)])], [(5, .held [(0, true), (1, true), (2, true), (3, true), (4, true), (5, true), (6, true), (7, true), (8, true), (9, true), (10, true), (11, true), (12, true), (13, true), (14, true), (15, true), (16, true), (17, true), (18, true), (19, true), (20, true), (21, true), (22, true), (23, true), (24, true), (25, true), (26, true), (27, true), (28, true), (29, true), (30, false), (31, false), (32, true)])], []⟩) (c := Try.f58.body.getD .skip) (by kernel_rfl) Try.func58 (by kernel_rfl) (by kernel_rfl) (Eq.mp (by kernel_rfl) h) hR
/-- cartularyref02.out -/
def vc_cartularyref02_out (x0a : Option Addr) (x0n : Nat) (x0c : Nat) (w : World) (R : Value → World → Prop) : Prop :=
  ∀ w1 : World,
  (w1 = World.alloc w (Obj.cells (Array.mk []) 5) →
    ∃ I2 : Sl → Int → World → Prop, ∃ I3 : Sl → Int → World → Nat, (I2 (Sl.mk (some (Addr.mk (Array.size (World.heap w)) 0 none)) 0 0) 0 w1 ∧
     ∀ l4 : Sl,
     ∀ n5 : Int,
     ∀ w6 : World,
     (I2 l4 n5 w6 →
       (((decide (n5 < (↑x0n : Int)) = true →
          ((0 ≤ n5 ∧
            n5 < (↑x0n : Int)) ∧
           ∃ a7 : Addr, (x0a = some a7 ∧
            ∃ n8 : Int, (World.cell? w6 (Addr.add a7 (Int.toNat n5 * 1)) = some (Value.int IntKind.u32 n8) ∧
             ((0 : Int) ≤ (24 : Int) ∧
              ((0 : Int) ≤ (16 : Int) ∧
               ((0 : Int) ≤ (8 : Int) ∧
                ∀ w9 : World,
                (w9 = World.alloc w6 (Obj.cells (Array.mk [Value.int IntKind.u8 (IntKind.wrap IntKind.u8 (Int.fdiv n8 (2 ^ min (Int.toNat 24) 32))), Value.int IntKind.u8 (IntKind.wrap IntKind.u8 (Int.fdiv n8 (2 ^ min (Int.toNat 16) 32))), Value.int IntKind.u8 (IntKind.wrap IntKind.u8 (Int.fdiv n8 (2 ^ min (Int.toNat 8) 32))), Value.int IntKind.u8 (IntKind.wrap IntKind.u8 n8)]) 5) →
                  ∃ w10 : World, ∃ l11 : Sl, (Sem.run Try.prog (Builtin.append_ (Array.mk [57, 57]) 57 (Array.mk [Value.slice l4.1 l4.2 l4.3, Value.slice (some (Addr.mk (Array.size (World.heap w6)) 0 none)) 4 4])) w9 = Result.ok (Value.slice l11.1 l11.2 l11.3) w10 ∧
                   (I2 (Sl.mk l11.1 l11.2 l11.3) (IntKind.wrap IntKind.i64 (n5 + 1)) w10 ∧
                    I3 (Sl.mk l11.1 l11.2 l11.3) (IntKind.wrap IntKind.i64 (n5 + 1)) w10 < I3 l4 n5 w6))))))))))) ∧
        (decide (n5 < (↑x0n : Int)) = false →
          ∃ w12 : World, ∃ s13 : ByteArray, (Sem.run Try.prog (convert 57 9 (Value.slice l4.1 l4.2 l4.3)) w6 = Result.ok (Value.string s13) w12 ∧
           R (Value.string s13) w12))))))
theorem vc_cartularyref02_out_ok {x0a : Option Addr} {x0n : Nat} {x0c : Nat} {w : World} {R : Value → World → Prop} {R' : Ending → World → Prop} (h : vc_cartularyref02_out x0a x0n x0c w R) (hR : ∀ v w', R v w' → R' (.returned v) w') :
    Calls Try.prog 60 #[.slice x0a x0n x0c] w R' :=
  calls_of_body (vs := [(.slice x0a x0n x0c, false)]) (ty := ty) (ann := ⟨[], [(3, [(3, .slice), (9, .int .i64)])], [], []⟩) (c := Try.f60.body.getD .skip) (by kernel_rfl) Try.func60 (by kernel_rfl) (by kernel_rfl) (Eq.mp (by kernel_rfl) h) hR
/-- cartularyref02.Sum1 -/
def vc_cartularyref02_Sum1 (x0 : ByteArray) (w : World) (R : Value → World → Prop) : Prop :=
  Calls Try.prog (57 : Nat) (Array.mk [Value.string x0]) (w) (fun e1 w2 =>
    ∃ l3 : Sl, (e1 = Ending.returned (Value.slice l3.1 l3.2 l3.3) ∧
     ∀ w4 : World,
     (w4 = World.alloc w2 (Obj.cells (Array.mk [Value.int IntKind.u32 1732584193, Value.int IntKind.u32 4023233417, Value.int IntKind.u32 2562383102, Value.int IntKind.u32 271733878, Value.int IntKind.u32 3285377520]) 26) →
       ∃ I5 : Sl → Int → World → Prop, ∃ I6 : Sl → Int → World → Nat, (I5 (Sl.mk (some (Addr.mk (Array.size (World.heap w2)) 0 none)) 5 5) 0 w4 ∧
        ∀ l7 : Sl,
        ∀ n8 : Int,
        ∀ w9 : World,
        (I5 l7 n8 w9 →
          (((decide (n8 < (↑l3.2 : Int)) = true →
             ((0 ≤ n8 ∧
               (n8 ≤ IntKind.wrap IntKind.i64 (n8 + 64) ∧
                IntKind.wrap IntKind.i64 (n8 + 64) ≤ (↑l3.3 : Int))) ∧
              Calls Try.prog (58 : Nat) (Array.mk [Value.slice (subA l3.1 l3.3 (Int.toNat n8) 1) (Int.toNat (IntKind.wrap IntKind.i64 (n8 + 64)) - Int.toNat n8) (l3.3 - Int.toNat n8)]) (w9) (fun e10 w11 =>
                ∃ l12 : Sl, (e10 = Ending.returned (Value.slice l12.1 l12.2 l12.3) ∧
                 ∃ I13 : Sl → Int → World → Prop, ∃ I14 : Sl → Int → World → Nat, (I13 (Sl.mk l12.1 l12.2 l12.3) 16 w11 ∧
                  ∀ l15 : Sl,
                  ∀ n16 : Int,
                  ∀ w17 : World,
                  (I13 l15 n16 w17 →
                    (((decide (n16 < 80) = true →
                       ∀ w18 : World,
                       (Drew w17 w18 →
                         ∃ I19 : World → Prop, (I19 w18 ∧
                          ((0 ≤ IntKind.wrap IntKind.i64 (n16 - 3) ∧
                            IntKind.wrap IntKind.i64 (n16 - 3) < (↑l15.2 : Int)) ∧
                           ∃ a20 : Addr, (l15.1 = some a20 ∧
                            ∃ n21 : Int, ((∀ w22 : World,
                             (I19 w22 →
                               World.cell? w22 (Addr.add a20 (Int.toNat (IntKind.wrap IntKind.i64 (n16 - 3)) * 1)) = some (Value.int IntKind.u32 n21))) ∧
                             ((0 ≤ IntKind.wrap IntKind.i64 (n16 - 8) ∧
                               IntKind.wrap IntKind.i64 (n16 - 8) < (↑l15.2 : Int)) ∧
                              ∃ a23 : Addr, (l15.1 = some a23 ∧
                               ∃ n24 : Int, ((∀ w25 : World,
                                (I19 w25 →
                                  World.cell? w25 (Addr.add a23 (Int.toNat (IntKind.wrap IntKind.i64 (n16 - 8)) * 1)) = some (Value.int IntKind.u32 n24))) ∧
                                ((0 ≤ IntKind.wrap IntKind.i64 (n16 - 14) ∧
                                  IntKind.wrap IntKind.i64 (n16 - 14) < (↑l15.2 : Int)) ∧
                                 ∃ a26 : Addr, (l15.1 = some a26 ∧
                                  ∃ n27 : Int, ((∀ w28 : World,
                                   (I19 w28 →
                                     World.cell? w28 (Addr.add a26 (Int.toNat (IntKind.wrap IntKind.i64 (n16 - 14)) * 1)) = some (Value.int IntKind.u32 n27))) ∧
                                   ((0 ≤ IntKind.wrap IntKind.i64 (n16 - 16) ∧
                                     IntKind.wrap IntKind.i64 (n16 - 16) < (↑l15.2 : Int)) ∧
                                    ∃ a29 : Addr, (l15.1 = some a29 ∧
                                     ∃ n30 : Int, ((∀ w31 : World,
                                      (I19 w31 →
                                        World.cell? w31 (Addr.add a29 (Int.toNat (IntKind.wrap IntKind.i64 (n16 - 16)) * 1)) = some (Value.int IntKind.u32 n30))) ∧
                                      Calls Try.prog (59 : Nat) (Array.mk [Value.int IntKind.u32 (IntKind.wrap IntKind.u32 (↑(BitVec.toNat (BitVec.ofInt 32 (IntKind.wrap IntKind.u32 (↑(BitVec.toNat (BitVec.ofInt 32 (IntKind.wrap IntKind.u32 (↑(BitVec.toNat (BitVec.ofInt 32 n21 ^^^ BitVec.ofInt 32 n24)) : Int)) ^^^ BitVec.ofInt 32 n27)) : Int)) ^^^ BitVec.ofInt 32 n30)) : Int)), Value.int IntKind.i64 1]) (w18) (fun e32 w33 =>
                                        ∃ n34 : Int, (e32 = Ending.returned (Value.int IntKind.u32 n34) ∧
                                         (I19 w33 ∧
                                          ∀ w35 : World,
                                          (w35 = World.alloc w33 (Obj.cells (Array.mk [Value.int IntKind.u32 n34]) 26) →
                                            (I19 w35 ∧
                                             ∃ w36 : World, ∃ l37 : Sl, (Sem.run Try.prog (Builtin.append_ (Array.mk [56, 56]) 56 (Array.mk [Value.slice l15.1 l15.2 l15.3, Value.slice (some (Addr.mk (Array.size (World.heap w33)) 0 none)) 1 1])) w35 = Result.ok (Value.slice l37.1 l37.2 l37.3) w36 ∧
                                              (I19 w36 ∧
                                               (I13 (Sl.mk l37.1 l37.2 l37.3) (IntKind.wrap IntKind.i64 (n16 + 1)) w36 ∧
                                                I14 (Sl.mk l37.1 l37.2 l37.3) (IntKind.wrap IntKind.i64 (n16 + 1)) w36 < I14 l15 n16 w17)))))))))))))))))))))))) ∧
                     (decide (n16 < 80) = false →
                       (((0 : Int) ≤ (0 : Int) ∧
                         0 < (↑l7.2 : Int)) ∧
                        ∃ a38 : Addr, (l7.1 = some a38 ∧
                         ∃ n39 : Int, (World.cell? w17 (Addr.add a38 (Int.toNat 0 * 1)) = some (Value.int IntKind.u32 n39) ∧
                          (((0 : Int) ≤ (1 : Int) ∧
                            1 < (↑l7.2 : Int)) ∧
                           ∃ a40 : Addr, (l7.1 = some a40 ∧
                            ∃ n41 : Int, (World.cell? w17 (Addr.add a40 (Int.toNat 1 * 1)) = some (Value.int IntKind.u32 n41) ∧
                             (((0 : Int) ≤ (2 : Int) ∧
                               2 < (↑l7.2 : Int)) ∧
                              ∃ a42 : Addr, (l7.1 = some a42 ∧
                               ∃ n43 : Int, (World.cell? w17 (Addr.add a42 (Int.toNat 2 * 1)) = some (Value.int IntKind.u32 n43) ∧
                                (((0 : Int) ≤ (3 : Int) ∧
                                  3 < (↑l7.2 : Int)) ∧
                                 ∃ a44 : Addr, (l7.1 = some a44 ∧
                                  ∃ n45 : Int, (World.cell? w17 (Addr.add a44 (Int.toNat 3 * 1)) = some (Value.int IntKind.u32 n45) ∧
                                   (((0 : Int) ≤ (4 : Int) ∧
                                     4 < (↑l7.2 : Int)) ∧
                                    ∃ a46 : Addr, (l7.1 = some a46 ∧
                                     ∃ n47 : Int, (World.cell? w17 (Addr.add a46 (Int.toNat 4 * 1)) = some (Value.int IntKind.u32 n47) ∧
                                      ∀ w48 : World,
                                      (Drew w17 w48 →
                                        ∃ I49 : Int → Int → Int → Int → Int → Int → World → Prop, ∃ I50 : Int → Int → Int → Int → Int → Int → World → Nat, (I49 n39 n41 n43 n45 n47 0 w48 ∧
                                         ∀ n51 : Int,
                                         ∀ n52 : Int,
                                         ∀ n53 : Int,
                                         ∀ n54 : Int,
                                         ∀ n55 : Int,
                                         ∀ n56 : Int,
                                         ∀ w57 : World,
                                         (I49 n51 n52 n53 n54 n55 n56 w57 →
                                           (((decide (n56 < 80) = true →
                                              ∃ I58 : Int → Int → World → Prop, ((((decide (n56 < 60) = true →
                                                  I58 (IntKind.wrap IntKind.u32 (↑(BitVec.toNat (BitVec.ofInt 32 (IntKind.wrap IntKind.u32 (↑(BitVec.toNat (BitVec.ofInt 32 (IntKind.wrap IntKind.u32 (↑(BitVec.toNat (BitVec.ofInt 32 n52 &&& BitVec.ofInt 32 n53)) : Int)) ||| BitVec.ofInt 32 (IntKind.wrap IntKind.u32 (↑(BitVec.toNat (BitVec.ofInt 32 n52 &&& BitVec.ofInt 32 n54)) : Int)))) : Int)) ||| BitVec.ofInt 32 (IntKind.wrap IntKind.u32 (↑(BitVec.toNat (BitVec.ofInt 32 n53 &&& BitVec.ofInt 32 n54)) : Int)))) : Int)) 2400959708 w57)) ∧
                                                (decide (n56 < 60) = false →
                                                  I58 (IntKind.wrap IntKind.u32 (↑(BitVec.toNat (BitVec.ofInt 32 (IntKind.wrap IntKind.u32 (↑(BitVec.toNat (BitVec.ofInt 32 n52 ^^^ BitVec.ofInt 32 n53)) : Int)) ^^^ BitVec.ofInt 32 n54)) : Int)) 3395469782 w57)) ∧
                                               ∀ n59 : Int,
                                               ∀ n60 : Int,
                                               ∀ w61 : World,
                                               (I58 n59 n60 w61 →
                                                 ∃ I62 : Int → Int → World → Prop, ((((decide (n56 < 40) = true →
                                                     I62 (IntKind.wrap IntKind.u32 (↑(BitVec.toNat (BitVec.ofInt 32 (IntKind.wrap IntKind.u32 (↑(BitVec.toNat (BitVec.ofInt 32 n52 ^^^ BitVec.ofInt 32 n53)) : Int)) ^^^ BitVec.ofInt 32 n54)) : Int)) 1859775393 w61)) ∧
                                                   (decide (n56 < 40) = false →
                                                     I62 n59 n60 w61)) ∧
                                                  ∀ n63 : Int,
                                                  ∀ n64 : Int,
                                                  ∀ w65 : World,
                                                  (I62 n63 n64 w65 →
                                                    ∃ I66 : Int → Int → World → Prop, ((((decide (n56 < 20) = true →
                                                        I66 (IntKind.wrap IntKind.u32 (↑(BitVec.toNat (BitVec.ofInt 32 (IntKind.wrap IntKind.u32 (↑(BitVec.toNat (BitVec.ofInt 32 n52 &&& BitVec.ofInt 32 n53)) : Int)) ||| BitVec.ofInt 32 (IntKind.wrap IntKind.u32 (↑(BitVec.toNat (BitVec.ofInt 32 (IntKind.wrap IntKind.u32 (↑(BitVec.toNat (BitVec.ofInt 32 n52 ^^^ BitVec.ofInt 32 4294967295)) : Int)) &&& BitVec.ofInt 32 n54)) : Int)))) : Int)) 1518500249 w65)) ∧
                                                      (decide (n56 < 20) = false →
                                                        I66 n63 n64 w65)) ∧
                                                     ∀ n67 : Int,
                                                     ∀ n68 : Int,
                                                     ∀ w69 : World,
                                                     (I66 n67 n68 w69 →
                                                       ∀ w70 : World,
                                                       (Drew w69 w70 →
                                                         ∃ I71 : World → Prop, (I71 w70 ∧
                                                          ((0 ≤ n56 ∧
                                                            n56 < (↑l15.2 : Int)) ∧
                                                           ∃ a72 : Addr, (l15.1 = some a72 ∧
                                                            ∃ n73 : Int, ((∀ w74 : World,
                                                             (I71 w74 →
                                                               World.cell? w74 (Addr.add a72 (Int.toNat n56 * 1)) = some (Value.int IntKind.u32 n73))) ∧
                                                             Calls Try.prog (59 : Nat) (Array.mk [Value.int IntKind.u32 n51, Value.int IntKind.i64 5]) (w70) (fun e75 w76 =>
                                                               ∃ n77 : Int, (e75 = Ending.returned (Value.int IntKind.u32 n77) ∧
                                                                (I71 w76 ∧
                                                                 Calls Try.prog (59 : Nat) (Array.mk [Value.int IntKind.u32 n52, Value.int IntKind.i64 30]) (w76) (fun e78 w79 =>
                                                                   ∃ n80 : Int, (e78 = Ending.returned (Value.int IntKind.u32 n80) ∧
                                                                    (I49 (IntKind.wrap IntKind.u32 (IntKind.wrap IntKind.u32 (IntKind.wrap IntKind.u32 (IntKind.wrap IntKind.u32 (n77 + n67) + n55) + n68) + n73)) n51 n80 n53 n54 (IntKind.wrap IntKind.i64 (n56 + 1)) w79 ∧
                                                                     I50 (IntKind.wrap IntKind.u32 (IntKind.wrap IntKind.u32 (IntKind.wrap IntKind.u32 (IntKind.wrap IntKind.u32 (n77 + n67) + n55) + n68) + n73)) n51 n80 n53 n54 (IntKind.wrap IntKind.i64 (n56 + 1)) w79 < I50 n51 n52 n53 n54 n55 n56 w57))))))))))))))))))) ∧
                                            (decide (n56 < 80) = false →
                                              ∀ w81 : World,
                                              (Drew w57 w81 →
                                                (((0 : Int) ≤ (0 : Int) ∧
                                                  0 < (↑l7.2 : Int)) ∧
                                                 ∃ a82 : Addr, (l7.1 = some a82 ∧
                                                  ∃ n83 : Int, (World.cell? w81 (Addr.add a82 (Int.toNat 0 * 1)) = some (Value.int IntKind.u32 n83) ∧
                                                   (((0 : Int) ≤ (1 : Int) ∧
                                                     1 < (↑l7.2 : Int)) ∧
                                                    ∃ a84 : Addr, (l7.1 = some a84 ∧
                                                     ∃ n85 : Int, (World.cell? w81 (Addr.add a84 (Int.toNat 1 * 1)) = some (Value.int IntKind.u32 n85) ∧
                                                      (((0 : Int) ≤ (2 : Int) ∧
                                                        2 < (↑l7.2 : Int)) ∧
                                                       ∃ a86 : Addr, (l7.1 = some a86 ∧
                                                        ∃ n87 : Int, (World.cell? w81 (Addr.add a86 (Int.toNat 2 * 1)) = some (Value.int IntKind.u32 n87) ∧
                                                         (((0 : Int) ≤ (3 : Int) ∧
                                                           3 < (↑l7.2 : Int)) ∧
                                                          ∃ a88 : Addr, (l7.1 = some a88 ∧
                                                           ∃ n89 : Int, (World.cell? w81 (Addr.add a88 (Int.toNat 3 * 1)) = some (Value.int IntKind.u32 n89) ∧
                                                            (((0 : Int) ≤ (4 : Int) ∧
                                                              4 < (↑l7.2 : Int)) ∧
                                                             ∃ a90 : Addr, (l7.1 = some a90 ∧
                                                              ∃ n91 : Int, (World.cell? w81 (Addr.add a90 (Int.toNat 4 * 1)) = some (Value.int IntKind.u32 n91) ∧
                                                               ∀ w92 : World,
                                                               (w92 = World.alloc w81 (Obj.cells (Array.mk [Value.int IntKind.u32 (IntKind.wrap IntKind.u32 (n83 + n51)), Value.int IntKind.u32 (IntKind.wrap IntKind.u32 (n85 + n52)), Value.int IntKind.u32 (IntKind.wrap IntKind.u32 (n87 + n53)), Value.int IntKind.u32 (IntKind.wrap IntKind.u32 (n89 + n54)), Value.int IntKind.u32 (IntKind.wrap IntKind.u32 (n91 + n55))]) 26) →
                                                                 (I5 (Sl.mk (some (Addr.mk (Array.size (World.heap w81)) 0 none)) 5 5) (IntKind.wrap IntKind.i64 (n8 + 64)) w92 ∧
                                                                  I6 (Sl.mk (some (Addr.mk (Array.size (World.heap w81)) 0 none)) 5 5) (IntKind.wrap IntKind.i64 (n8 + 64)) w92 < I6 l7 n8 w9))))))))))))))))))))))))))))))))))))))))))))))) ∧
           (decide (n8 < (↑l3.2 : Int)) = false →
             Calls Try.prog (60 : Nat) (Array.mk [Value.slice l7.1 l7.2 l7.3]) (w9) (fun e93 w94 =>
               ∃ s95 : ByteArray, (e93 = Ending.returned (Value.string s95) ∧
                R (Value.string s95) w94)))))))))
theorem vc_cartularyref02_Sum1_ok {x0 : ByteArray} {w : World} {R : Value → World → Prop} {R' : Ending → World → Prop} (h : vc_cartularyref02_Sum1 x0 w R) (hR : ∀ v w', R v w' → R' (.returned v) w') :
    Calls Try.prog 46 #[.string x0] w R' :=
  calls_of_body (vs := [(.string x0, false)]) (ty := ty) (ann := ⟨[(19, [(14, .int .u32), (15, .int .u32)]), (22, [(14, .int .u32), (15, .int .u32)]), (25, [(14, .int .u32), (15, .int .u32)])], [(4, [(4, .slice), (5, .int .i64)]), (8, [(6, .slice), (7, .int .i64)]), (13, [(8, .int .u32), (9, .int .u32), (10, .int .u32), (11, .int .u32), (12, .int .u32), (13, .int .i64)])], [(10, .held [(0, true), (1, true), (2, true), (3, true), (4, true), (5, true), (6, true), (7, true), (8, true), (9, true), (10, true), (11, true), (12, true), (13, true), (14, true), (15, true), (16, true), (17, true), (18, true), (19, true), (20, true), (21, true), (22, true), (23, true), (24, false), (25, false), (26, false), (27, true)]), (11, .quiet), (25, .held [(0, true), (2, true), (4, true), (6, true), (8, true), (9, true), (10, true), (11, true), (1, false), (3, true), (5, true), (7, true), (12, true), (13, true)]), (31, .tail 25)], []⟩) (c := Try.f46.body.getD .skip) (by kernel_rfl) Try.func46 (by kernel_rfl) (by kernel_rfl) (Eq.mp (by kernel_rfl) h) hR
/-- cartularyref02.primes -/
def vc_cartularyref02_primes (x0 : Int) (w : World) (R : Value → World → Prop) : Prop :=
  ∀ w1 : World,
  (w1 = World.alloc w (Obj.cells (Array.mk []) 58) →
    ∃ I2 : Sl → Int → World → Prop, ∃ I3 : Sl → Int → World → Nat, (I2 (Sl.mk (some (Addr.mk (Array.size (World.heap w)) 0 none)) 0 0) 2 w1 ∧
     ∀ l4 : Sl,
     ∀ n5 : Int,
     ∀ w6 : World,
     (I2 l4 n5 w6 →
       (((decide ((↑l4.2 : Int) < x0) = true →
          ∃ I7 : Bool → Int → World → Prop, ∃ I8 : Bool → Int → World → Nat, (I7 true 0 w6 ∧
           ∀ b9 : Bool,
           ∀ n10 : Int,
           ∀ w11 : World,
           (I7 b9 n10 w11 →
             (((decide (n10 < (↑l4.2 : Int)) = true →
                ((0 ≤ n10 ∧
                  n10 < (↑l4.2 : Int)) ∧
                 ∃ a12 : Addr, (l4.1 = some a12 ∧
                  ∃ n13 : Int, (World.cell? w11 (Addr.add a12 (Int.toNat n10 * 1)) = some (Value.int IntKind.u64 n13) ∧
                   (((b9 = true →
                      (n13 ≠ 0 ∧
                       (I7 (Int.tmod n5 n13 != 0) (IntKind.wrap IntKind.i64 (n10 + 1)) w11 ∧
                        I8 (Int.tmod n5 n13 != 0) (IntKind.wrap IntKind.i64 (n10 + 1)) w11 < I8 b9 n10 w11)))) ∧
                    (b9 = false →
                      (I7 false (IntKind.wrap IntKind.i64 (n10 + 1)) w11 ∧
                       I8 false (IntKind.wrap IntKind.i64 (n10 + 1)) w11 < I8 b9 n10 w11)))))))) ∧
              (decide (n10 < (↑l4.2 : Int)) = false →
                (((b9 = true →
                   ∀ w14 : World,
                   (w14 = World.alloc w11 (Obj.cells (Array.mk [Value.int IntKind.u64 n5]) 58) →
                     ∃ w15 : World, ∃ l16 : Sl, (Sem.run Try.prog (Builtin.append_ (Array.mk [98, 98]) 98 (Array.mk [Value.slice l4.1 l4.2 l4.3, Value.slice (some (Addr.mk (Array.size (World.heap w11)) 0 none)) 1 1])) w14 = Result.ok (Value.slice l16.1 l16.2 l16.3) w15 ∧
                      (I2 (Sl.mk l16.1 l16.2 l16.3) (IntKind.wrap IntKind.u64 (n5 + 1)) w15 ∧
                       I3 (Sl.mk l16.1 l16.2 l16.3) (IntKind.wrap IntKind.u64 (n5 + 1)) w15 < I3 l4 n5 w6))))) ∧
                 (b9 = false →
                   (I2 (Sl.mk l4.1 l4.2 l4.3) (IntKind.wrap IntKind.u64 (n5 + 1)) w11 ∧
                    I3 (Sl.mk l4.1 l4.2 l4.3) (IntKind.wrap IntKind.u64 (n5 + 1)) w11 < I3 l4 n5 w6))))))))) ∧
        (decide ((↑l4.2 : Int) < x0) = false →
          R (Value.slice l4.1 l4.2 l4.3) w6)))))
theorem vc_cartularyref02_primes_ok {x0 : Int} {w : World} {R : Value → World → Prop} {R' : Ending → World → Prop} (h : vc_cartularyref02_primes x0 w R) (hR : ∀ v w', R v w' → R' (.returned v) w') :
    Calls Try.prog 61 #[.int .i64 x0] w R' :=
  calls_of_body (vs := [(.int .i64 x0, false)]) (ty := ty) (ann := ⟨[], [(3, [(3, .slice), (4, .int .u64)]), (7, [(5, .bool), (17, .int .i64)])], [], []⟩) (c := Try.f61.body.getD .skip) (by kernel_rfl) Try.func61 (by kernel_rfl) (by kernel_rfl) (Eq.mp (by kernel_rfl) h) hR
/-- cartularyref02.mul -/
def vc_cartularyref02_mul (x0 : Int) (x1 : Int) (w : World) (R : Value → World → Prop) : Prop :=
  ((0 : Int) ≤ (32 : Int) ∧
   ((0 : Int) ≤ (32 : Int) ∧
    ((0 : Int) ≤ (32 : Int) ∧
     ((0 : Int) ≤ (32 : Int) ∧
      ((0 : Int) ≤ (32 : Int) ∧
       R (Value.tuple (Array.mk [Value.int IntKind.u64 (IntKind.wrap IntKind.u64 (IntKind.wrap IntKind.u64 (IntKind.wrap IntKind.u64 (Int.fdiv x0 (2 ^ min (Int.toNat 32) 64) * Int.fdiv x1 (2 ^ min (Int.toNat 32) 64)) + Int.fdiv (IntKind.wrap IntKind.u64 (IntKind.wrap IntKind.u64 (IntKind.wrap IntKind.u64 (↑(BitVec.toNat (BitVec.ofInt 64 x0 &&& BitVec.ofInt 64 4294967295)) : Int) * Int.fdiv x1 (2 ^ min (Int.toNat 32) 64)) + Int.fdiv (IntKind.wrap IntKind.u64 (IntKind.wrap IntKind.u64 (↑(BitVec.toNat (BitVec.ofInt 64 x0 &&& BitVec.ofInt 64 4294967295)) : Int) * IntKind.wrap IntKind.u64 (↑(BitVec.toNat (BitVec.ofInt 64 x1 &&& BitVec.ofInt 64 4294967295)) : Int))) (2 ^ min (Int.toNat 32) 64))) (2 ^ min (Int.toNat 32) 64)) + Int.fdiv (IntKind.wrap IntKind.u64 (IntKind.wrap IntKind.u64 (Int.fdiv x0 (2 ^ min (Int.toNat 32) 64) * IntKind.wrap IntKind.u64 (↑(BitVec.toNat (BitVec.ofInt 64 x1 &&& BitVec.ofInt 64 4294967295)) : Int)) + IntKind.wrap IntKind.u64 (↑(BitVec.toNat (BitVec.ofInt 64 (IntKind.wrap IntKind.u64 (IntKind.wrap IntKind.u64 (IntKind.wrap IntKind.u64 (↑(BitVec.toNat (BitVec.ofInt 64 x0 &&& BitVec.ofInt 64 4294967295)) : Int) * Int.fdiv x1 (2 ^ min (Int.toNat 32) 64)) + Int.fdiv (IntKind.wrap IntKind.u64 (IntKind.wrap IntKind.u64 (↑(BitVec.toNat (BitVec.ofInt 64 x0 &&& BitVec.ofInt 64 4294967295)) : Int) * IntKind.wrap IntKind.u64 (↑(BitVec.toNat (BitVec.ofInt 64 x1 &&& BitVec.ofInt 64 4294967295)) : Int))) (2 ^ min (Int.toNat 32) 64))) &&& BitVec.ofInt 64 4294967295)) : Int))) (2 ^ min (Int.toNat 32) 64))), Value.int IntKind.u64 (IntKind.wrap IntKind.u64 (x0 * x1))])) w)))))
theorem vc_cartularyref02_mul_ok {x0 : Int} {x1 : Int} {w : World} {R : Value → World → Prop} {R' : Ending → World → Prop} (h : vc_cartularyref02_mul x0 x1 w R) (hR : ∀ v w', R v w' → R' (.returned v) w') :
    Calls Try.prog 73 #[.int .u64 x0, .int .u64 x1] w R' :=
  calls_of_body (vs := [(.int .u64 x0, false), (.int .u64 x1, false)]) (ty := ty) (ann := ⟨[], [], [], []⟩) (c := Try.f73.body.getD .skip) (by kernel_rfl) Try.func73 (by kernel_rfl) (by kernel_rfl) (Eq.mp (by kernel_rfl) h) hR
/-- cartularyref02.Roots -/
def vc_cartularyref02_Roots (x0 : Int) (x1 : Int) (w : World) (R : Value → World → Prop) : Prop :=
  ∃ I1 : Int → Int → World → Prop, ∃ I2 : Int → Int → World → Nat, (I1 0 40 w ∧
   ∀ n3 : Int,
   ∀ n4 : Int,
   ∀ w5 : World,
   (I1 n3 n4 w5 →
     (((decide (n4 ≥ 0) = true →
        (0 ≤ n4 ∧
         Calls Try.prog (69 : Nat) (Array.mk [Value.int IntKind.i64 x0, Value.int IntKind.u64 (IntKind.wrap IntKind.u64 (n3 + IntKind.wrap IntKind.u64 (1 * 2 ^ min (Int.toNat n4) 64))), Value.int IntKind.u64 x1]) (w5) (fun e6 w7 =>
           ∃ b8 : Bool, (e6 = Ending.returned (Value.bool b8) ∧
            (((b8 = true →
               (I1 (IntKind.wrap IntKind.u64 (n3 + IntKind.wrap IntKind.u64 (1 * 2 ^ min (Int.toNat n4) 64))) (IntKind.wrap IntKind.i64 (n4 - 1)) w7 ∧
                I2 (IntKind.wrap IntKind.u64 (n3 + IntKind.wrap IntKind.u64 (1 * 2 ^ min (Int.toNat n4) 64))) (IntKind.wrap IntKind.i64 (n4 - 1)) w7 < I2 n3 n4 w5))) ∧
             (b8 = false →
               (I1 n3 (IntKind.wrap IntKind.i64 (n4 - 1)) w7 ∧
                I2 n3 (IntKind.wrap IntKind.i64 (n4 - 1)) w7 < I2 n3 n4 w5)))))))) ∧
      (decide (n4 ≥ 0) = false →
        R (Value.int IntKind.u32 (IntKind.wrap IntKind.u32 n3)) w5))))
theorem vc_cartularyref02_Roots_ok {x0 : Int} {x1 : Int} {w : World} {R : Value → World → Prop} {R' : Ending → World → Prop} (h : vc_cartularyref02_Roots x0 x1 w R) (hR : ∀ v w', R v w' → R' (.returned v) w') :
    Calls Try.prog 62 #[.int .i64 x0, .int .u64 x1] w R' :=
  calls_of_body (vs := [(.int .i64 x0, false), (.int .u64 x1, false)]) (ty := ty) (ann := ⟨[], [(3, [(5, .int .u64), (6, .int .i64)])], [], []⟩) (c := Try.f62.body.getD .skip) (by kernel_rfl) Try.func62 (by kernel_rfl) (by kernel_rfl) (Eq.mp (by kernel_rfl) h) hR
/-- cartularyref02.under -/
def vc_cartularyref02_under (x0 : Int) (x1 : Int) (x2 : Int) (w : World) (R : Value → World → Prop) : Prop :=
  Calls Try.prog (73 : Nat) (Array.mk [Value.int IntKind.u64 x1, Value.int IntKind.u64 x1]) (w) (fun e1 w2 =>
    ∃ n3 : Int, ∃ n4 : Int, (e1 = Ending.returned (Value.tuple (Array.mk [Value.int IntKind.u64 n3, Value.int IntKind.u64 n4])) ∧
     ((((x0 == 2) = true →
        (((decide (n3 < x2) = true →
           R (Value.bool true) w2)) ∧
         (decide (n3 < x2) = false →
           ((((n3 == x2) = true →
              R (Value.bool (n4 == 0)) w2)) ∧
            ((n3 == x2) = false →
              R (Value.bool false) w2)))))) ∧
      ((x0 == 2) = false →
        Calls Try.prog (73 : Nat) (Array.mk [Value.int IntKind.u64 n4, Value.int IntKind.u64 x1]) (w2) (fun e5 w6 =>
          ∃ n7 : Int, ∃ n8 : Int, (e5 = Ending.returned (Value.tuple (Array.mk [Value.int IntKind.u64 n7, Value.int IntKind.u64 n8])) ∧
           Calls Try.prog (73 : Nat) (Array.mk [Value.int IntKind.u64 n3, Value.int IntKind.u64 x1]) (w6) (fun e9 w10 =>
             ∃ n11 : Int, ∃ n12 : Int, (e9 = Ending.returned (Value.tuple (Array.mk [Value.int IntKind.u64 n11, Value.int IntKind.u64 n12])) ∧
              ∃ I13 : Int → World → Prop, ((((decide (IntKind.wrap IntKind.u64 (n12 + n7) < n12) = true →
                  I13 (IntKind.wrap IntKind.u64 (n11 + 1)) w10)) ∧
                (decide (IntKind.wrap IntKind.u64 (n12 + n7) < n12) = false →
                  I13 n11 w10)) ∧
               ∀ n14 : Int,
               ∀ w15 : World,
               (I13 n14 w15 →
                 (((decide (n14 > 0) = true →
                    ((0 : Int) ≤ (32 : Int) ∧
                     (((decide (Int.fdiv x2 (2 ^ min (Int.toNat 32) 64) > n14) = true →
                        R (Value.bool true) w15)) ∧
                      (decide (Int.fdiv x2 (2 ^ min (Int.toNat 32) 64) > n14) = false →
                        ((0 : Int) ≤ (32 : Int) ∧
                         ((((Int.fdiv x2 (2 ^ min (Int.toNat 32) 64) == n14) = true →
                            ((0 : Int) ≤ (32 : Int) ∧
                             R (Value.bool (decide (IntKind.wrap IntKind.u64 (x2 * 2 ^ min (Int.toNat 32) 64) > IntKind.wrap IntKind.u64 (n12 + n7)))) w15))) ∧
                          ((Int.fdiv x2 (2 ^ min (Int.toNat 32) 64) == n14) = false →
                            R (Value.bool false) w15)))))))) ∧
                  (decide (n14 > 0) = false →
                    ((0 : Int) ≤ (32 : Int) ∧
                     (((decide (IntKind.wrap IntKind.u64 (n12 + n7) < IntKind.wrap IntKind.u64 (x2 * 2 ^ min (Int.toNat 32) 64)) = true →
                        R (Value.bool true) w15)) ∧
                      (decide (IntKind.wrap IntKind.u64 (n12 + n7) < IntKind.wrap IntKind.u64 (x2 * 2 ^ min (Int.toNat 32) 64)) = false →
                        ((0 : Int) ≤ (32 : Int) ∧
                         ((((IntKind.wrap IntKind.u64 (n12 + n7) == IntKind.wrap IntKind.u64 (x2 * 2 ^ min (Int.toNat 32) 64)) = true →
                            R (Value.bool (n8 == 0)) w15)) ∧
                          ((IntKind.wrap IntKind.u64 (n12 + n7) == IntKind.wrap IntKind.u64 (x2 * 2 ^ min (Int.toNat 32) 64)) = false →
                            R (Value.bool false) w15))))))))))))))))))
theorem vc_cartularyref02_under_ok {x0 : Int} {x1 : Int} {x2 : Int} {w : World} {R : Value → World → Prop} {R' : Ending → World → Prop} (h : vc_cartularyref02_under x0 x1 x2 w R) (hR : ∀ v w', R v w' → R' (.returned v) w') :
    Calls Try.prog 69 #[.int .i64 x0, .int .u64 x1, .int .u64 x2] w R' :=
  calls_of_body (vs := [(.int .i64 x0, false), (.int .u64 x1, false), (.int .u64 x2, false)]) (ty := ty) (ann := ⟨[(9, [(11, .int .u64)])], [], [], []⟩) (c := Try.f69.body.getD .skip) (by kernel_rfl) Try.func69 (by kernel_rfl) (by kernel_rfl) (Eq.mp (by kernel_rfl) h) hR
/-- cartularyref02.Sum256 -/
def vc_cartularyref02_Sum256 (x0 : ByteArray) (x1a : Option Addr) (x1n : Nat) (x1c : Nat) (w : World) (R : Value → World → Prop) : Prop :=
  Calls Try.prog (57 : Nat) (Array.mk [Value.string x0]) (w) (fun e1 w2 =>
    ∃ l3 : Sl, (e1 = Ending.returned (Value.slice l3.1 l3.2 l3.3) ∧
     ∀ w4 : World,
     (w4 = World.alloc w2 (Obj.cells (Array.mk []) 26) →
       Calls Try.prog (61 : Nat) (Array.mk [Value.int IntKind.i64 (8 : Int)]) (w4) (fun e5 w6 =>
         ∃ l7 : Sl, (e5 = Ending.returned (Value.slice l7.1 l7.2 l7.3) ∧
          ∃ I8 : Sl → Int → World → Prop, ∃ I9 : Sl → Int → World → Nat, (I8 (Sl.mk (some (Addr.mk (Array.size (World.heap w2)) 0 none)) 0 0) 0 w6 ∧
           ∀ l10 : Sl,
           ∀ n11 : Int,
           ∀ w12 : World,
           (I8 l10 n11 w12 →
             (((decide (n11 < (↑l7.2 : Int)) = true →
                ((0 ≤ n11 ∧
                  n11 < (↑l7.2 : Int)) ∧
                 ∃ a13 : Addr, (l7.1 = some a13 ∧
                  ∃ n14 : Int, (World.cell? w12 (Addr.add a13 (Int.toNat n11 * 1)) = some (Value.int IntKind.u64 n14) ∧
                   Calls Try.prog (62 : Nat) (Array.mk [Value.int IntKind.i64 2, Value.int IntKind.u64 n14]) (w12) (fun e15 w16 =>
                     ∃ n17 : Int, (e15 = Ending.returned (Value.int IntKind.u32 n17) ∧
                      ∀ w18 : World,
                      (w18 = World.alloc w16 (Obj.cells (Array.mk [Value.int IntKind.u32 n17]) 26) →
                        ∃ w19 : World, ∃ l20 : Sl, (Sem.run Try.prog (Builtin.append_ (Array.mk [56, 56]) 56 (Array.mk [Value.slice l10.1 l10.2 l10.3, Value.slice (some (Addr.mk (Array.size (World.heap w16)) 0 none)) 1 1])) w18 = Result.ok (Value.slice l20.1 l20.2 l20.3) w19 ∧
                         (I8 (Sl.mk l20.1 l20.2 l20.3) (IntKind.wrap IntKind.i64 (n11 + 1)) w19 ∧
                          I9 (Sl.mk l20.1 l20.2 l20.3) (IntKind.wrap IntKind.i64 (n11 + 1)) w19 < I9 l10 n11 w12)))))))))) ∧
              (decide (n11 < (↑l7.2 : Int)) = false →
                ∃ I21 : Sl → Int → World → Prop, ∃ I22 : Sl → Int → World → Nat, (I21 (Sl.mk l10.1 l10.2 l10.3) 0 w12 ∧
                 ∀ l23 : Sl,
                 ∀ n24 : Int,
                 ∀ w25 : World,
                 (I21 l23 n24 w25 →
                   (((decide (n24 < (↑l3.2 : Int)) = true →
                      ((0 ≤ n24 ∧
                        (n24 ≤ IntKind.wrap IntKind.i64 (n24 + 64) ∧
                         IntKind.wrap IntKind.i64 (n24 + 64) ≤ (↑l3.3 : Int))) ∧
                       Calls Try.prog (58 : Nat) (Array.mk [Value.slice (subA l3.1 l3.3 (Int.toNat n24) 1) (Int.toNat (IntKind.wrap IntKind.i64 (n24 + 64)) - Int.toNat n24) (l3.3 - Int.toNat n24)]) (w25) (fun e26 w27 =>
                         ∃ l28 : Sl, (e26 = Ending.returned (Value.slice l28.1 l28.2 l28.3) ∧
                          ∃ I29 : Sl → Int → World → Prop, ∃ I30 : Sl → Int → World → Nat, (I29 (Sl.mk l28.1 l28.2 l28.3) 16 w27 ∧
                           ∀ l31 : Sl,
                           ∀ n32 : Int,
                           ∀ w33 : World,
                           (I29 l31 n32 w33 →
                             (((decide (n32 < 64) = true →
                                ((0 ≤ IntKind.wrap IntKind.i64 (n32 - 15) ∧
                                  IntKind.wrap IntKind.i64 (n32 - 15) < (↑l31.2 : Int)) ∧
                                 ∃ a34 : Addr, (l31.1 = some a34 ∧
                                  ∃ n35 : Int, (World.cell? w33 (Addr.add a34 (Int.toNat (IntKind.wrap IntKind.i64 (n32 - 15)) * 1)) = some (Value.int IntKind.u32 n35) ∧
                                   ((0 ≤ IntKind.wrap IntKind.i64 (n32 - 2) ∧
                                     IntKind.wrap IntKind.i64 (n32 - 2) < (↑l31.2 : Int)) ∧
                                    ∃ a36 : Addr, (l31.1 = some a36 ∧
                                     ∃ n37 : Int, (World.cell? w33 (Addr.add a36 (Int.toNat (IntKind.wrap IntKind.i64 (n32 - 2)) * 1)) = some (Value.int IntKind.u32 n37) ∧
                                      ∀ w38 : World,
                                      (Drew w33 w38 →
                                        ∀ w39 : World,
                                        (Drew w38 w39 →
                                          ∃ I40 : World → Prop, (I40 w39 ∧
                                           ((0 ≤ IntKind.wrap IntKind.i64 (n32 - 16) ∧
                                             IntKind.wrap IntKind.i64 (n32 - 16) < (↑l31.2 : Int)) ∧
                                            ∃ a41 : Addr, (l31.1 = some a41 ∧
                                             ∃ n42 : Int, ((∀ w43 : World,
                                              (I40 w43 →
                                                World.cell? w43 (Addr.add a41 (Int.toNat (IntKind.wrap IntKind.i64 (n32 - 16)) * 1)) = some (Value.int IntKind.u32 n42))) ∧
                                              ((0 : Int) ≤ (3 : Int) ∧
                                               ((0 ≤ IntKind.wrap IntKind.i64 (n32 - 7) ∧
                                                 IntKind.wrap IntKind.i64 (n32 - 7) < (↑l31.2 : Int)) ∧
                                                ∃ a44 : Addr, (l31.1 = some a44 ∧
                                                 ∃ n45 : Int, ((∀ w46 : World,
                                                  (I40 w46 →
                                                    World.cell? w46 (Addr.add a44 (Int.toNat (IntKind.wrap IntKind.i64 (n32 - 7)) * 1)) = some (Value.int IntKind.u32 n45))) ∧
                                                  ((0 : Int) ≤ (10 : Int) ∧
                                                   Calls Try.prog (59 : Nat) (Array.mk [Value.int IntKind.u32 n35, Value.int IntKind.i64 25]) (w39) (fun e47 w48 =>
                                                     ∃ n49 : Int, (e47 = Ending.returned (Value.int IntKind.u32 n49) ∧
                                                      (I40 w48 ∧
                                                       Calls Try.prog (59 : Nat) (Array.mk [Value.int IntKind.u32 n35, Value.int IntKind.i64 14]) (w48) (fun e50 w51 =>
                                                         ∃ n52 : Int, (e50 = Ending.returned (Value.int IntKind.u32 n52) ∧
                                                          (I40 w51 ∧
                                                           Calls Try.prog (59 : Nat) (Array.mk [Value.int IntKind.u32 n37, Value.int IntKind.i64 15]) (w51) (fun e53 w54 =>
                                                             ∃ n55 : Int, (e53 = Ending.returned (Value.int IntKind.u32 n55) ∧
                                                              (I40 w54 ∧
                                                               Calls Try.prog (59 : Nat) (Array.mk [Value.int IntKind.u32 n37, Value.int IntKind.i64 13]) (w54) (fun e56 w57 =>
                                                                 ∃ n58 : Int, (e56 = Ending.returned (Value.int IntKind.u32 n58) ∧
                                                                  (I40 w57 ∧
                                                                   ∀ w59 : World,
                                                                   (w59 = World.alloc w57 (Obj.cells (Array.mk [Value.int IntKind.u32 (IntKind.wrap IntKind.u32 (IntKind.wrap IntKind.u32 (IntKind.wrap IntKind.u32 (n42 + IntKind.wrap IntKind.u32 (↑(BitVec.toNat (BitVec.ofInt 32 (IntKind.wrap IntKind.u32 (↑(BitVec.toNat (BitVec.ofInt 32 n49 ^^^ BitVec.ofInt 32 n52)) : Int)) ^^^ BitVec.ofInt 32 (Int.fdiv n35 (2 ^ min (Int.toNat 3) 32)))) : Int)) + n45) + IntKind.wrap IntKind.u32 (↑(BitVec.toNat (BitVec.ofInt 32 (IntKind.wrap IntKind.u32 (↑(BitVec.toNat (BitVec.ofInt 32 n55 ^^^ BitVec.ofInt 32 n58)) : Int)) ^^^ BitVec.ofInt 32 (Int.fdiv n37 (2 ^ min (Int.toNat 10) 32)))) : Int)))]) 26) →
                                                                     (I40 w59 ∧
                                                                      ∃ w60 : World, ∃ l61 : Sl, (Sem.run Try.prog (Builtin.append_ (Array.mk [56, 56]) 56 (Array.mk [Value.slice l31.1 l31.2 l31.3, Value.slice (some (Addr.mk (Array.size (World.heap w57)) 0 none)) 1 1])) w59 = Result.ok (Value.slice l61.1 l61.2 l61.3) w60 ∧
                                                                       (I40 w60 ∧
                                                                        (I29 (Sl.mk l61.1 l61.2 l61.3) (IntKind.wrap IntKind.i64 (n32 + 1)) w60 ∧
                                                                         I30 (Sl.mk l61.1 l61.2 l61.3) (IntKind.wrap IntKind.i64 (n32 + 1)) w60 < I30 l31 n32 w33)))))))))))))))))))))))))))))))))))) ∧
                              (decide (n32 < 64) = false →
                                ∀ w62 : World,
                                (w62 = World.alloc w33 (Obj.cells (Array.mk []) 26) →
                                  ∃ w63 : World, ∃ l64 : Sl, (Sem.run Try.prog (Builtin.append_ (Array.mk [56, 56]) 56 (Array.mk [Value.slice (some (Addr.mk (Array.size (World.heap w33)) 0 none)) 0 0, Value.slice l23.1 l23.2 l23.3])) w62 = Result.ok (Value.slice l64.1 l64.2 l64.3) w63 ∧
                                   ∃ I65 : Sl → Int → World → Prop, ∃ I66 : Sl → Int → World → Nat, (I65 (Sl.mk l64.1 l64.2 l64.3) 0 w63 ∧
                                    ∀ l67 : Sl,
                                    ∀ n68 : Int,
                                    ∀ w69 : World,
                                    (I65 l67 n68 w69 →
                                      (((decide (n68 < 64) = true →
                                         ∀ w70 : World,
                                         (Drew w69 w70 →
                                           ∃ I71 : World → Prop, (I71 w70 ∧
                                            (((0 : Int) ≤ (7 : Int) ∧
                                              7 < (↑l67.2 : Int)) ∧
                                             ∃ a72 : Addr, (l67.1 = some a72 ∧
                                              ∃ n73 : Int, ((∀ w74 : World,
                                               (I71 w74 →
                                                 World.cell? w74 (Addr.add a72 (Int.toNat 7 * 1)) = some (Value.int IntKind.u32 n73))) ∧
                                               (((0 : Int) ≤ (4 : Int) ∧
                                                 4 < (↑l67.2 : Int)) ∧
                                                ∃ a75 : Addr, (l67.1 = some a75 ∧
                                                 ∃ n76 : Int, ((∀ w77 : World,
                                                  (I71 w77 →
                                                    World.cell? w77 (Addr.add a75 (Int.toNat 4 * 1)) = some (Value.int IntKind.u32 n76))) ∧
                                                  (((0 : Int) ≤ (4 : Int) ∧
                                                    4 < (↑l67.2 : Int)) ∧
                                                   ∃ a78 : Addr, (l67.1 = some a78 ∧
                                                    ∃ n79 : Int, ((∀ w80 : World,
                                                     (I71 w80 →
                                                       World.cell? w80 (Addr.add a78 (Int.toNat 4 * 1)) = some (Value.int IntKind.u32 n79))) ∧
                                                     (((0 : Int) ≤ (4 : Int) ∧
                                                       4 < (↑l67.2 : Int)) ∧
                                                      ∃ a81 : Addr, (l67.1 = some a81 ∧
                                                       ∃ n82 : Int, ((∀ w83 : World,
                                                        (I71 w83 →
                                                          World.cell? w83 (Addr.add a81 (Int.toNat 4 * 1)) = some (Value.int IntKind.u32 n82))) ∧
                                                        (((0 : Int) ≤ (4 : Int) ∧
                                                          4 < (↑l67.2 : Int)) ∧
                                                         ∃ a84 : Addr, (l67.1 = some a84 ∧
                                                          ∃ n85 : Int, ((∀ w86 : World,
                                                           (I71 w86 →
                                                             World.cell? w86 (Addr.add a84 (Int.toNat 4 * 1)) = some (Value.int IntKind.u32 n85))) ∧
                                                           (((0 : Int) ≤ (5 : Int) ∧
                                                             5 < (↑l67.2 : Int)) ∧
                                                            ∃ a87 : Addr, (l67.1 = some a87 ∧
                                                             ∃ n88 : Int, ((∀ w89 : World,
                                                              (I71 w89 →
                                                                World.cell? w89 (Addr.add a87 (Int.toNat 5 * 1)) = some (Value.int IntKind.u32 n88))) ∧
                                                              (((0 : Int) ≤ (4 : Int) ∧
                                                                4 < (↑l67.2 : Int)) ∧
                                                               ∃ a90 : Addr, (l67.1 = some a90 ∧
                                                                ∃ n91 : Int, ((∀ w92 : World,
                                                                 (I71 w92 →
                                                                   World.cell? w92 (Addr.add a90 (Int.toNat 4 * 1)) = some (Value.int IntKind.u32 n91))) ∧
                                                                 (((0 : Int) ≤ (6 : Int) ∧
                                                                   6 < (↑l67.2 : Int)) ∧
                                                                  ∃ a93 : Addr, (l67.1 = some a93 ∧
                                                                   ∃ n94 : Int, ((∀ w95 : World,
                                                                    (I71 w95 →
                                                                      World.cell? w95 (Addr.add a93 (Int.toNat 6 * 1)) = some (Value.int IntKind.u32 n94))) ∧
                                                                    ((0 ≤ n68 ∧
                                                                      n68 < (↑x1n : Int)) ∧
                                                                     ∃ a96 : Addr, (x1a = some a96 ∧
                                                                      ∃ n97 : Int, ((∀ w98 : World,
                                                                       (I71 w98 →
                                                                         World.cell? w98 (Addr.add a96 (Int.toNat n68 * 1)) = some (Value.int IntKind.u32 n97))) ∧
                                                                       ((0 ≤ n68 ∧
                                                                         n68 < (↑l31.2 : Int)) ∧
                                                                        ∃ a99 : Addr, (l31.1 = some a99 ∧
                                                                         ∃ n100 : Int, ((∀ w101 : World,
                                                                          (I71 w101 →
                                                                            World.cell? w101 (Addr.add a99 (Int.toNat n68 * 1)) = some (Value.int IntKind.u32 n100))) ∧
                                                                          Calls Try.prog (59 : Nat) (Array.mk [Value.int IntKind.u32 n76, Value.int IntKind.i64 26]) (w70) (fun e102 w103 =>
                                                                            ∃ n104 : Int, (e102 = Ending.returned (Value.int IntKind.u32 n104) ∧
                                                                             (I71 w103 ∧
                                                                              Calls Try.prog (59 : Nat) (Array.mk [Value.int IntKind.u32 n79, Value.int IntKind.i64 21]) (w103) (fun e105 w106 =>
                                                                                ∃ n107 : Int, (e105 = Ending.returned (Value.int IntKind.u32 n107) ∧
                                                                                 (I71 w106 ∧
                                                                                  Calls Try.prog (59 : Nat) (Array.mk [Value.int IntKind.u32 n82, Value.int IntKind.i64 7]) (w106) (fun e108 w109 =>
                                                                                    ∃ n110 : Int, (e108 = Ending.returned (Value.int IntKind.u32 n110) ∧
                                                                                     (I71 w109 ∧
                                                                                      ∀ w111 : World,
                                                                                      (Drew w109 w111 →
                                                                                        ∃ I112 : World → Prop, (I112 w111 ∧
                                                                                         (((0 : Int) ≤ (0 : Int) ∧
                                                                                           0 < (↑l67.2 : Int)) ∧
                                                                                          ∃ a113 : Addr, (l67.1 = some a113 ∧
                                                                                           ∃ n114 : Int, ((∀ w115 : World,
                                                                                            (I112 w115 →
                                                                                              World.cell? w115 (Addr.add a113 (Int.toNat 0 * 1)) = some (Value.int IntKind.u32 n114))) ∧
                                                                                            (((0 : Int) ≤ (0 : Int) ∧
                                                                                              0 < (↑l67.2 : Int)) ∧
                                                                                             ∃ a116 : Addr, (l67.1 = some a116 ∧
                                                                                              ∃ n117 : Int, ((∀ w118 : World,
                                                                                               (I112 w118 →
                                                                                                 World.cell? w118 (Addr.add a116 (Int.toNat 0 * 1)) = some (Value.int IntKind.u32 n117))) ∧
                                                                                               (((0 : Int) ≤ (0 : Int) ∧
                                                                                                 0 < (↑l67.2 : Int)) ∧
                                                                                                ∃ a119 : Addr, (l67.1 = some a119 ∧
                                                                                                 ∃ n120 : Int, ((∀ w121 : World,
                                                                                                  (I112 w121 →
                                                                                                    World.cell? w121 (Addr.add a119 (Int.toNat 0 * 1)) = some (Value.int IntKind.u32 n120))) ∧
                                                                                                  (((0 : Int) ≤ (0 : Int) ∧
                                                                                                    0 < (↑l67.2 : Int)) ∧
                                                                                                   ∃ a122 : Addr, (l67.1 = some a122 ∧
                                                                                                    ∃ n123 : Int, ((∀ w124 : World,
                                                                                                     (I112 w124 →
                                                                                                       World.cell? w124 (Addr.add a122 (Int.toNat 0 * 1)) = some (Value.int IntKind.u32 n123))) ∧
                                                                                                     (((0 : Int) ≤ (1 : Int) ∧
                                                                                                       1 < (↑l67.2 : Int)) ∧
                                                                                                      ∃ a125 : Addr, (l67.1 = some a125 ∧
                                                                                                       ∃ n126 : Int, ((∀ w127 : World,
                                                                                                        (I112 w127 →
                                                                                                          World.cell? w127 (Addr.add a125 (Int.toNat 1 * 1)) = some (Value.int IntKind.u32 n126))) ∧
                                                                                                        (((0 : Int) ≤ (0 : Int) ∧
                                                                                                          0 < (↑l67.2 : Int)) ∧
                                                                                                         ∃ a128 : Addr, (l67.1 = some a128 ∧
                                                                                                          ∃ n129 : Int, ((∀ w130 : World,
                                                                                                           (I112 w130 →
                                                                                                             World.cell? w130 (Addr.add a128 (Int.toNat 0 * 1)) = some (Value.int IntKind.u32 n129))) ∧
                                                                                                           (((0 : Int) ≤ (2 : Int) ∧
                                                                                                             2 < (↑l67.2 : Int)) ∧
                                                                                                            ∃ a131 : Addr, (l67.1 = some a131 ∧
                                                                                                             ∃ n132 : Int, ((∀ w133 : World,
                                                                                                              (I112 w133 →
                                                                                                                World.cell? w133 (Addr.add a131 (Int.toNat 2 * 1)) = some (Value.int IntKind.u32 n132))) ∧
                                                                                                              (((0 : Int) ≤ (1 : Int) ∧
                                                                                                                1 < (↑l67.2 : Int)) ∧
                                                                                                               ∃ a134 : Addr, (l67.1 = some a134 ∧
                                                                                                                ∃ n135 : Int, ((∀ w136 : World,
                                                                                                                 (I112 w136 →
                                                                                                                   World.cell? w136 (Addr.add a134 (Int.toNat 1 * 1)) = some (Value.int IntKind.u32 n135))) ∧
                                                                                                                 (((0 : Int) ≤ (2 : Int) ∧
                                                                                                                   2 < (↑l67.2 : Int)) ∧
                                                                                                                  ∃ a137 : Addr, (l67.1 = some a137 ∧
                                                                                                                   ∃ n138 : Int, ((∀ w139 : World,
                                                                                                                    (I112 w139 →
                                                                                                                      World.cell? w139 (Addr.add a137 (Int.toNat 2 * 1)) = some (Value.int IntKind.u32 n138))) ∧
                                                                                                                    Calls Try.prog (59 : Nat) (Array.mk [Value.int IntKind.u32 n114, Value.int IntKind.i64 30]) (w111) (fun e140 w141 =>
                                                                                                                      ∃ n142 : Int, (e140 = Ending.returned (Value.int IntKind.u32 n142) ∧
                                                                                                                       (I112 w141 ∧
                                                                                                                        Calls Try.prog (59 : Nat) (Array.mk [Value.int IntKind.u32 n117, Value.int IntKind.i64 19]) (w141) (fun e143 w144 =>
                                                                                                                          ∃ n145 : Int, (e143 = Ending.returned (Value.int IntKind.u32 n145) ∧
                                                                                                                           (I112 w144 ∧
                                                                                                                            Calls Try.prog (59 : Nat) (Array.mk [Value.int IntKind.u32 n120, Value.int IntKind.i64 10]) (w144) (fun e146 w147 =>
                                                                                                                              ∃ n148 : Int, (e146 = Ending.returned (Value.int IntKind.u32 n148) ∧
                                                                                                                               (I112 w147 ∧
                                                                                                                                ∀ w149 : World,
                                                                                                                                (Drew w147 w149 →
                                                                                                                                  (((0 : Int) ≤ (0 : Int) ∧
                                                                                                                                    0 < (↑l67.2 : Int)) ∧
                                                                                                                                   ∃ a150 : Addr, (l67.1 = some a150 ∧
                                                                                                                                    ∃ n151 : Int, (World.cell? w149 (Addr.add a150 (Int.toNat 0 * 1)) = some (Value.int IntKind.u32 n151) ∧
                                                                                                                                     (((0 : Int) ≤ (1 : Int) ∧
                                                                                                                                       1 < (↑l67.2 : Int)) ∧
                                                                                                                                      ∃ a152 : Addr, (l67.1 = some a152 ∧
                                                                                                                                       ∃ n153 : Int, (World.cell? w149 (Addr.add a152 (Int.toNat 1 * 1)) = some (Value.int IntKind.u32 n153) ∧
                                                                                                                                        (((0 : Int) ≤ (2 : Int) ∧
                                                                                                                                          2 < (↑l67.2 : Int)) ∧
                                                                                                                                         ∃ a154 : Addr, (l67.1 = some a154 ∧
                                                                                                                                          ∃ n155 : Int, (World.cell? w149 (Addr.add a154 (Int.toNat 2 * 1)) = some (Value.int IntKind.u32 n155) ∧
                                                                                                                                           (((0 : Int) ≤ (3 : Int) ∧
                                                                                                                                             3 < (↑l67.2 : Int)) ∧
                                                                                                                                            ∃ a156 : Addr, (l67.1 = some a156 ∧
                                                                                                                                             ∃ n157 : Int, (World.cell? w149 (Addr.add a156 (Int.toNat 3 * 1)) = some (Value.int IntKind.u32 n157) ∧
                                                                                                                                              (((0 : Int) ≤ (4 : Int) ∧
                                                                                                                                                4 < (↑l67.2 : Int)) ∧
                                                                                                                                               ∃ a158 : Addr, (l67.1 = some a158 ∧
                                                                                                                                                ∃ n159 : Int, (World.cell? w149 (Addr.add a158 (Int.toNat 4 * 1)) = some (Value.int IntKind.u32 n159) ∧
                                                                                                                                                 (((0 : Int) ≤ (5 : Int) ∧
                                                                                                                                                   5 < (↑l67.2 : Int)) ∧
                                                                                                                                                  ∃ a160 : Addr, (l67.1 = some a160 ∧
                                                                                                                                                   ∃ n161 : Int, (World.cell? w149 (Addr.add a160 (Int.toNat 5 * 1)) = some (Value.int IntKind.u32 n161) ∧
                                                                                                                                                    (((0 : Int) ≤ (6 : Int) ∧
                                                                                                                                                      6 < (↑l67.2 : Int)) ∧
                                                                                                                                                     ∃ a162 : Addr, (l67.1 = some a162 ∧
                                                                                                                                                      ∃ n163 : Int, (World.cell? w149 (Addr.add a162 (Int.toNat 6 * 1)) = some (Value.int IntKind.u32 n163) ∧
                                                                                                                                                       ∀ w164 : World,
                                                                                                                                                       (w164 = World.alloc w149 (Obj.cells (Array.mk [Value.int IntKind.u32 (IntKind.wrap IntKind.u32 (IntKind.wrap IntKind.u32 (IntKind.wrap IntKind.u32 (IntKind.wrap IntKind.u32 (IntKind.wrap IntKind.u32 (n73 + IntKind.wrap IntKind.u32 (↑(BitVec.toNat (BitVec.ofInt 32 (IntKind.wrap IntKind.u32 (↑(BitVec.toNat (BitVec.ofInt 32 n104 ^^^ BitVec.ofInt 32 n107)) : Int)) ^^^ BitVec.ofInt 32 n110)) : Int)) + IntKind.wrap IntKind.u32 (↑(BitVec.toNat (BitVec.ofInt 32 (IntKind.wrap IntKind.u32 (↑(BitVec.toNat (BitVec.ofInt 32 n85 &&& BitVec.ofInt 32 n88)) : Int)) ^^^ BitVec.ofInt 32 (IntKind.wrap IntKind.u32 (↑(BitVec.toNat (BitVec.ofInt 32 (IntKind.wrap IntKind.u32 (↑(BitVec.toNat (BitVec.ofInt 32 n91 ^^^ BitVec.ofInt 32 4294967295)) : Int)) &&& BitVec.ofInt 32 n94)) : Int)))) : Int)) + n97) + n100) + IntKind.wrap IntKind.u32 (IntKind.wrap IntKind.u32 (↑(BitVec.toNat (BitVec.ofInt 32 (IntKind.wrap IntKind.u32 (↑(BitVec.toNat (BitVec.ofInt 32 n142 ^^^ BitVec.ofInt 32 n145)) : Int)) ^^^ BitVec.ofInt 32 n148)) : Int) + IntKind.wrap IntKind.u32 (↑(BitVec.toNat (BitVec.ofInt 32 (IntKind.wrap IntKind.u32 (↑(BitVec.toNat (BitVec.ofInt 32 (IntKind.wrap IntKind.u32 (↑(BitVec.toNat (BitVec.ofInt 32 n123 &&& BitVec.ofInt 32 n126)) : Int)) ^^^ BitVec.ofInt 32 (IntKind.wrap IntKind.u32 (↑(BitVec.toNat (BitVec.ofInt 32 n129 &&& BitVec.ofInt 32 n132)) : Int)))) : Int)) ^^^ BitVec.ofInt 32 (IntKind.wrap IntKind.u32 (↑(BitVec.toNat (BitVec.ofInt 32 n135 &&& BitVec.ofInt 32 n138)) : Int)))) : Int)))), Value.int IntKind.u32 n151, Value.int IntKind.u32 n153, Value.int IntKind.u32 n155, Value.int IntKind.u32 (IntKind.wrap IntKind.u32 (n157 + IntKind.wrap IntKind.u32 (IntKind.wrap IntKind.u32 (IntKind.wrap IntKind.u32 (IntKind.wrap IntKind.u32 (n73 + IntKind.wrap IntKind.u32 (↑(BitVec.toNat (BitVec.ofInt 32 (IntKind.wrap IntKind.u32 (↑(BitVec.toNat (BitVec.ofInt 32 n104 ^^^ BitVec.ofInt 32 n107)) : Int)) ^^^ BitVec.ofInt 32 n110)) : Int)) + IntKind.wrap IntKind.u32 (↑(BitVec.toNat (BitVec.ofInt 32 (IntKind.wrap IntKind.u32 (↑(BitVec.toNat (BitVec.ofInt 32 n85 &&& BitVec.ofInt 32 n88)) : Int)) ^^^ BitVec.ofInt 32 (IntKind.wrap IntKind.u32 (↑(BitVec.toNat (BitVec.ofInt 32 (IntKind.wrap IntKind.u32 (↑(BitVec.toNat (BitVec.ofInt 32 n91 ^^^ BitVec.ofInt 32 4294967295)) : Int)) &&& BitVec.ofInt 32 n94)) : Int)))) : Int)) + n97) + n100))), Value.int IntKind.u32 n159, Value.int IntKind.u32 n161, Value.int IntKind.u32 n163]) 26) →
                                                                                                                                                         (I65 (Sl.mk (some (Addr.mk (Array.size (World.heap w149)) 0 none)) 8 8) (IntKind.wrap IntKind.i64 (n68 + 1)) w164 ∧
                                                                                                                                                          I66 (Sl.mk (some (Addr.mk (Array.size (World.heap w149)) 0 none)) 8 8) (IntKind.wrap IntKind.i64 (n68 + 1)) w164 < I66 l67 n68 w69))))))))))))))))))))))))))))))))))))))))))))))))))))))))))))))))))))))))))))))))))))))))))))))))))))))))) ∧
                                       (decide (n68 < 64) = false →
                                         ∀ w165 : World,
                                         (w165 = World.alloc w69 (Obj.cells (Array.mk []) 26) →
                                           ∃ I166 : Sl → Int → World → Prop, ∃ I167 : Sl → Int → World → Nat, (I166 (Sl.mk (some (Addr.mk (Array.size (World.heap w69)) 0 none)) 0 0) 0 w165 ∧
                                            ∀ l168 : Sl,
                                            ∀ n169 : Int,
                                            ∀ w170 : World,
                                            (I166 l168 n169 w170 →
                                              (((decide (n169 < (↑l23.2 : Int)) = true →
                                                 ∀ w171 : World,
                                                 (Drew w170 w171 →
                                                   ∃ I172 : World → Prop, (I172 w171 ∧
                                                    ((0 ≤ n169 ∧
                                                      n169 < (↑l23.2 : Int)) ∧
                                                     ∃ a173 : Addr, (l23.1 = some a173 ∧
                                                      ∃ n174 : Int, ((∀ w175 : World,
                                                       (I172 w175 →
                                                         World.cell? w175 (Addr.add a173 (Int.toNat n169 * 1)) = some (Value.int IntKind.u32 n174))) ∧
                                                       ((0 ≤ n169 ∧
                                                         n169 < (↑l67.2 : Int)) ∧
                                                        ∃ a176 : Addr, (l67.1 = some a176 ∧
                                                         ∃ n177 : Int, ((∀ w178 : World,
                                                          (I172 w178 →
                                                            World.cell? w178 (Addr.add a176 (Int.toNat n169 * 1)) = some (Value.int IntKind.u32 n177))) ∧
                                                          ∀ w179 : World,
                                                          (w179 = World.alloc w171 (Obj.cells (Array.mk [Value.int IntKind.u32 (IntKind.wrap IntKind.u32 (n174 + n177))]) 26) →
                                                            (I172 w179 ∧
                                                             ∃ w180 : World, ∃ l181 : Sl, (Sem.run Try.prog (Builtin.append_ (Array.mk [56, 56]) 56 (Array.mk [Value.slice l168.1 l168.2 l168.3, Value.slice (some (Addr.mk (Array.size (World.heap w171)) 0 none)) 1 1])) w179 = Result.ok (Value.slice l181.1 l181.2 l181.3) w180 ∧
                                                              (I172 w180 ∧
                                                               (I166 (Sl.mk l181.1 l181.2 l181.3) (IntKind.wrap IntKind.i64 (n169 + 1)) w180 ∧
                                                                I167 (Sl.mk l181.1 l181.2 l181.3) (IntKind.wrap IntKind.i64 (n169 + 1)) w180 < I167 l168 n169 w170))))))))))))))) ∧
                                               (decide (n169 < (↑l23.2 : Int)) = false →
                                                 (I21 (Sl.mk l168.1 l168.2 l168.3) (IntKind.wrap IntKind.i64 (n24 + 64)) w170 ∧
                                                  I22 (Sl.mk l168.1 l168.2 l168.3) (IntKind.wrap IntKind.i64 (n24 + 64)) w170 < I22 l23 n24 w25))))))))))))))))))))) ∧
                    (decide (n24 < (↑l3.2 : Int)) = false →
                      Calls Try.prog (60 : Nat) (Array.mk [Value.slice l23.1 l23.2 l23.3]) (w25) (fun e182 w183 =>
                        ∃ s184 : ByteArray, (e182 = Ending.returned (Value.string s184) ∧
                         R (Value.string s184) w183)))))))))))))))
theorem vc_cartularyref02_Sum256_ok {x0 : ByteArray} {x1a : Option Addr} {x1n : Nat} {x1c : Nat} {w : World} {R : Value → World → Prop} {R' : Ending → World → Prop} (h : vc_cartularyref02_Sum256 x0 x1a x1n x1c w R) (hR : ∀ v w', R v w' → R' (.returned v) w') :
    Calls Try.prog 48 #[.string x0, .slice x1a x1n x1c] w R' :=
  calls_of_body (vs := [(.string x0, false), (.slice x1a x1n x1c, false)]) (ty := ty) (ann := ⟨[], [(4, [(6, .slice), (25, .int .i64)]), (9, [(6, .slice), (9, .int .i64)]), (13, [(10, .slice), (11, .int .i64)]), (19, [(14, .slice), (15, .int .i64)]), (26, [(18, .slice), (213, .int .i64)])], [(15, .quiet), (16, .held [(0, true), (1, true), (2, true), (3, true), (4, true), (5, true), (6, true), (8, true), (11, true), (12, true), (15, true), (16, true), (17, true), (18, true), (19, true), (21, true), (23, true), (26, true), (27, true), (7, false), (9, false), (10, true), (13, true), (14, true), (20, true), (22, false), (24, false), (25, true), (28, true), (29, true), (30, false), (31, false), (32, true)]), (21, .held [(0, true), (1, true), (2, true), (3, true), (4, true), (5, true), (7, true), (8, true), (9, true), (12, true), (13, true), (14, true), (18, true), (19, true), (20, true), (21, true), (22, true), (23, true), (24, true), (25, true), (26, true), (27, true), (28, true), (29, true), (30, true), (31, true), (32, true), (33, true), (35, true), (36, true), (37, true), (38, true), (40, true), (41, true), (42, true), (43, true), (6, false), (10, false), (11, true), (15, false), (16, true), (17, true), (34, true), (39, true), (44, true), (45, true)]), (22, .held [(0, true), (1, true), (2, true), (4, true), (5, true), (6, true), (9, true), (10, true), (11, true), (14, true), (15, true), (16, true), (17, true), (18, true), (19, true), (20, true), (21, true), (22, true), (23, true), (24, true), (25, true), (26, true), (27, true), (28, true), (29, true), (30, true), (31, true), (32, true), (33, true), (34, true), (35, true), (36, true), (3, false), (7, false), (8, true), (12, false), (13, true), (37, true), (38, true)]), (23, .tail 26), (28, .held [(0, true), (1, true), (2, true), (3, true), (4, true), (5, true), (6, true), (7, true), (8, true), (9, true), (10, false), (11, false), (12, true)])], []⟩) (c := Try.f48.body.getD .skip) (by kernel_rfl) Try.func48 (by kernel_rfl) (by kernel_rfl) (Eq.mp (by kernel_rfl) h) hR
/-- cartularyref02.Table -/
def vc_cartularyref02_Table (w : World) (R : Value → World → Prop) : Prop :=
  ∀ w1 : World,
  (w1 = World.alloc w (Obj.cells (Array.mk []) 26) →
    Calls Try.prog (61 : Nat) (Array.mk [Value.int IntKind.i64 (64 : Int)]) (w1) (fun e2 w3 =>
      ∃ l4 : Sl, (e2 = Ending.returned (Value.slice l4.1 l4.2 l4.3) ∧
       ∃ I5 : Sl → Int → World → Prop, ∃ I6 : Sl → Int → World → Nat, (I5 (Sl.mk (some (Addr.mk (Array.size (World.heap w)) 0 none)) 0 0) 0 w3 ∧
        ∀ l7 : Sl,
        ∀ n8 : Int,
        ∀ w9 : World,
        (I5 l7 n8 w9 →
          (((decide (n8 < (↑l4.2 : Int)) = true →
             ((0 ≤ n8 ∧
               n8 < (↑l4.2 : Int)) ∧
              ∃ a10 : Addr, (l4.1 = some a10 ∧
               ∃ n11 : Int, (World.cell? w9 (Addr.add a10 (Int.toNat n8 * 1)) = some (Value.int IntKind.u64 n11) ∧
                Calls Try.prog (62 : Nat) (Array.mk [Value.int IntKind.i64 3, Value.int IntKind.u64 n11]) (w9) (fun e12 w13 =>
                  ∃ n14 : Int, (e12 = Ending.returned (Value.int IntKind.u32 n14) ∧
                   ∀ w15 : World,
                   (w15 = World.alloc w13 (Obj.cells (Array.mk [Value.int IntKind.u32 n14]) 26) →
                     ∃ w16 : World, ∃ l17 : Sl, (Sem.run Try.prog (Builtin.append_ (Array.mk [56, 56]) 56 (Array.mk [Value.slice l7.1 l7.2 l7.3, Value.slice (some (Addr.mk (Array.size (World.heap w13)) 0 none)) 1 1])) w15 = Result.ok (Value.slice l17.1 l17.2 l17.3) w16 ∧
                      (I5 (Sl.mk l17.1 l17.2 l17.3) (IntKind.wrap IntKind.i64 (n8 + 1)) w16 ∧
                       I6 (Sl.mk l17.1 l17.2 l17.3) (IntKind.wrap IntKind.i64 (n8 + 1)) w16 < I6 l7 n8 w9)))))))))) ∧
           (decide (n8 < (↑l4.2 : Int)) = false →
             R (Value.slice l7.1 l7.2 l7.3) w9)))))))
theorem vc_cartularyref02_Table_ok {w : World} {R : Value → World → Prop} {R' : Ending → World → Prop} (h : vc_cartularyref02_Table w R) (hR : ∀ v w', R v w' → R' (.returned v) w') :
    Calls Try.prog 49 #[] w R' :=
  calls_of_body (vs := []) (ty := ty) (ann := ⟨[], [(3, [(1, .slice), (7, .int .i64)])], [], []⟩) (c := Try.f49.body.getD .skip) (by kernel_rfl) Try.func49 (by kernel_rfl) (by kernel_rfl) (Eq.mp (by kernel_rfl) h) hR
/-- cartularyref01.Hex -/
def vc_cartularyref01_Hex (x0 : ByteArray) (w : World) (R : Value → World → Prop) : Prop :=
  ∃ I1 : ByteArray → Int → World → Prop, ∃ I2 : ByteArray → Int → World → Nat, (I1 (ByteArray.mk (Array.mk [])) 0 w ∧
   ∀ s3 : ByteArray,
   ∀ n4 : Int,
   ∀ w5 : World,
   (I1 s3 n4 w5 →
     (((decide (n4 < (↑(ByteArray.size x0) : Int)) = true →
        ((0 ≤ n4 ∧
          n4 < (↑(ByteArray.size x0) : Int)) ∧
         ((16 : Int) ≠ (0 : Int) ∧
          ((16 : Int) ≠ (0 : Int) ∧
           ((0 ≤ IntKind.wrap IntKind.u8 (Int.tdiv (byteAt x0 n4) 16) ∧
             (IntKind.wrap IntKind.u8 (Int.tdiv (byteAt x0 n4) 16) ≤ IntKind.wrap IntKind.u8 (IntKind.wrap IntKind.u8 (Int.tdiv (byteAt x0 n4) 16) + 1) ∧
              IntKind.wrap IntKind.u8 (IntKind.wrap IntKind.u8 (Int.tdiv (byteAt x0 n4) 16) + 1) ≤ (↑(ByteArray.size (ByteArray.mk (Array.mk [48, 49, 50, 51, 52, 53, 54, 55, 56, 57, 97, 98, 99, 100, 101, 102]))) : Int))) ∧
            ((16 : Int) ≠ (0 : Int) ∧
             ((16 : Int) ≠ (0 : Int) ∧
              ((0 ≤ Int.tmod (byteAt x0 n4) 16 ∧
                (Int.tmod (byteAt x0 n4) 16 ≤ IntKind.wrap IntKind.u8 (Int.tmod (byteAt x0 n4) 16 + 1) ∧
                 IntKind.wrap IntKind.u8 (Int.tmod (byteAt x0 n4) 16 + 1) ≤ (↑(ByteArray.size (ByteArray.mk (Array.mk [48, 49, 50, 51, 52, 53, 54, 55, 56, 57, 97, 98, 99, 100, 101, 102]))) : Int))) ∧
               (ByteArray.size (ByteArray.extract (ByteArray.mk (Array.mk [48, 49, 50, 51, 52, 53, 54, 55, 56, 57, 97, 98, 99, 100, 101, 102])) (Int.toNat (IntKind.wrap IntKind.u8 (Int.tdiv (byteAt x0 n4) 16))) (Int.toNat (IntKind.wrap IntKind.u8 (IntKind.wrap IntKind.u8 (Int.tdiv (byteAt x0 n4) 16) + 1)))) + ByteArray.size (ByteArray.extract (ByteArray.mk (Array.mk [48, 49, 50, 51, 52, 53, 54, 55, 56, 57, 97, 98, 99, 100, 101, 102])) (Int.toNat (Int.tmod (byteAt x0 n4) 16)) (Int.toNat (IntKind.wrap IntKind.u8 (Int.tmod (byteAt x0 n4) 16 + 1)))) ≤ 9223372036854775807 ∧
                (ByteArray.size s3 + ByteArray.size (ByteArray.extract (ByteArray.mk (Array.mk [48, 49, 50, 51, 52, 53, 54, 55, 56, 57, 97, 98, 99, 100, 101, 102])) (Int.toNat (IntKind.wrap IntKind.u8 (Int.tdiv (byteAt x0 n4) 16))) (Int.toNat (IntKind.wrap IntKind.u8 (IntKind.wrap IntKind.u8 (Int.tdiv (byteAt x0 n4) 16) + 1))) ++ ByteArray.extract (ByteArray.mk (Array.mk [48, 49, 50, 51, 52, 53, 54, 55, 56, 57, 97, 98, 99, 100, 101, 102])) (Int.toNat (Int.tmod (byteAt x0 n4) 16)) (Int.toNat (IntKind.wrap IntKind.u8 (Int.tmod (byteAt x0 n4) 16 + 1)))) ≤ 9223372036854775807 ∧
                 ∀ w6 : World,
                 (Drew w5 w6 →
                   (I1 (s3 ++ (ByteArray.extract (ByteArray.mk (Array.mk [48, 49, 50, 51, 52, 53, 54, 55, 56, 57, 97, 98, 99, 100, 101, 102])) (Int.toNat (IntKind.wrap IntKind.u8 (Int.tdiv (byteAt x0 n4) 16))) (Int.toNat (IntKind.wrap IntKind.u8 (IntKind.wrap IntKind.u8 (Int.tdiv (byteAt x0 n4) 16) + 1))) ++ ByteArray.extract (ByteArray.mk (Array.mk [48, 49, 50, 51, 52, 53, 54, 55, 56, 57, 97, 98, 99, 100, 101, 102])) (Int.toNat (Int.tmod (byteAt x0 n4) 16)) (Int.toNat (IntKind.wrap IntKind.u8 (Int.tmod (byteAt x0 n4) 16 + 1))))) (IntKind.wrap IntKind.i64 (n4 + 1)) w6 ∧
                    I2 (s3 ++ (ByteArray.extract (ByteArray.mk (Array.mk [48, 49, 50, 51, 52, 53, 54, 55, 56, 57, 97, 98, 99, 100, 101, 102])) (Int.toNat (IntKind.wrap IntKind.u8 (Int.tdiv (byteAt x0 n4) 16))) (Int.toNat (IntKind.wrap IntKind.u8 (IntKind.wrap IntKind.u8 (Int.tdiv (byteAt x0 n4) 16) + 1))) ++ ByteArray.extract (ByteArray.mk (Array.mk [48, 49, 50, 51, 52, 53, 54, 55, 56, 57, 97, 98, 99, 100, 101, 102])) (Int.toNat (Int.tmod (byteAt x0 n4) 16)) (Int.toNat (IntKind.wrap IntKind.u8 (Int.tmod (byteAt x0 n4) 16 + 1))))) (IntKind.wrap IntKind.i64 (n4 + 1)) w6 < I2 s3 n4 w5))))))))))))) ∧
      (decide (n4 < (↑(ByteArray.size x0) : Int)) = false →
        R (Value.string s3) w5))))
theorem vc_cartularyref01_Hex_ok {x0 : ByteArray} {w : World} {R : Value → World → Prop} {R' : Ending → World → Prop} (h : vc_cartularyref01_Hex x0 w R) (hR : ∀ v w', R v w' → R' (.returned v) w') :
    Calls Try.prog 56 #[.string x0] w R' :=
  calls_of_body (vs := [(.string x0, false)]) (ty := ty) (ann := ⟨[], [(3, [(3, .str), (4, .int .i64)])], [(6, .quiet)], []⟩) (c := Try.f56.body.getD .skip) (by kernel_rfl) Try.func56 (by kernel_rfl) (by kernel_rfl) (Eq.mp (by kernel_rfl) h) hR
end Go.Proofs.Ytcboiljbkkleiaa

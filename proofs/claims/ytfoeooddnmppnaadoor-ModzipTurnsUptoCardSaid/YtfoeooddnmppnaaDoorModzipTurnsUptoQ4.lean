/- Texts of this seat in one: made by a program of ours. -/
import Derived.Test.YtfoeooddnmppnaaDoorModzipTurnsUptoQ0
import Derived.Test.YtfoeooddnmppnaaDoorModzipTurnsUptoQ1
import Derived.Test.YtfoeooddnmppnaaDoorModzipTurnsUptoQ2
import Derived.Test.YtfoeooddnmppnaaDoorModzipTurnsUptoQ3
import Derived.Test.YtfoeooddnmppnaaDoorProg
import Derived.Laws.CopyRow
/- Formulas of 10 Go functions of this seat (written by a program of the author's, vcgen.py), and that each is enough for the call. No condition. -/
set_option linter.unusedVariables false
namespace Go.Proofs.YtfoeooddnmppnaaDoor
open Go Vc Go.Proofs
set_option maxRecDepth 100000
/-- cartularyref02.turn -/
def vc_cartularyref02_turn (x0 : Int) (x1 : Int) (w : World) (R : Value → World → Prop) : Prop :=
  (0 ≤ x1 ∧
   (0 ≤ IntKind.wrap IntKind.i64 (32 - x1) ∧
    ∀ w1 : World,
    (Drew w w1 →
      R (Value.int IntKind.u32 (IntKind.wrap IntKind.u32 (↑(BitVec.toNat (BitVec.ofInt 32 (IntKind.wrap IntKind.u32 (x0 * 2 ^ min (Int.toNat x1) 32)) ||| BitVec.ofInt 32 (Int.fdiv x0 (2 ^ min (Int.toNat (IntKind.wrap IntKind.i64 (32 - x1))) 32)))) : Int))) w1)))
theorem vc_cartularyref02_turn_ok {x0 : Int} {x1 : Int} {w : World} {R : Value → World → Prop} {R' : Ending → World → Prop} (h : vc_cartularyref02_turn x0 x1 w R) (hR : ∀ v w', R v w' → R' (.returned v) w') :
    Calls Tryd.prog 105 #[.int .u32 x0, .int .i64 x1] w R' :=
  calls_of_body (vs := [(.int .u32 x0, false), (.int .i64 x1, false)]) (ty := ty) (ann := ⟨[], [], [(1, .quiet)], []⟩) (c := Tryd.f105.body.getD .skip) (by kernel_rfl) Tryd.func105 (by kernel_rfl) (by kernel_rfl) (Eq.mp (by kernel_rfl) h) hR
/-- cartularyref02.Pad -/
def vc_cartularyref02_Pad (x0 : ByteArray) (w : World) (R : Value → World → Prop) : Prop :=
  ∃ w1 : World, ∃ l2 : Sl, (Sem.run Tryd.prog (convert 9 35 (Value.string x0)) w = Result.ok (Value.slice l2.1 l2.2 l2.3) w1 ∧
   ∀ w3 : World,
   (w3 = World.alloc w1 (Obj.cells (Array.mk [Value.int IntKind.u8 128]) 5) →
     ∃ w4 : World, ∃ l5 : Sl, (Sem.run Tryd.prog (Builtin.append_ (Array.mk [35, 35]) 35 (Array.mk [Value.slice l2.1 l2.2 l2.3, Value.slice (some (Addr.mk (Array.size (World.heap w1)) 0 none)) 1 1])) w3 = Result.ok (Value.slice l5.1 l5.2 l5.3) w4 ∧
      ∃ I6 : Sl → World → Prop, ∃ I7 : Sl → World → Nat, (I6 (Sl.mk l5.1 l5.2 l5.3) w4 ∧
       ∀ l8 : Sl,
       ∀ w9 : World,
       (I6 l8 w9 →
         ((64 : Int) ≠ (0 : Int) ∧
          ((((Int.tmod (↑l8.2 : Int) 64 != 56) = true →
             ∀ w10 : World,
             (w10 = World.alloc w9 (Obj.cells (Array.mk [Value.int IntKind.u8 0]) 5) →
               ∃ w11 : World, ∃ l12 : Sl, (Sem.run Tryd.prog (Builtin.append_ (Array.mk [35, 35]) 35 (Array.mk [Value.slice l8.1 l8.2 l8.3, Value.slice (some (Addr.mk (Array.size (World.heap w9)) 0 none)) 1 1])) w10 = Result.ok (Value.slice l12.1 l12.2 l12.3) w11 ∧
                (I6 (Sl.mk l12.1 l12.2 l12.3) w11 ∧
                 I7 (Sl.mk l12.1 l12.2 l12.3) w11 < I7 l8 w9))))) ∧
           ((Int.tmod (↑l8.2 : Int) 64 != 56) = false →
             ∃ I13 : Sl → Int → World → Prop, ∃ I14 : Sl → Int → World → Nat, (I13 (Sl.mk l8.1 l8.2 l8.3) 7 w9 ∧
              ∀ l15 : Sl,
              ∀ n16 : Int,
              ∀ w17 : World,
              (I13 l15 n16 w17 →
                (((decide (n16 ≥ 0) = true →
                   (0 ≤ IntKind.wrap IntKind.i64 (8 * n16) ∧
                    ∀ w18 : World,
                    (w18 = World.alloc w17 (Obj.cells (Array.mk [Value.int IntKind.u8 (IntKind.wrap IntKind.u8 (Int.fdiv (IntKind.wrap IntKind.u64 (IntKind.wrap IntKind.u64 (↑(ByteArray.size x0) : Int) * 8)) (2 ^ min (Int.toNat (IntKind.wrap IntKind.i64 (8 * n16))) 64)))]) 5) →
                      ∃ w19 : World, ∃ l20 : Sl, (Sem.run Tryd.prog (Builtin.append_ (Array.mk [35, 35]) 35 (Array.mk [Value.slice l15.1 l15.2 l15.3, Value.slice (some (Addr.mk (Array.size (World.heap w17)) 0 none)) 1 1])) w18 = Result.ok (Value.slice l20.1 l20.2 l20.3) w19 ∧
                       (I13 (Sl.mk l20.1 l20.2 l20.3) (IntKind.wrap IntKind.i64 (n16 - 1)) w19 ∧
                        I14 (Sl.mk l20.1 l20.2 l20.3) (IntKind.wrap IntKind.i64 (n16 - 1)) w19 < I14 l15 n16 w17)))))) ∧
                 (decide (n16 ≥ 0) = false →
                   R (Value.slice l15.1 l15.2 l15.3) w17))))))))))))
theorem vc_cartularyref02_Pad_ok {x0 : ByteArray} {w : World} {R : Value → World → Prop} {R' : Ending → World → Prop} (h : vc_cartularyref02_Pad x0 w R) (hR : ∀ v w', R v w' → R' (.returned v) w') :
    Calls Tryd.prog 103 #[.string x0] w R' :=
  calls_of_body (vs := [(.string x0, false)]) (ty := ty) (ann := ⟨[], [(2, [(3, .slice)]), (6, [(3, .slice), (5, .int .i64)])], [], []⟩) (c := Tryd.f103.body.getD .skip) (by kernel_rfl) Tryd.func103 (by kernel_rfl) (by kernel_rfl) (Eq.mp (by kernel_rfl) h) hR
/-- cartularyref02.words -/
def vc_cartularyref02_words (x0a : Option Addr) (x0n : Nat) (x0c : Nat) (w : World) (R : Value → World → Prop) : Prop :=
  ∀ w1 : World,
  (w1 = World.alloc w (Obj.cells (Array.mk []) 62) →
    ∃ I2 : Sl → Int → World → Prop, ∃ I3 : Sl → Int → World → Nat, (I2 (Sl.mk (some (Addr.mk (Array.size (World.heap w)) 0 none)) 0 0) 0 w1 ∧
     ∀ l4 : Sl,
     ∀ n5 : Int,
     ∀ w6 : World,
     (I2 l4 n5 w6 →
       (((decide (n5 < 64) = true →
          ∀ w7 : World,
          (Drew w6 w7 →
            ∃ I8 : World → Prop, (I8 w7 ∧
             ((0 ≤ n5 ∧
               n5 < (↑x0n : Int)) ∧
              ∃ a9 : Addr, (x0a = some a9 ∧
               ∃ n10 : Int, ((∀ w11 : World,
                (I8 w11 →
                  World.cell? w11 (Addr.add a9 (Int.toNat n5 * 1)) = some (Value.int IntKind.u8 n10))) ∧
                ((0 ≤ IntKind.wrap IntKind.i64 (n5 + 1) ∧
                  IntKind.wrap IntKind.i64 (n5 + 1) < (↑x0n : Int)) ∧
                 ∃ a12 : Addr, (x0a = some a12 ∧
                  ∃ n13 : Int, ((∀ w14 : World,
                   (I8 w14 →
                     World.cell? w14 (Addr.add a12 (Int.toNat (IntKind.wrap IntKind.i64 (n5 + 1)) * 1)) = some (Value.int IntKind.u8 n13))) ∧
                   ((0 ≤ IntKind.wrap IntKind.i64 (n5 + 2) ∧
                     IntKind.wrap IntKind.i64 (n5 + 2) < (↑x0n : Int)) ∧
                    ∃ a15 : Addr, (x0a = some a15 ∧
                     ∃ n16 : Int, ((∀ w17 : World,
                      (I8 w17 →
                        World.cell? w17 (Addr.add a15 (Int.toNat (IntKind.wrap IntKind.i64 (n5 + 2)) * 1)) = some (Value.int IntKind.u8 n16))) ∧
                      ((0 ≤ IntKind.wrap IntKind.i64 (n5 + 3) ∧
                        IntKind.wrap IntKind.i64 (n5 + 3) < (↑x0n : Int)) ∧
                       ∃ a18 : Addr, (x0a = some a18 ∧
                        ∃ n19 : Int, ((∀ w20 : World,
                         (I8 w20 →
                           World.cell? w20 (Addr.add a18 (Int.toNat (IntKind.wrap IntKind.i64 (n5 + 3)) * 1)) = some (Value.int IntKind.u8 n19))) ∧
                         ∀ w21 : World,
                         (w21 = World.alloc w7 (Obj.cells (Array.mk [Value.int IntKind.u32 (IntKind.wrap IntKind.u32 (IntKind.wrap IntKind.u32 (IntKind.wrap IntKind.u32 (IntKind.wrap IntKind.u32 (IntKind.wrap IntKind.u32 n10 * 16777216) + IntKind.wrap IntKind.u32 (IntKind.wrap IntKind.u32 n13 * 65536)) + IntKind.wrap IntKind.u32 (IntKind.wrap IntKind.u32 n16 * 256)) + IntKind.wrap IntKind.u32 n19))]) 62) →
                           (I8 w21 ∧
                            ∃ w22 : World, ∃ l23 : Sl, (Sem.run Tryd.prog (Builtin.append_ (Array.mk [44, 44]) 44 (Array.mk [Value.slice l4.1 l4.2 l4.3, Value.slice (some (Addr.mk (Array.size (World.heap w7)) 0 none)) 1 1])) w21 = Result.ok (Value.slice l23.1 l23.2 l23.3) w22 ∧
                             (I8 w22 ∧
                              (I2 (Sl.mk l23.1 l23.2 l23.3) (IntKind.wrap IntKind.i64 (n5 + 4)) w22 ∧
                               I3 (Sl.mk l23.1 l23.2 l23.3) (IntKind.wrap IntKind.i64 (n5 + 4)) w22 < I3 l4 n5 w6))))))))))))))))))))) ∧
        (decide (n5 < 64) = false →
          R (Value.slice l4.1 l4.2 l4.3) w6)))))
theorem vc_cartularyref02_words_ok {x0a : Option Addr} {x0n : Nat} {x0c : Nat} {w : World} {R : Value → World → Prop} {R' : Ending → World → Prop} (h : vc_cartularyref02_words x0a x0n x0c w R) (hR : ∀ v w', R v w' → R' (.returned v) w') :
    Calls Tryd.prog 104 #[.slice x0a x0n x0c] w R' :=
  calls_of_body (vs := [(.slice x0a x0n x0c, false)]) (ty := ty) (ann := ⟨[], [(3, [(3, .slice), (4, .int .i64)])], [(5, .held [(0, true), (1, true), (2, true), (3, true), (4, true), (5, true), (6, true), (7, true), (8, true), (9, true), (10, true), (11, true), (12, true), (13, true), (14, true), (15, true), (16, true), (17, true), (18, true), (19, true), (20, true), (21, true), (22, true), (23, true), (24, true), (25, true), (26, true), (27, true), (28, true), (29, true), (30, false), (31, false), (32, true)])], []⟩) (c := Tryd.f104.body.getD .skip) (by kernel_rfl) Tryd.func104 (by kernel_rfl) (by kernel_rfl) (Eq.mp (by kernel_rfl) h) hR
/-- cartularyref02.out -/
def vc_cartularyref02_out (x0a : Option Addr) (x0n : Nat) (x0c : Nat) (w : World) (R : Value → World → Prop) : Prop :=
  ∀ w1 : World,
  (w1 = World.alloc w (Obj.cells (Array.mk []) 5) →
    ∃ I2 : Sl → Int → World → Prop, ∃ I3 : Sl → Int → World → Nat, (I2 (Sl.mk (some (Addr.mk (Array.size (World.heap w)) 0 none)) 0 0) 0 w1 ∧
     ∀ l4 : Sl,
     ∀ n5 : Int,
     ∀ w6 : World,
     (I2 l4 n5 w6 →
       (((decide (n5 < (↑x0n : Int)) = true →
          ((0 ≤ n5 ∧
            n5 < (↑x0n : Int)) ∧
           ∃ a7 : Addr, (x0a = some a7 ∧
            ∃ n8 : Int, (World.cell? w6 (Addr.add a7 (Int.toNat n5 * 1)) = some (Value.int IntKind.u32 n8) ∧
             ((0 : Int) ≤ (24 : Int) ∧
              ((0 : Int) ≤ (16 : Int) ∧
               ((0 : Int) ≤ (8 : Int) ∧
                ∀ w9 : World,
                (w9 = World.alloc w6 (Obj.cells (Array.mk [Value.int IntKind.u8 (IntKind.wrap IntKind.u8 (Int.fdiv n8 (2 ^ min (Int.toNat 24) 32))), Value.int IntKind.u8 (IntKind.wrap IntKind.u8 (Int.fdiv n8 (2 ^ min (Int.toNat 16) 32))), Value.int IntKind.u8 (IntKind.wrap IntKind.u8 (Int.fdiv n8 (2 ^ min (Int.toNat 8) 32))), Value.int IntKind.u8 (IntKind.wrap IntKind.u8 n8)]) 5) →
                  ∃ w10 : World, ∃ l11 : Sl, (Sem.run Tryd.prog (Builtin.append_ (Array.mk [35, 35]) 35 (Array.mk [Value.slice l4.1 l4.2 l4.3, Value.slice (some (Addr.mk (Array.size (World.heap w6)) 0 none)) 4 4])) w9 = Result.ok (Value.slice l11.1 l11.2 l11.3) w10 ∧
                   (I2 (Sl.mk l11.1 l11.2 l11.3) (IntKind.wrap IntKind.i64 (n5 + 1)) w10 ∧
                    I3 (Sl.mk l11.1 l11.2 l11.3) (IntKind.wrap IntKind.i64 (n5 + 1)) w10 < I3 l4 n5 w6))))))))))) ∧
        (decide (n5 < (↑x0n : Int)) = false →
          ∃ w12 : World, ∃ s13 : ByteArray, (Sem.run Tryd.prog (convert 35 9 (Value.slice l4.1 l4.2 l4.3)) w6 = Result.ok (Value.string s13) w12 ∧
           R (Value.string s13) w12))))))
theorem vc_cartularyref02_out_ok {x0a : Option Addr} {x0n : Nat} {x0c : Nat} {w : World} {R : Value → World → Prop} {R' : Ending → World → Prop} (h : vc_cartularyref02_out x0a x0n x0c w R) (hR : ∀ v w', R v w' → R' (.returned v) w') :
    Calls Tryd.prog 106 #[.slice x0a x0n x0c] w R' :=
  calls_of_body (vs := [(.slice x0a x0n x0c, false)]) (ty := ty) (ann := ⟨[], [(3, [(3, .slice), (9, .int .i64)])], [], []⟩) (c := Tryd.f106.body.getD .skip) (by kernel_rfl) Tryd.func106 (by kernel_rfl) (by kernel_rfl) (Eq.mp (by kernel_rfl) h) hR
/-- cartularyref02.primes -/
def vc_cartularyref02_primes (x0 : Int) (w : World) (R : Value → World → Prop) : Prop :=
  ∀ w1 : World,
  (w1 = World.alloc w (Obj.cells (Array.mk []) 85) →
    ∃ I2 : Sl → Int → World → Prop, ∃ I3 : Sl → Int → World → Nat, (I2 (Sl.mk (some (Addr.mk (Array.size (World.heap w)) 0 none)) 0 0) 2 w1 ∧
     ∀ l4 : Sl,
     ∀ n5 : Int,
     ∀ w6 : World,
     (I2 l4 n5 w6 →
       (((decide ((↑l4.2 : Int) < x0) = true →
          ∃ I7 : Bool → Int → World → Prop, ∃ I8 : Bool → Int → World → Nat, (I7 true 0 w6 ∧
           ∀ b9 : Bool,
           ∀ n10 : Int,
           ∀ w11 : World,
           (I7 b9 n10 w11 →
             (((decide (n10 < (↑l4.2 : Int)) = true →
                ((0 ≤ n10 ∧
                  n10 < (↑l4.2 : Int)) ∧
                 ∃ a12 : Addr, (l4.1 = some a12 ∧
                  ∃ n13 : Int, (World.cell? w11 (Addr.add a12 (Int.toNat n10 * 1)) = some (Value.int IntKind.u64 n13) ∧
                   (((b9 = true →
                      (n13 ≠ 0 ∧
                       (I7 (Int.tmod n5 n13 != 0) (IntKind.wrap IntKind.i64 (n10 + 1)) w11 ∧
                        I8 (Int.tmod n5 n13 != 0) (IntKind.wrap IntKind.i64 (n10 + 1)) w11 < I8 b9 n10 w11)))) ∧
                    (b9 = false →
                      (I7 false (IntKind.wrap IntKind.i64 (n10 + 1)) w11 ∧
                       I8 false (IntKind.wrap IntKind.i64 (n10 + 1)) w11 < I8 b9 n10 w11)))))))) ∧
              (decide (n10 < (↑l4.2 : Int)) = false →
                (((b9 = true →
                   ∀ w14 : World,
                   (w14 = World.alloc w11 (Obj.cells (Array.mk [Value.int IntKind.u64 n5]) 85) →
                     ∃ w15 : World, ∃ l16 : Sl, (Sem.run Tryd.prog (Builtin.append_ (Array.mk [94, 94]) 94 (Array.mk [Value.slice l4.1 l4.2 l4.3, Value.slice (some (Addr.mk (Array.size (World.heap w11)) 0 none)) 1 1])) w14 = Result.ok (Value.slice l16.1 l16.2 l16.3) w15 ∧
                      (I2 (Sl.mk l16.1 l16.2 l16.3) (IntKind.wrap IntKind.u64 (n5 + 1)) w15 ∧
                       I3 (Sl.mk l16.1 l16.2 l16.3) (IntKind.wrap IntKind.u64 (n5 + 1)) w15 < I3 l4 n5 w6))))) ∧
                 (b9 = false →
                   (I2 (Sl.mk l4.1 l4.2 l4.3) (IntKind.wrap IntKind.u64 (n5 + 1)) w11 ∧
                    I3 (Sl.mk l4.1 l4.2 l4.3) (IntKind.wrap IntKind.u64 (n5 + 1)) w11 < I3 l4 n5 w6))))))))) ∧
        (decide ((↑l4.2 : Int) < x0) = false →
          R (Value.slice l4.1 l4.2 l4.3) w6)))))
theorem vc_cartularyref02_primes_ok {x0 : Int} {w : World} {R : Value → World → Prop} {R' : Ending → World → Prop} (h : vc_cartularyref02_primes x0 w R) (hR : ∀ v w', R v w' → R' (.returned v) w') :
    Calls Tryd.prog 60 #[.int .i64 x0] w R' :=
  calls_of_body (vs := [(.int .i64 x0, false)]) (ty := ty) (ann := ⟨[], [(3, [(3, .slice), (4, .int .u64)]), (7, [(5, .bool), (17, .int .i64)])], [], []⟩) (c := Tryd.f60.body.getD .skip) (by kernel_rfl) Tryd.func60 (by kernel_rfl) (by kernel_rfl) (Eq.mp (by kernel_rfl) h) hR
/-- cartularyref02.mul -/
def vc_cartularyref02_mul (x0 : Int) (x1 : Int) (w : World) (R : Value → World → Prop) : Prop :=
  ((0 : Int) ≤ (32 : Int) ∧
   ((0 : Int) ≤ (32 : Int) ∧
    ((0 : Int) ≤ (32 : Int) ∧
     ((0 : Int) ≤ (32 : Int) ∧
      ((0 : Int) ≤ (32 : Int) ∧
       R (Value.tuple (Array.mk [Value.int IntKind.u64 (IntKind.wrap IntKind.u64 (IntKind.wrap IntKind.u64 (IntKind.wrap IntKind.u64 (Int.fdiv x0 (2 ^ min (Int.toNat 32) 64) * Int.fdiv x1 (2 ^ min (Int.toNat 32) 64)) + Int.fdiv (IntKind.wrap IntKind.u64 (IntKind.wrap IntKind.u64 (IntKind.wrap IntKind.u64 (↑(BitVec.toNat (BitVec.ofInt 64 x0 &&& BitVec.ofInt 64 4294967295)) : Int) * Int.fdiv x1 (2 ^ min (Int.toNat 32) 64)) + Int.fdiv (IntKind.wrap IntKind.u64 (IntKind.wrap IntKind.u64 (↑(BitVec.toNat (BitVec.ofInt 64 x0 &&& BitVec.ofInt 64 4294967295)) : Int) * IntKind.wrap IntKind.u64 (↑(BitVec.toNat (BitVec.ofInt 64 x1 &&& BitVec.ofInt 64 4294967295)) : Int))) (2 ^ min (Int.toNat 32) 64))) (2 ^ min (Int.toNat 32) 64)) + Int.fdiv (IntKind.wrap IntKind.u64 (IntKind.wrap IntKind.u64 (Int.fdiv x0 (2 ^ min (Int.toNat 32) 64) * IntKind.wrap IntKind.u64 (↑(BitVec.toNat (BitVec.ofInt 64 x1 &&& BitVec.ofInt 64 4294967295)) : Int)) + IntKind.wrap IntKind.u64 (↑(BitVec.toNat (BitVec.ofInt 64 (IntKind.wrap IntKind.u64 (IntKind.wrap IntKind.u64 (IntKind.wrap IntKind.u64 (↑(BitVec.toNat (BitVec.ofInt 64 x0 &&& BitVec.ofInt 64 4294967295)) : Int) * Int.fdiv x1 (2 ^ min (Int.toNat 32) 64)) + Int.fdiv (IntKind.wrap IntKind.u64 (IntKind.wrap IntKind.u64 (↑(BitVec.toNat (BitVec.ofInt 64 x0 &&& BitVec.ofInt 64 4294967295)) : Int) * IntKind.wrap IntKind.u64 (↑(BitVec.toNat (BitVec.ofInt 64 x1 &&& BitVec.ofInt 64 4294967295)) : Int))) (2 ^ min (Int.toNat 32) 64))) &&& BitVec.ofInt 64 4294967295)) : Int))) (2 ^ min (Int.toNat 32) 64))), Value.int IntKind.u64 (IntKind.wrap IntKind.u64 (x0 * x1))])) w)))))
theorem vc_cartularyref02_mul_ok {x0 : Int} {x1 : Int} {w : World} {R : Value → World → Prop} {R' : Ending → World → Prop} (h : vc_cartularyref02_mul x0 x1 w R) (hR : ∀ v w', R v w' → R' (.returned v) w') :
    Calls Tryd.prog 132 #[.int .u64 x0, .int .u64 x1] w R' :=
  calls_of_body (vs := [(.int .u64 x0, false), (.int .u64 x1, false)]) (ty := ty) (ann := ⟨[], [], [], []⟩) (c := Tryd.f132.body.getD .skip) (by kernel_rfl) Tryd.func132 (by kernel_rfl) (by kernel_rfl) (Eq.mp (by kernel_rfl) h) hR
/-- cartularyref02.Roots -/
def vc_cartularyref02_Roots (x0 : Int) (x1 : Int) (w : World) (R : Value → World → Prop) : Prop :=
  ∃ I1 : Int → Int → World → Prop, ∃ I2 : Int → Int → World → Nat, (I1 0 40 w ∧
   ∀ n3 : Int,
   ∀ n4 : Int,
   ∀ w5 : World,
   (I1 n3 n4 w5 →
     (((decide (n4 ≥ 0) = true →
        (0 ≤ n4 ∧
         Calls Tryd.prog (107 : Nat) (Array.mk [Value.int IntKind.i64 x0, Value.int IntKind.u64 (IntKind.wrap IntKind.u64 (n3 + IntKind.wrap IntKind.u64 (1 * 2 ^ min (Int.toNat n4) 64))), Value.int IntKind.u64 x1]) (w5) (fun e6 w7 =>
           ∃ b8 : Bool, (e6 = Ending.returned (Value.bool b8) ∧
            (((b8 = true →
               (I1 (IntKind.wrap IntKind.u64 (n3 + IntKind.wrap IntKind.u64 (1 * 2 ^ min (Int.toNat n4) 64))) (IntKind.wrap IntKind.i64 (n4 - 1)) w7 ∧
                I2 (IntKind.wrap IntKind.u64 (n3 + IntKind.wrap IntKind.u64 (1 * 2 ^ min (Int.toNat n4) 64))) (IntKind.wrap IntKind.i64 (n4 - 1)) w7 < I2 n3 n4 w5))) ∧
             (b8 = false →
               (I1 n3 (IntKind.wrap IntKind.i64 (n4 - 1)) w7 ∧
                I2 n3 (IntKind.wrap IntKind.i64 (n4 - 1)) w7 < I2 n3 n4 w5)))))))) ∧
      (decide (n4 ≥ 0) = false →
        R (Value.int IntKind.u32 (IntKind.wrap IntKind.u32 n3)) w5))))
theorem vc_cartularyref02_Roots_ok {x0 : Int} {x1 : Int} {w : World} {R : Value → World → Prop} {R' : Ending → World → Prop} (h : vc_cartularyref02_Roots x0 x1 w R) (hR : ∀ v w', R v w' → R' (.returned v) w') :
    Calls Tryd.prog 61 #[.int .i64 x0, .int .u64 x1] w R' :=
  calls_of_body (vs := [(.int .i64 x0, false), (.int .u64 x1, false)]) (ty := ty) (ann := ⟨[], [(3, [(5, .int .u64), (6, .int .i64)])], [], []⟩) (c := Tryd.f61.body.getD .skip) (by kernel_rfl) Tryd.func61 (by kernel_rfl) (by kernel_rfl) (Eq.mp (by kernel_rfl) h) hR
/-- cartularyref02.under -/
def vc_cartularyref02_under (x0 : Int) (x1 : Int) (x2 : Int) (w : World) (R : Value → World → Prop) : Prop :=
  Calls Tryd.prog (132 : Nat) (Array.mk [Value.int IntKind.u64 x1, Value.int IntKind.u64 x1]) (w) (fun e1 w2 =>
    ∃ n3 : Int, ∃ n4 : Int, (e1 = Ending.returned (Value.tuple (Array.mk [Value.int IntKind.u64 n3, Value.int IntKind.u64 n4])) ∧
     ((((x0 == 2) = true →
        (((decide (n3 < x2) = true →
           R (Value.bool true) w2)) ∧
         (decide (n3 < x2) = false →
           ((((n3 == x2) = true →
              R (Value.bool (n4 == 0)) w2)) ∧
            ((n3 == x2) = false →
              R (Value.bool false) w2)))))) ∧
      ((x0 == 2) = false →
        Calls Tryd.prog (132 : Nat) (Array.mk [Value.int IntKind.u64 n4, Value.int IntKind.u64 x1]) (w2) (fun e5 w6 =>
          ∃ n7 : Int, ∃ n8 : Int, (e5 = Ending.returned (Value.tuple (Array.mk [Value.int IntKind.u64 n7, Value.int IntKind.u64 n8])) ∧
           Calls Tryd.prog (132 : Nat) (Array.mk [Value.int IntKind.u64 n3, Value.int IntKind.u64 x1]) (w6) (fun e9 w10 =>
             ∃ n11 : Int, ∃ n12 : Int, (e9 = Ending.returned (Value.tuple (Array.mk [Value.int IntKind.u64 n11, Value.int IntKind.u64 n12])) ∧
              ∃ I13 : Int → World → Prop, ((((decide (IntKind.wrap IntKind.u64 (n12 + n7) < n12) = true →
                  I13 (IntKind.wrap IntKind.u64 (n11 + 1)) w10)) ∧
                (decide (IntKind.wrap IntKind.u64 (n12 + n7) < n12) = false →
                  I13 n11 w10)) ∧
               ∀ n14 : Int,
               ∀ w15 : World,
               (I13 n14 w15 →
                 (((decide (n14 > 0) = true →
                    ((0 : Int) ≤ (32 : Int) ∧
                     (((decide (Int.fdiv x2 (2 ^ min (Int.toNat 32) 64) > n14) = true →
                        R (Value.bool true) w15)) ∧
                      (decide (Int.fdiv x2 (2 ^ min (Int.toNat 32) 64) > n14) = false →
                        ((0 : Int) ≤ (32 : Int) ∧
                         ((((Int.fdiv x2 (2 ^ min (Int.toNat 32) 64) == n14) = true →
                            ((0 : Int) ≤ (32 : Int) ∧
                             R (Value.bool (decide (IntKind.wrap IntKind.u64 (x2 * 2 ^ min (Int.toNat 32) 64) > IntKind.wrap IntKind.u64 (n12 + n7)))) w15))) ∧
                          ((Int.fdiv x2 (2 ^ min (Int.toNat 32) 64) == n14) = false →
                            R (Value.bool false) w15)))))))) ∧
                  (decide (n14 > 0) = false →
                    ((0 : Int) ≤ (32 : Int) ∧
                     (((decide (IntKind.wrap IntKind.u64 (n12 + n7) < IntKind.wrap IntKind.u64 (x2 * 2 ^ min (Int.toNat 32) 64)) = true →
                        R (Value.bool true) w15)) ∧
                      (decide (IntKind.wrap IntKind.u64 (n12 + n7) < IntKind.wrap IntKind.u64 (x2 * 2 ^ min (Int.toNat 32) 64)) = false →
                        ((0 : Int) ≤ (32 : Int) ∧
                         ((((IntKind.wrap IntKind.u64 (n12 + n7) == IntKind.wrap IntKind.u64 (x2 * 2 ^ min (Int.toNat 32) 64)) = true →
                            R (Value.bool (n8 == 0)) w15)) ∧
                          ((IntKind.wrap IntKind.u64 (n12 + n7) == IntKind.wrap IntKind.u64 (x2 * 2 ^ min (Int.toNat 32) 64)) = false →
                            R (Value.bool false) w15))))))))))))))))))
theorem vc_cartularyref02_under_ok {x0 : Int} {x1 : Int} {x2 : Int} {w : World} {R : Value → World → Prop} {R' : Ending → World → Prop} (h : vc_cartularyref02_under x0 x1 x2 w R) (hR : ∀ v w', R v w' → R' (.returned v) w') :
    Calls Tryd.prog 107 #[.int .i64 x0, .int .u64 x1, .int .u64 x2] w R' :=
  calls_of_body (vs := [(.int .i64 x0, false), (.int .u64 x1, false), (.int .u64 x2, false)]) (ty := ty) (ann := ⟨[(9, [(11, .int .u64)])], [], [], []⟩) (c := Tryd.f107.body.getD .skip) (by kernel_rfl) Tryd.func107 (by kernel_rfl) (by kernel_rfl) (Eq.mp (by kernel_rfl) h) hR
/-- cartularyref02.Sum256 -/
def vc_cartularyref02_Sum256 (x0 : ByteArray) (x1a : Option Addr) (x1n : Nat) (x1c : Nat) (w : World) (R : Value → World → Prop) : Prop :=
  Calls Tryd.prog (103 : Nat) (Array.mk [Value.string x0]) (w) (fun e1 w2 =>
    ∃ l3 : Sl, (e1 = Ending.returned (Value.slice l3.1 l3.2 l3.3) ∧
     ∀ w4 : World,
     (w4 = World.alloc w2 (Obj.cells (Array.mk []) 62) →
       Calls Tryd.prog (60 : Nat) (Array.mk [Value.int IntKind.i64 (8 : Int)]) (w4) (fun e5 w6 =>
         ∃ l7 : Sl, (e5 = Ending.returned (Value.slice l7.1 l7.2 l7.3) ∧
          ∃ I8 : Sl → Int → World → Prop, ∃ I9 : Sl → Int → World → Nat, (I8 (Sl.mk (some (Addr.mk (Array.size (World.heap w2)) 0 none)) 0 0) 0 w6 ∧
           ∀ l10 : Sl,
           ∀ n11 : Int,
           ∀ w12 : World,
           (I8 l10 n11 w12 →
             (((decide (n11 < (↑l7.2 : Int)) = true →
                ((0 ≤ n11 ∧
                  n11 < (↑l7.2 : Int)) ∧
                 ∃ a13 : Addr, (l7.1 = some a13 ∧
                  ∃ n14 : Int, (World.cell? w12 (Addr.add a13 (Int.toNat n11 * 1)) = some (Value.int IntKind.u64 n14) ∧
                   Calls Tryd.prog (61 : Nat) (Array.mk [Value.int IntKind.i64 2, Value.int IntKind.u64 n14]) (w12) (fun e15 w16 =>
                     ∃ n17 : Int, (e15 = Ending.returned (Value.int IntKind.u32 n17) ∧
                      ∀ w18 : World,
                      (w18 = World.alloc w16 (Obj.cells (Array.mk [Value.int IntKind.u32 n17]) 62) →
                        ∃ w19 : World, ∃ l20 : Sl, (Sem.run Tryd.prog (Builtin.append_ (Array.mk [44, 44]) 44 (Array.mk [Value.slice l10.1 l10.2 l10.3, Value.slice (some (Addr.mk (Array.size (World.heap w16)) 0 none)) 1 1])) w18 = Result.ok (Value.slice l20.1 l20.2 l20.3) w19 ∧
                         (I8 (Sl.mk l20.1 l20.2 l20.3) (IntKind.wrap IntKind.i64 (n11 + 1)) w19 ∧
                          I9 (Sl.mk l20.1 l20.2 l20.3) (IntKind.wrap IntKind.i64 (n11 + 1)) w19 < I9 l10 n11 w12)))))))))) ∧
              (decide (n11 < (↑l7.2 : Int)) = false →
                ∃ I21 : Sl → Int → World → Prop, ∃ I22 : Sl → Int → World → Nat, (I21 (Sl.mk l10.1 l10.2 l10.3) 0 w12 ∧
                 ∀ l23 : Sl,
                 ∀ n24 : Int,
                 ∀ w25 : World,
                 (I21 l23 n24 w25 →
                   (((decide (n24 < (↑l3.2 : Int)) = true →
                      ((0 ≤ n24 ∧
                        (n24 ≤ IntKind.wrap IntKind.i64 (n24 + 64) ∧
                         IntKind.wrap IntKind.i64 (n24 + 64) ≤ (↑l3.3 : Int))) ∧
                       Calls Tryd.prog (104 : Nat) (Array.mk [Value.slice (subA l3.1 l3.3 (Int.toNat n24) 1) (Int.toNat (IntKind.wrap IntKind.i64 (n24 + 64)) - Int.toNat n24) (l3.3 - Int.toNat n24)]) (w25) (fun e26 w27 =>
                         ∃ l28 : Sl, (e26 = Ending.returned (Value.slice l28.1 l28.2 l28.3) ∧
                          ∃ I29 : Sl → Int → World → Prop, ∃ I30 : Sl → Int → World → Nat, (I29 (Sl.mk l28.1 l28.2 l28.3) 16 w27 ∧
                           ∀ l31 : Sl,
                           ∀ n32 : Int,
                           ∀ w33 : World,
                           (I29 l31 n32 w33 →
                             (((decide (n32 < 64) = true →
                                ((0 ≤ IntKind.wrap IntKind.i64 (n32 - 15) ∧
                                  IntKind.wrap IntKind.i64 (n32 - 15) < (↑l31.2 : Int)) ∧
                                 ∃ a34 : Addr, (l31.1 = some a34 ∧
                                  ∃ n35 : Int, (World.cell? w33 (Addr.add a34 (Int.toNat (IntKind.wrap IntKind.i64 (n32 - 15)) * 1)) = some (Value.int IntKind.u32 n35) ∧
                                   ((0 ≤ IntKind.wrap IntKind.i64 (n32 - 2) ∧
                                     IntKind.wrap IntKind.i64 (n32 - 2) < (↑l31.2 : Int)) ∧
                                    ∃ a36 : Addr, (l31.1 = some a36 ∧
                                     ∃ n37 : Int, (World.cell? w33 (Addr.add a36 (Int.toNat (IntKind.wrap IntKind.i64 (n32 - 2)) * 1)) = some (Value.int IntKind.u32 n37) ∧
                                      ∀ w38 : World,
                                      (Drew w33 w38 →
                                        ∀ w39 : World,
                                        (Drew w38 w39 →
                                          ∃ I40 : World → Prop, (I40 w39 ∧
                                           ((0 ≤ IntKind.wrap IntKind.i64 (n32 - 16) ∧
                                             IntKind.wrap IntKind.i64 (n32 - 16) < (↑l31.2 : Int)) ∧
                                            ∃ a41 : Addr, (l31.1 = some a41 ∧
                                             ∃ n42 : Int, ((∀ w43 : World,
                                              (I40 w43 →
                                                World.cell? w43 (Addr.add a41 (Int.toNat (IntKind.wrap IntKind.i64 (n32 - 16)) * 1)) = some (Value.int IntKind.u32 n42))) ∧
                                              ((0 : Int) ≤ (3 : Int) ∧
                                               ((0 ≤ IntKind.wrap IntKind.i64 (n32 - 7) ∧
                                                 IntKind.wrap IntKind.i64 (n32 - 7) < (↑l31.2 : Int)) ∧
                                                ∃ a44 : Addr, (l31.1 = some a44 ∧
                                                 ∃ n45 : Int, ((∀ w46 : World,
                                                  (I40 w46 →
                                                    World.cell? w46 (Addr.add a44 (Int.toNat (IntKind.wrap IntKind.i64 (n32 - 7)) * 1)) = some (Value.int IntKind.u32 n45))) ∧
                                                  ((0 : Int) ≤ (10 : Int) ∧
                                                   Calls Tryd.prog (105 : Nat) (Array.mk [Value.int IntKind.u32 n35, Value.int IntKind.i64 25]) (w39) (fun e47 w48 =>
                                                     ∃ n49 : Int, (e47 = Ending.returned (Value.int IntKind.u32 n49) ∧
                                                      (I40 w48 ∧
                                                       Calls Tryd.prog (105 : Nat) (Array.mk [Value.int IntKind.u32 n35, Value.int IntKind.i64 14]) (w48) (fun e50 w51 =>
                                                         ∃ n52 : Int, (e50 = Ending.returned (Value.int IntKind.u32 n52) ∧
                                                          (I40 w51 ∧
                                                           Calls Tryd.prog (105 : Nat) (Array.mk [Value.int IntKind.u32 n37, Value.int IntKind.i64 15]) (w51) (fun e53 w54 =>
                                                             ∃ n55 : Int, (e53 = Ending.returned (Value.int IntKind.u32 n55) ∧
                                                              (I40 w54 ∧
                                                               Calls Tryd.prog (105 : Nat) (Array.mk [Value.int IntKind.u32 n37, Value.int IntKind.i64 13]) (w54) (fun e56 w57 =>
                                                                 ∃ n58 : Int, (e56 = Ending.returned (Value.int IntKind.u32 n58) ∧
                                                                  (I40 w57 ∧
                                                                   ∀ w59 : World,
                                                                   (w59 = World.alloc w57 (Obj.cells (Array.mk [Value.int IntKind.u32 (IntKind.wrap IntKind.u32 (IntKind.wrap IntKind.u32 (IntKind.wrap IntKind.u32 (n42 + IntKind.wrap IntKind.u32 (↑(BitVec.toNat (BitVec.ofInt 32 (IntKind.wrap IntKind.u32 (↑(BitVec.toNat (BitVec.ofInt 32 n49 ^^^ BitVec.ofInt 32 n52)) : Int)) ^^^ BitVec.ofInt 32 (Int.fdiv n35 (2 ^ min (Int.toNat 3) 32)))) : Int)) + n45) + IntKind.wrap IntKind.u32 (↑(BitVec.toNat (BitVec.ofInt 32 (IntKind.wrap IntKind.u32 (↑(BitVec.toNat (BitVec.ofInt 32 n55 ^^^ BitVec.ofInt 32 n58)) : Int)) ^^^ BitVec.ofInt 32 (Int.fdiv n37 (2 ^ min (Int.toNat 10) 32)))) : Int)))]) 62) →
                                                                     (I40 w59 ∧
                                                                      ∃ w60 : World, ∃ l61 : Sl, (Sem.run Tryd.prog (Builtin.append_ (Array.mk [44, 44]) 44 (Array.mk [Value.slice l31.1 l31.2 l31.3, Value.slice (some (Addr.mk (Array.size (World.heap w57)) 0 none)) 1 1])) w59 = Result.ok (Value.slice l61.1 l61.2 l61.3) w60 ∧
                                                                       (I40 w60 ∧
                                                                        (I29 (Sl.mk l61.1 l61.2 l61.3) (IntKind.wrap IntKind.i64 (n32 + 1)) w60 ∧
                                                                         I30 (Sl.mk l61.1 l61.2 l61.3) (IntKind.wrap IntKind.i64 (n32 + 1)) w60 < I30 l31 n32 w33)))))))))))))))))))))))))))))))))))) ∧
                              (decide (n32 < 64) = false →
                                ∀ w62 : World,
                                (w62 = World.alloc w33 (Obj.cells (Array.mk []) 62) →
                                  ∃ w63 : World, ∃ l64 : Sl, (Sem.run Tryd.prog (Builtin.append_ (Array.mk [44, 44]) 44 (Array.mk [Value.slice (some (Addr.mk (Array.size (World.heap w33)) 0 none)) 0 0, Value.slice l23.1 l23.2 l23.3])) w62 = Result.ok (Value.slice l64.1 l64.2 l64.3) w63 ∧
                                   ∃ I65 : Sl → Int → World → Prop, ∃ I66 : Sl → Int → World → Nat, (I65 (Sl.mk l64.1 l64.2 l64.3) 0 w63 ∧
                                    ∀ l67 : Sl,
                                    ∀ n68 : Int,
                                    ∀ w69 : World,
                                    (I65 l67 n68 w69 →
                                      (((decide (n68 < 64) = true →
                                         ∀ w70 : World,
                                         (Drew w69 w70 →
                                           ∃ I71 : World → Prop, (I71 w70 ∧
                                            (((0 : Int) ≤ (7 : Int) ∧
                                              7 < (↑l67.2 : Int)) ∧
                                             ∃ a72 : Addr, (l67.1 = some a72 ∧
                                              ∃ n73 : Int, ((∀ w74 : World,
                                               (I71 w74 →
                                                 World.cell? w74 (Addr.add a72 (Int.toNat 7 * 1)) = some (Value.int IntKind.u32 n73))) ∧
                                               (((0 : Int) ≤ (4 : Int) ∧
                                                 4 < (↑l67.2 : Int)) ∧
                                                ∃ a75 : Addr, (l67.1 = some a75 ∧
                                                 ∃ n76 : Int, ((∀ w77 : World,
                                                  (I71 w77 →
                                                    World.cell? w77 (Addr.add a75 (Int.toNat 4 * 1)) = some (Value.int IntKind.u32 n76))) ∧
                                                  (((0 : Int) ≤ (4 : Int) ∧
                                                    4 < (↑l67.2 : Int)) ∧
                                                   ∃ a78 : Addr, (l67.1 = some a78 ∧
                                                    ∃ n79 : Int, ((∀ w80 : World,
                                                     (I71 w80 →
                                                       World.cell? w80 (Addr.add a78 (Int.toNat 4 * 1)) = some (Value.int IntKind.u32 n79))) ∧
                                                     (((0 : Int) ≤ (4 : Int) ∧
                                                       4 < (↑l67.2 : Int)) ∧
                                                      ∃ a81 : Addr, (l67.1 = some a81 ∧
                                                       ∃ n82 : Int, ((∀ w83 : World,
                                                        (I71 w83 →
                                                          World.cell? w83 (Addr.add a81 (Int.toNat 4 * 1)) = some (Value.int IntKind.u32 n82))) ∧
                                                        (((0 : Int) ≤ (4 : Int) ∧
                                                          4 < (↑l67.2 : Int)) ∧
                                                         ∃ a84 : Addr, (l67.1 = some a84 ∧
                                                          ∃ n85 : Int, ((∀ w86 : World,
                                                           (I71 w86 →
                                                             World.cell? w86 (Addr.add a84 (Int.toNat 4 * 1)) = some (Value.int IntKind.u32 n85))) ∧
                                                           (((0 : Int) ≤ (5 : Int) ∧
                                                             5 < (↑l67.2 : Int)) ∧
                                                            ∃ a87 : Addr, (l67.1 = some a87 ∧
                                                             ∃ n88 : Int, ((∀ w89 : World,
                                                              (I71 w89 →
                                                                World.cell? w89 (Addr.add a87 (Int.toNat 5 * 1)) = some (Value.int IntKind.u32 n88))) ∧
                                                              (((0 : Int) ≤ (4 : Int) ∧
                                                                4 < (↑l67.2 : Int)) ∧
                                                               ∃ a90 : Addr, (l67.1 = some a90 ∧
                                                                ∃ n91 : Int, ((∀ w92 : World,
                                                                 (I71 w92 →
                                                                   World.cell? w92 (Addr.add a90 (Int.toNat 4 * 1)) = some (Value.int IntKind.u32 n91))) ∧
                                                                 (((0 : Int) ≤ (6 : Int) ∧
                                                                   6 < (↑l67.2 : Int)) ∧
                                                                  ∃ a93 : Addr, (l67.1 = some a93 ∧
                                                                   ∃ n94 : Int, ((∀ w95 : World,
                                                                    (I71 w95 →
                                                                      World.cell? w95 (Addr.add a93 (Int.toNat 6 * 1)) = some (Value.int IntKind.u32 n94))) ∧
                                                                    ((0 ≤ n68 ∧
                                                                      n68 < (↑x1n : Int)) ∧
                                                                     ∃ a96 : Addr, (x1a = some a96 ∧
                                                                      ∃ n97 : Int, ((∀ w98 : World,
                                                                       (I71 w98 →
                                                                         World.cell? w98 (Addr.add a96 (Int.toNat n68 * 1)) = some (Value.int IntKind.u32 n97))) ∧
                                                                       ((0 ≤ n68 ∧
                                                                         n68 < (↑l31.2 : Int)) ∧
                                                                        ∃ a99 : Addr, (l31.1 = some a99 ∧
                                                                         ∃ n100 : Int, ((∀ w101 : World,
                                                                          (I71 w101 →
                                                                            World.cell? w101 (Addr.add a99 (Int.toNat n68 * 1)) = some (Value.int IntKind.u32 n100))) ∧
                                                                          Calls Tryd.prog (105 : Nat) (Array.mk [Value.int IntKind.u32 n76, Value.int IntKind.i64 26]) (w70) (fun e102 w103 =>
                                                                            ∃ n104 : Int, (e102 = Ending.returned (Value.int IntKind.u32 n104) ∧
                                                                             (I71 w103 ∧
                                                                              Calls Tryd.prog (105 : Nat) (Array.mk [Value.int IntKind.u32 n79, Value.int IntKind.i64 21]) (w103) (fun e105 w106 =>
                                                                                ∃ n107 : Int, (e105 = Ending.returned (Value.int IntKind.u32 n107) ∧
                                                                                 (I71 w106 ∧
                                                                                  Calls Tryd.prog (105 : Nat) (Array.mk [Value.int IntKind.u32 n82, Value.int IntKind.i64 7]) (w106) (fun e108 w109 =>
                                                                                    ∃ n110 : Int, (e108 = Ending.returned (Value.int IntKind.u32 n110) ∧
                                                                                     (I71 w109 ∧
                                                                                      ∀ w111 : World,
                                                                                      (Drew w109 w111 →
                                                                                        ∃ I112 : World → Prop, (I112 w111 ∧
                                                                                         (((0 : Int) ≤ (0 : Int) ∧
                                                                                           0 < (↑l67.2 : Int)) ∧
                                                                                          ∃ a113 : Addr, (l67.1 = some a113 ∧
                                                                                           ∃ n114 : Int, ((∀ w115 : World,
                                                                                            (I112 w115 →
                                                                                              World.cell? w115 (Addr.add a113 (Int.toNat 0 * 1)) = some (Value.int IntKind.u32 n114))) ∧
                                                                                            (((0 : Int) ≤ (0 : Int) ∧
                                                                                              0 < (↑l67.2 : Int)) ∧
                                                                                             ∃ a116 : Addr, (l67.1 = some a116 ∧
                                                                                              ∃ n117 : Int, ((∀ w118 : World,
                                                                                               (I112 w118 →
                                                                                                 World.cell? w118 (Addr.add a116 (Int.toNat 0 * 1)) = some (Value.int IntKind.u32 n117))) ∧
                                                                                               (((0 : Int) ≤ (0 : Int) ∧
                                                                                                 0 < (↑l67.2 : Int)) ∧
                                                                                                ∃ a119 : Addr, (l67.1 = some a119 ∧
                                                                                                 ∃ n120 : Int, ((∀ w121 : World,
                                                                                                  (I112 w121 →
                                                                                                    World.cell? w121 (Addr.add a119 (Int.toNat 0 * 1)) = some (Value.int IntKind.u32 n120))) ∧
                                                                                                  (((0 : Int) ≤ (0 : Int) ∧
                                                                                                    0 < (↑l67.2 : Int)) ∧
                                                                                                   ∃ a122 : Addr, (l67.1 = some a122 ∧
                                                                                                    ∃ n123 : Int, ((∀ w124 : World,
                                                                                                     (I112 w124 →
                                                                                                       World.cell? w124 (Addr.add a122 (Int.toNat 0 * 1)) = some (Value.int IntKind.u32 n123))) ∧
                                                                                                     (((0 : Int) ≤ (1 : Int) ∧
                                                                                                       1 < (↑l67.2 : Int)) ∧
                                                                                                      ∃ a125 : Addr, (l67.1 = some a125 ∧
                                                                                                       ∃ n126 : Int, ((∀ w127 : World,
                                                                                                        (I112 w127 →
                                                                                                          World.cell? w127 (Addr.add a125 (Int.toNat 1 * 1)) = some (Value.int IntKind.u32 n126))) ∧
                                                                                                        (((0 : Int) ≤ (0 : Int) ∧
                                                                                                          0 < (↑l67.2 : Int)) ∧
                                                                                                         ∃ a128 : Addr, (l67.1 = some a128 ∧
                                                                                                          ∃ n129 : Int, ((∀ w130 : World,
                                                                                                           (I112 w130 →
                                                                                                             World.cell? w130 (Addr.add a128 (Int.toNat 0 * 1)) = some (Value.int IntKind.u32 n129))) ∧
                                                                                                           (((0 : Int) ≤ (2 : Int) ∧
                                                                                                             2 < (↑l67.2 : Int)) ∧
                                                                                                            ∃ a131 : Addr, (l67.1 = some a131 ∧
                                                                                                             ∃ n132 : Int, ((∀ w133 : World,
                                                                                                              (I112 w133 →
                                                                                                                World.cell? w133 (Addr.add a131 (Int.toNat 2 * 1)) = some (Value.int IntKind.u32 n132))) ∧
                                                                                                              (((0 : Int) ≤ (1 : Int) ∧
                                                                                                                1 < (↑l67.2 : Int)) ∧
                                                                                                               ∃ a134 : Addr, (l67.1 = some a134 ∧
                                                                                                                ∃ n135 : Int, ((∀ w136 : World,
                                                                                                                 (I112 w136 →
                                                                                                                   World.cell? w136 (Addr.add a134 (Int.toNat 1 * 1)) = some (Value.int IntKind.u32 n135))) ∧
                                                                                                                 (((0 : Int) ≤ (2 : Int) ∧
                                                                                                                   2 < (↑l67.2 : Int)) ∧
                                                                                                                  ∃ a137 : Addr, (l67.1 = some a137 ∧
                                                                                                                   ∃ n138 : Int, ((∀ w139 : World,
                                                                                                                    (I112 w139 →
                                                                                                                      World.cell? w139 (Addr.add a137 (Int.toNat 2 * 1)) = some (Value.int IntKind.u32 n138))) ∧
                                                                                                                    Calls Tryd.prog (105 : Nat) (Array.mk [Value.int IntKind.u32 n114, Value.int IntKind.i64 30]) (w111) (fun e140 w141 =>
                                                                                                                      ∃ n142 : Int, (e140 = Ending.returned (Value.int IntKind.u32 n142) ∧
                                                                                                                       (I112 w141 ∧
                                                                                                                        Calls Tryd.prog (105 : Nat) (Array.mk [Value.int IntKind.u32 n117, Value.int IntKind.i64 19]) (w141) (fun e143 w144 =>
                                                                                                                          ∃ n145 : Int, (e143 = Ending.returned (Value.int IntKind.u32 n145) ∧
                                                                                                                           (I112 w144 ∧
                                                                                                                            Calls Tryd.prog (105 : Nat) (Array.mk [Value.int IntKind.u32 n120, Value.int IntKind.i64 10]) (w144) (fun e146 w147 =>
                                                                                                                              ∃ n148 : Int, (e146 = Ending.returned (Value.int IntKind.u32 n148) ∧
                                                                                                                               (I112 w147 ∧
                                                                                                                                ∀ w149 : World,
                                                                                                                                (Drew w147 w149 →
                                                                                                                                  (((0 : Int) ≤ (0 : Int) ∧
                                                                                                                                    0 < (↑l67.2 : Int)) ∧
                                                                                                                                   ∃ a150 : Addr, (l67.1 = some a150 ∧
                                                                                                                                    ∃ n151 : Int, (World.cell? w149 (Addr.add a150 (Int.toNat 0 * 1)) = some (Value.int IntKind.u32 n151) ∧
                                                                                                                                     (((0 : Int) ≤ (1 : Int) ∧
                                                                                                                                       1 < (↑l67.2 : Int)) ∧
                                                                                                                                      ∃ a152 : Addr, (l67.1 = some a152 ∧
                                                                                                                                       ∃ n153 : Int, (World.cell? w149 (Addr.add a152 (Int.toNat 1 * 1)) = some (Value.int IntKind.u32 n153) ∧
                                                                                                                                        (((0 : Int) ≤ (2 : Int) ∧
                                                                                                                                          2 < (↑l67.2 : Int)) ∧
                                                                                                                                         ∃ a154 : Addr, (l67.1 = some a154 ∧
                                                                                                                                          ∃ n155 : Int, (World.cell? w149 (Addr.add a154 (Int.toNat 2 * 1)) = some (Value.int IntKind.u32 n155) ∧
                                                                                                                                           (((0 : Int) ≤ (3 : Int) ∧
                                                                                                                                             3 < (↑l67.2 : Int)) ∧
                                                                                                                                            ∃ a156 : Addr, (l67.1 = some a156 ∧
                                                                                                                                             ∃ n157 : Int, (World.cell? w149 (Addr.add a156 (Int.toNat 3 * 1)) = some (Value.int IntKind.u32 n157) ∧
                                                                                                                                              (((0 : Int) ≤ (4 : Int) ∧
                                                                                                                                                4 < (↑l67.2 : Int)) ∧
                                                                                                                                               ∃ a158 : Addr, (l67.1 = some a158 ∧
                                                                                                                                                ∃ n159 : Int, (World.cell? w149 (Addr.add a158 (Int.toNat 4 * 1)) = some (Value.int IntKind.u32 n159) ∧
                                                                                                                                                 (((0 : Int) ≤ (5 : Int) ∧
                                                                                                                                                   5 < (↑l67.2 : Int)) ∧
                                                                                                                                                  ∃ a160 : Addr, (l67.1 = some a160 ∧
                                                                                                                                                   ∃ n161 : Int, (World.cell? w149 (Addr.add a160 (Int.toNat 5 * 1)) = some (Value.int IntKind.u32 n161) ∧
                                                                                                                                                    (((0 : Int) ≤ (6 : Int) ∧
                                                                                                                                                      6 < (↑l67.2 : Int)) ∧
                                                                                                                                                     ∃ a162 : Addr, (l67.1 = some a162 ∧
                                                                                                                                                      ∃ n163 : Int, (World.cell? w149 (Addr.add a162 (Int.toNat 6 * 1)) = some (Value.int IntKind.u32 n163) ∧
                                                                                                                                                       ∀ w164 : World,
                                                                                                                                                       (w164 = World.alloc w149 (Obj.cells (Array.mk [Value.int IntKind.u32 (IntKind.wrap IntKind.u32 (IntKind.wrap IntKind.u32 (IntKind.wrap IntKind.u32 (IntKind.wrap IntKind.u32 (IntKind.wrap IntKind.u32 (n73 + IntKind.wrap IntKind.u32 (↑(BitVec.toNat (BitVec.ofInt 32 (IntKind.wrap IntKind.u32 (↑(BitVec.toNat (BitVec.ofInt 32 n104 ^^^ BitVec.ofInt 32 n107)) : Int)) ^^^ BitVec.ofInt 32 n110)) : Int)) + IntKind.wrap IntKind.u32 (↑(BitVec.toNat (BitVec.ofInt 32 (IntKind.wrap IntKind.u32 (↑(BitVec.toNat (BitVec.ofInt 32 n85 &&& BitVec.ofInt 32 n88)) : Int)) ^^^ BitVec.ofInt 32 (IntKind.wrap IntKind.u32 (↑(BitVec.toNat (BitVec.ofInt 32 (IntKind.wrap IntKind.u32 (↑(BitVec.toNat (BitVec.ofInt 32 n91 ^^^ BitVec.ofInt 32 4294967295)) : Int)) &&& BitVec.ofInt 32 n94)) : Int)))) : Int)) + n97) + n100) + IntKind.wrap IntKind.u32 (IntKind.wrap IntKind.u32 (↑(BitVec.toNat (BitVec.ofInt 32 (IntKind.wrap IntKind.u32 (↑(BitVec.toNat (BitVec.ofInt 32 n142 ^^^ BitVec.ofInt 32 n145)) : Int)) ^^^ BitVec.ofInt 32 n148)) : Int) + IntKind.wrap IntKind.u32 (↑(BitVec.toNat (BitVec.ofInt 32 (IntKind.wrap IntKind.u32 (↑(BitVec.toNat (BitVec.ofInt 32 (IntKind.wrap IntKind.u32 (↑(BitVec.toNat (BitVec.ofInt 32 n123 &&& BitVec.ofInt 32 n126)) : Int)) ^^^ BitVec.ofInt 32 (IntKind.wrap IntKind.u32 (↑(BitVec.toNat (BitVec.ofInt 32 n129 &&& BitVec.ofInt 32 n132)) : Int)))) : Int)) ^^^ BitVec.ofInt 32 (IntKind.wrap IntKind.u32 (↑(BitVec.toNat (BitVec.ofInt 32 n135 &&& BitVec.ofInt 32 n138)) : Int)))) : Int)))), Value.int IntKind.u32 n151, Value.int IntKind.u32 n153, Value.int IntKind.u32 n155, Value.int IntKind.u32 (IntKind.wrap IntKind.u32 (n157 + IntKind.wrap IntKind.u32 (IntKind.wrap IntKind.u32 (IntKind.wrap IntKind.u32 (IntKind.wrap IntKind.u32 (n73 + IntKind.wrap IntKind.u32 (↑(BitVec.toNat (BitVec.ofInt 32 (IntKind.wrap IntKind.u32 (↑(BitVec.toNat (BitVec.ofInt 32 n104 ^^^ BitVec.ofInt 32 n107)) : Int)) ^^^ BitVec.ofInt 32 n110)) : Int)) + IntKind.wrap IntKind.u32 (↑(BitVec.toNat (BitVec.ofInt 32 (IntKind.wrap IntKind.u32 (↑(BitVec.toNat (BitVec.ofInt 32 n85 &&& BitVec.ofInt 32 n88)) : Int)) ^^^ BitVec.ofInt 32 (IntKind.wrap IntKind.u32 (↑(BitVec.toNat (BitVec.ofInt 32 (IntKind.wrap IntKind.u32 (↑(BitVec.toNat (BitVec.ofInt 32 n91 ^^^ BitVec.ofInt 32 4294967295)) : Int)) &&& BitVec.ofInt 32 n94)) : Int)))) : Int)) + n97) + n100))), Value.int IntKind.u32 n159, Value.int IntKind.u32 n161, Value.int IntKind.u32 n163]) 62) →
                                                                                                                                                         (I65 (Sl.mk (some (Addr.mk (Array.size (World.heap w149)) 0 none)) 8 8) (IntKind.wrap IntKind.i64 (n68 + 1)) w164 ∧
                                                                                                                                                          I66 (Sl.mk (some (Addr.mk (Array.size (World.heap w149)) 0 none)) 8 8) (IntKind.wrap IntKind.i64 (n68 + 1)) w164 < I66 l67 n68 w69))))))))))))))))))))))))))))))))))))))))))))))))))))))))))))))))))))))))))))))))))))))))))))))))))))))))) ∧
                                       (decide (n68 < 64) = false →
                                         ∀ w165 : World,
                                         (w165 = World.alloc w69 (Obj.cells (Array.mk []) 62) →
                                           ∃ I166 : Sl → Int → World → Prop, ∃ I167 : Sl → Int → World → Nat, (I166 (Sl.mk (some (Addr.mk (Array.size (World.heap w69)) 0 none)) 0 0) 0 w165 ∧
                                            ∀ l168 : Sl,
                                            ∀ n169 : Int,
                                            ∀ w170 : World,
                                            (I166 l168 n169 w170 →
                                              (((decide (n169 < (↑l23.2 : Int)) = true →
                                                 ∀ w171 : World,
                                                 (Drew w170 w171 →
                                                   ∃ I172 : World → Prop, (I172 w171 ∧
                                                    ((0 ≤ n169 ∧
                                                      n169 < (↑l23.2 : Int)) ∧
                                                     ∃ a173 : Addr, (l23.1 = some a173 ∧
                                                      ∃ n174 : Int, ((∀ w175 : World,
                                                       (I172 w175 →
                                                         World.cell? w175 (Addr.add a173 (Int.toNat n169 * 1)) = some (Value.int IntKind.u32 n174))) ∧
                                                       ((0 ≤ n169 ∧
                                                         n169 < (↑l67.2 : Int)) ∧
                                                        ∃ a176 : Addr, (l67.1 = some a176 ∧
                                                         ∃ n177 : Int, ((∀ w178 : World,
                                                          (I172 w178 →
                                                            World.cell? w178 (Addr.add a176 (Int.toNat n169 * 1)) = some (Value.int IntKind.u32 n177))) ∧
                                                          ∀ w179 : World,
                                                          (w179 = World.alloc w171 (Obj.cells (Array.mk [Value.int IntKind.u32 (IntKind.wrap IntKind.u32 (n174 + n177))]) 62) →
                                                            (I172 w179 ∧
                                                             ∃ w180 : World, ∃ l181 : Sl, (Sem.run Tryd.prog (Builtin.append_ (Array.mk [44, 44]) 44 (Array.mk [Value.slice l168.1 l168.2 l168.3, Value.slice (some (Addr.mk (Array.size (World.heap w171)) 0 none)) 1 1])) w179 = Result.ok (Value.slice l181.1 l181.2 l181.3) w180 ∧
                                                              (I172 w180 ∧
                                                               (I166 (Sl.mk l181.1 l181.2 l181.3) (IntKind.wrap IntKind.i64 (n169 + 1)) w180 ∧
                                                                I167 (Sl.mk l181.1 l181.2 l181.3) (IntKind.wrap IntKind.i64 (n169 + 1)) w180 < I167 l168 n169 w170))))))))))))))) ∧
                                               (decide (n169 < (↑l23.2 : Int)) = false →
                                                 (I21 (Sl.mk l168.1 l168.2 l168.3) (IntKind.wrap IntKind.i64 (n24 + 64)) w170 ∧
                                                  I22 (Sl.mk l168.1 l168.2 l168.3) (IntKind.wrap IntKind.i64 (n24 + 64)) w170 < I22 l23 n24 w25))))))))))))))))))))) ∧
                    (decide (n24 < (↑l3.2 : Int)) = false →
                      Calls Tryd.prog (106 : Nat) (Array.mk [Value.slice l23.1 l23.2 l23.3]) (w25) (fun e182 w183 =>
                        ∃ s184 : ByteArray, (e182 = Ending.returned (Value.string s184) ∧
                         R (Value.string s184) w183)))))))))))))))
theorem vc_cartularyref02_Sum256_ok {x0 : ByteArray} {x1a : Option Addr} {x1n : Nat} {x1c : Nat} {w : World} {R : Value → World → Prop} {R' : Ending → World → Prop} (h : vc_cartularyref02_Sum256 x0 x1a x1n x1c w R) (hR : ∀ v w', R v w' → R' (.returned v) w') :
    Calls Tryd.prog 58 #[.string x0, .slice x1a x1n x1c] w R' :=
  calls_of_body (vs := [(.string x0, false), (.slice x1a x1n x1c, false)]) (ty := ty) (ann := ⟨[], [(4, [(6, .slice), (25, .int .i64)]), (9, [(6, .slice), (9, .int .i64)]), (13, [(10, .slice), (11, .int .i64)]), (19, [(14, .slice), (15, .int .i64)]), (26, [(18, .slice), (213, .int .i64)])], [(15, .quiet), (16, .held [(0, true), (1, true), (2, true), (3, true), (4, true), (5, true), (6, true), (8, true), (11, true), (12, true), (15, true), (16, true), (17, true), (18, true), (19, true), (21, true), (23, true), (26, true), (27, true), (7, false), (9, false), (10, true), (13, true), (14, true), (20, true), (22, false), (24, false), (25, true), (28, true), (29, true), (30, false), (31, false), (32, true)]), (21, .held [(0, true), (1, true), (2, true), (3, true), (4, true), (5, true), (7, true), (8, true), (9, true), (12, true), (13, true), (14, true), (18, true), (19, true), (20, true), (21, true), (22, true), (23, true), (24, true), (25, true), (26, true), (27, true), (28, true), (29, true), (30, true), (31, true), (32, true), (33, true), (35, true), (36, true), (37, true), (38, true), (40, true), (41, true), (42, true), (43, true), (6, false), (10, false), (11, true), (15, false), (16, true), (17, true), (34, true), (39, true), (44, true), (45, true)]), (22, .held [(0, true), (1, true), (2, true), (4, true), (5, true), (6, true), (9, true), (10, true), (11, true), (14, true), (15, true), (16, true), (17, true), (18, true), (19, true), (20, true), (21, true), (22, true), (23, true), (24, true), (25, true), (26, true), (27, true), (28, true), (29, true), (30, true), (31, true), (32, true), (33, true), (34, true), (35, true), (36, true), (3, false), (7, false), (8, true), (12, false), (13, true), (37, true), (38, true)]), (23, .tail 26), (28, .held [(0, true), (1, true), (2, true), (3, true), (4, true), (5, true), (6, true), (7, true), (8, true), (9, true), (10, false), (11, false), (12, true)])], []⟩) (c := Tryd.f58.body.getD .skip) (by kernel_rfl) Tryd.func58 (by kernel_rfl) (by kernel_rfl) (Eq.mp (by kernel_rfl) h) hR
/-- cartularyref02.Table -/
def vc_cartularyref02_Table (w : World) (R : Value → World → Prop) : Prop :=
  ∀ w1 : World,
  (w1 = World.alloc w (Obj.cells (Array.mk []) 62) →
    Calls Tryd.prog (60 : Nat) (Array.mk [Value.int IntKind.i64 (64 : Int)]) (w1) (fun e2 w3 =>
      ∃ l4 : Sl, (e2 = Ending.returned (Value.slice l4.1 l4.2 l4.3) ∧
       ∃ I5 : Sl → Int → World → Prop, ∃ I6 : Sl → Int → World → Nat, (I5 (Sl.mk (some (Addr.mk (Array.size (World.heap w)) 0 none)) 0 0) 0 w3 ∧
        ∀ l7 : Sl,
        ∀ n8 : Int,
        ∀ w9 : World,
        (I5 l7 n8 w9 →
          (((decide (n8 < (↑l4.2 : Int)) = true →
             ((0 ≤ n8 ∧
               n8 < (↑l4.2 : Int)) ∧
              ∃ a10 : Addr, (l4.1 = some a10 ∧
               ∃ n11 : Int, (World.cell? w9 (Addr.add a10 (Int.toNat n8 * 1)) = some (Value.int IntKind.u64 n11) ∧
                Calls Tryd.prog (61 : Nat) (Array.mk [Value.int IntKind.i64 3, Value.int IntKind.u64 n11]) (w9) (fun e12 w13 =>
                  ∃ n14 : Int, (e12 = Ending.returned (Value.int IntKind.u32 n14) ∧
                   ∀ w15 : World,
                   (w15 = World.alloc w13 (Obj.cells (Array.mk [Value.int IntKind.u32 n14]) 62) →
                     ∃ w16 : World, ∃ l17 : Sl, (Sem.run Tryd.prog (Builtin.append_ (Array.mk [44, 44]) 44 (Array.mk [Value.slice l7.1 l7.2 l7.3, Value.slice (some (Addr.mk (Array.size (World.heap w13)) 0 none)) 1 1])) w15 = Result.ok (Value.slice l17.1 l17.2 l17.3) w16 ∧
                      (I5 (Sl.mk l17.1 l17.2 l17.3) (IntKind.wrap IntKind.i64 (n8 + 1)) w16 ∧
                       I6 (Sl.mk l17.1 l17.2 l17.3) (IntKind.wrap IntKind.i64 (n8 + 1)) w16 < I6 l7 n8 w9)))))))))) ∧
           (decide (n8 < (↑l4.2 : Int)) = false →
             R (Value.slice l7.1 l7.2 l7.3) w9)))))))
theorem vc_cartularyref02_Table_ok {w : World} {R : Value → World → Prop} {R' : Ending → World → Prop} (h : vc_cartularyref02_Table w R) (hR : ∀ v w', R v w' → R' (.returned v) w') :
    Calls Tryd.prog 25 #[] w R' :=
  calls_of_body (vs := []) (ty := ty) (ann := ⟨[], [(3, [(1, .slice), (7, .int .i64)])], [], []⟩) (c := Tryd.f25.body.getD .skip) (by kernel_rfl) Tryd.func25 (by kernel_rfl) (by kernel_rfl) (Eq.mp (by kernel_rfl) h) hR
end Go.Proofs.YtfoeooddnmppnaaDoor

/- The reference's turn of a word. Condition: a turn is by less than 32. -/
set_option linter.unusedVariables false
namespace Go.Proofs.YtfoeooddnmppnaaDoor
open Go Vc ShaM Go.Proofs

theorem turn2_spec (x : W) (s : Nat) (hs : s < 32) (w : World) :
    Calls Tryd.prog F_cartularyref02_turn #[.int .u32 (x.toNat : Int), .int .i64 (s : Int)] w fun e w' => e = .returned (.int .u32 ((rotl x s).toNat : Int)) ∧ Drew w w' := by
  refine vc_cartularyref02_turn_ok (R := fun v w' => v = .int .u32 ((rotl x s).toNat : Int) ∧ Drew w w') ?_ (fun v w' h => ⟨by rw [h.1], h.2⟩)
  rw [vc_cartularyref02_turn, wrap_i64 (x := 32 - (s : Int)) (by omega) (by omega)]
  refine ⟨by omega, by omega, fun w1 d => ⟨?_, d⟩⟩
  rw [Int.toNat_natCast, show (32 - (s : Int)).toNat = 32 - s by omega, rot_eq x hs]
end Go.Proofs.YtfoeooddnmppnaaDoor

/- What the reference's functions on primes and roots do: as functions on numbers, and the table that they make. No condition but on the number of primes. -/
set_option linter.unusedVariables false
namespace ShaM
open Go
/-- The high half of a product, as the reference reckons it. -/
def mulHi (a b : Int) : Int := (IntKind.wrap IntKind.u64 (IntKind.wrap IntKind.u64 (IntKind.wrap IntKind.u64 (Int.fdiv a (2 ^ min (Int.toNat 32) 64) * Int.fdiv b (2 ^ min (Int.toNat 32) 64)) + Int.fdiv (IntKind.wrap IntKind.u64 (IntKind.wrap IntKind.u64 (IntKind.wrap IntKind.u64 (↑(BitVec.toNat (BitVec.ofInt 64 a &&& BitVec.ofInt 64 4294967295)) : Int) * Int.fdiv b (2 ^ min (Int.toNat 32) 64)) + Int.fdiv (IntKind.wrap IntKind.u64 (IntKind.wrap IntKind.u64 (↑(BitVec.toNat (BitVec.ofInt 64 a &&& BitVec.ofInt 64 4294967295)) : Int) * IntKind.wrap IntKind.u64 (↑(BitVec.toNat (BitVec.ofInt 64 b &&& BitVec.ofInt 64 4294967295)) : Int))) (2 ^ min (Int.toNat 32) 64))) (2 ^ min (Int.toNat 32) 64)) + Int.fdiv (IntKind.wrap IntKind.u64 (IntKind.wrap IntKind.u64 (Int.fdiv a (2 ^ min (Int.toNat 32) 64) * IntKind.wrap IntKind.u64 (↑(BitVec.toNat (BitVec.ofInt 64 b &&& BitVec.ofInt 64 4294967295)) : Int)) + IntKind.wrap IntKind.u64 (↑(BitVec.toNat (BitVec.ofInt 64 (IntKind.wrap IntKind.u64 (IntKind.wrap IntKind.u64 (IntKind.wrap IntKind.u64 (↑(BitVec.toNat (BitVec.ofInt 64 a &&& BitVec.ofInt 64 4294967295)) : Int) * Int.fdiv b (2 ^ min (Int.toNat 32) 64)) + Int.fdiv (IntKind.wrap IntKind.u64 (IntKind.wrap IntKind.u64 (↑(BitVec.toNat (BitVec.ofInt 64 a &&& BitVec.ofInt 64 4294967295)) : Int) * IntKind.wrap IntKind.u64 (↑(BitVec.toNat (BitVec.ofInt 64 b &&& BitVec.ofInt 64 4294967295)) : Int))) (2 ^ min (Int.toNat 32) 64))) &&& BitVec.ofInt 64 4294967295)) : Int))) (2 ^ min (Int.toNat 32) 64)))
def mulLo (a b : Int) : Int := IntKind.wrap IntKind.u64 (a * b)
def under3 (y p : Int) : Bool :=
  let hi := mulHi y y
  let lo := mulLo y y
  let a := mulHi lo y
  let b := mulLo lo y
  let c0 := mulHi hi y
  let d := mulLo hi y
  let sum := IntKind.wrap IntKind.u64 (d + a)
  let c := if sum < d then IntKind.wrap IntKind.u64 (c0 + 1) else c0
  let ph := Int.fdiv p (2 ^ min (Int.toNat 32) 64)
  let pl := IntKind.wrap IntKind.u64 (p * 2 ^ min (Int.toNat 32) 64)
  if c > 0 then (if ph > c then true else if ph == c then decide (pl > sum) else false) else (if sum < pl then true else if sum == pl then b == 0 else false)
def under2 (y p : Int) : Bool := if mulHi y y < p then true else if mulHi y y == p then mulLo y y == 0 else false
def rootI (under : Int → Int → Bool) (p : Int) : Nat → Int → Int
  | 0, x => x
  | b + 1, x => match under (IntKind.wrap IntKind.u64 (x + IntKind.wrap IntKind.u64 (1 * 2 ^ min (Int.toNat (b : Int)) 64))) p with
    | true => rootI under p b (IntKind.wrap IntKind.u64 (x + IntKind.wrap IntKind.u64 (1 * 2 ^ min (Int.toNat (b : Int)) 64)))
    | false => rootI under p b x
def root3 (p : Int) : Int := IntKind.wrap IntKind.u32 (rootI under3 p 41 0)
def root2 (p : Int) : Int := IntKind.wrap IntKind.u32 (rootI under2 p 41 0)
/-- The primes below p + 2. -/
def primesTo : Nat → List Nat
  | 0 => []
  | p + 1 => match (primesTo p).all (fun q => (p + 2) % q != 0) with
    | true => primesTo p ++ [p + 2]
    | false => primesTo p
def K256 : List W := ((primesTo 310).map fun p : Nat => BitVec.ofInt 32 (root3 (p : Int)))
end ShaM
namespace Go.Proofs.YtfoeooddnmppnaaDoor
open Go Vc ShaM Go.Proofs

theorem elU64 : El Tryd.prog T_S_uint64 T_uint64 (.int .u64 0) 8 := ⟨by kernel_rfl, by kernel_rfl, rfl⟩
theorem mul_spec (a b : Int) (w : World) : Calls Tryd.prog F_cartularyref02_mul #[.int .u64 a, .int .u64 b] w fun e w' => e = .returned (.tuple #[.int .u64 (mulHi a b), .int .u64 (mulLo a b)]) ∧ w' = w := by
  refine vc_cartularyref02_mul_ok (R := fun v w' => v = .tuple #[.int .u64 (mulHi a b), .int .u64 (mulLo a b)] ∧ w' = w) ?_ (fun v w' h => ⟨by rw [h.1], h.2⟩)
  exact ⟨by decide, by decide, by decide, by decide, by decide, rfl, rfl⟩
theorem under2_spec (y p : Int) (w : World) : Calls Tryd.prog F_cartularyref02_under #[.int .i64 2, .int .u64 y, .int .u64 p] w fun e w' => e = .returned (.bool (under2 y p)) ∧ w' = w := by
  refine vc_cartularyref02_under_ok (R := fun v w' => v = .bool (under2 y p) ∧ w' = w) ?_ (fun v w' h => ⟨by rw [h.1], h.2⟩)
  refine (mul_spec y y w).mono ?_
  rintro e w2 ⟨rfl, rfl⟩
  refine ⟨_, _, rfl, fun _ => ⟨fun h => ?_, fun h => ⟨fun h2 => ?_, fun h2 => ?_⟩⟩, fun h => absurd h (by decide)⟩
  · have h := of_decide_eq_true h
    unfold under2; rw [if_pos h]; exact ⟨rfl, rfl⟩
  · have h := of_decide_eq_false h
    unfold under2; rw [if_neg h, if_pos h2]; exact ⟨rfl, rfl⟩
  · have h := of_decide_eq_false h
    unfold under2; rw [if_neg h, if_neg (by rw [h2]; decide)]; exact ⟨rfl, rfl⟩
theorem under3_spec (y p : Int) (w : World) : Calls Tryd.prog F_cartularyref02_under #[.int .i64 3, .int .u64 y, .int .u64 p] w fun e w' => e = .returned (.bool (under3 y p)) ∧ w' = w := by
  refine vc_cartularyref02_under_ok (R := fun v w' => v = .bool (under3 y p) ∧ w' = w) ?_ (fun v w' h => ⟨by rw [h.1], h.2⟩)
  refine (mul_spec y y w).mono ?_
  rintro e w2 ⟨rfl, rfl⟩
  refine ⟨_, _, rfl, fun h => absurd h (by decide), fun _ => ?_⟩
  refine (mul_spec _ y w2).mono ?_
  rintro e w6 ⟨rfl, rfl⟩
  refine ⟨_, _, rfl, ?_⟩
  refine (mul_spec _ y w6).mono ?_
  rintro e w10 ⟨rfl, rfl⟩
  refine ⟨_, _, rfl, ?_⟩
  simp only [under3]
  generalize mulHi y y = hi
  generalize mulLo y y = lo
  generalize mulHi lo y = a
  generalize mulLo lo y = b
  generalize mulHi hi y = c0
  generalize mulLo hi y = d
  generalize IntKind.u64.wrap (d + a) = sum
  generalize Int.fdiv p (2 ^ min (Int.toNat 32) 64) = ph
  generalize IntKind.u64.wrap (p * 2 ^ min (Int.toNat 32) 64) = pl
  refine ⟨fun c w' => c = (if sum < d then IntKind.wrap IntKind.u64 (c0 + 1) else c0) ∧ w' = w10, ⟨fun h => ?_, fun h => ?_⟩, ?_⟩
  · rw [if_pos (of_decide_eq_true h)]; exact ⟨rfl, rfl⟩
  · rw [if_neg (of_decide_eq_false h)]; exact ⟨rfl, rfl⟩
  rintro c w15 ⟨hc, rfl⟩
  rw [← hc]
  refine ⟨fun h => ⟨by decide, fun h2 => ?_, fun h2 => ⟨by decide, fun h3 => ⟨by decide, ?_⟩, fun h3 => ?_⟩⟩, fun h => ⟨by decide, fun h2 => ?_, fun h2 => ⟨by decide, fun h3 => ?_, fun h3 => ?_⟩⟩⟩
  · rw [if_pos (of_decide_eq_true h), if_pos (of_decide_eq_true h2)]; exact ⟨rfl, rfl⟩
  · rw [if_pos (of_decide_eq_true h), if_neg (of_decide_eq_false h2), if_pos h3]; exact ⟨rfl, rfl⟩
  · rw [if_pos (of_decide_eq_true h), if_neg (of_decide_eq_false h2), if_neg (by rw [h3]; decide)]; exact ⟨rfl, rfl⟩
  · rw [if_neg (of_decide_eq_false h), if_pos (of_decide_eq_true h2)]; exact ⟨rfl, rfl⟩
  · rw [if_neg (of_decide_eq_false h), if_neg (of_decide_eq_false h2), if_pos h3]; exact ⟨rfl, rfl⟩
  · rw [if_neg (of_decide_eq_false h), if_neg (of_decide_eq_false h2), if_neg (by rw [h3]; decide)]; exact ⟨rfl, rfl⟩

theorem root_spec (under : Int → Int → Bool) (n : Int) (hu : ∀ y p w, Calls Tryd.prog F_cartularyref02_under #[.int .i64 n, .int .u64 y, .int .u64 p] w fun e w' => e = .returned (.bool (under y p)) ∧ w' = w) (p : Int) (w : World) :
    Calls Tryd.prog F_cartularyref02_Roots #[.int .i64 n, .int .u64 p] w fun e w' => e = .returned (.int .u32 (IntKind.wrap IntKind.u32 (rootI under p 41 0))) ∧ w' = w := by
  refine vc_cartularyref02_Roots_ok (R := fun v w' => v = .int .u32 (IntKind.wrap IntKind.u32 (rootI under p 41 0)) ∧ w' = w) ?_ (fun v w' h => ⟨by rw [h.1], h.2⟩)
  refine ⟨fun x b w' => w' = w ∧ ∃ k : Nat, k ≤ 41 ∧ b = (k : Int) - 1 ∧ rootI under p 41 0 = rootI under p k x, fun _ b _ => (b + 1).toNat, ⟨rfl, 41, by decide, by decide, rfl⟩, ?_⟩
  rintro x b w5 ⟨rfl, k, hk, rfl, hr⟩
  refine ⟨fun h => ?_, fun h => ?_⟩
  · have h := of_decide_eq_true h
    obtain ⟨j, rfl⟩ : ∃ j, k = j + 1 := ⟨k - 1, by omega⟩
    have e1 : (((j + 1 : Nat) : Int) - 1) = (j : Int) := by omega
    have e2 : IntKind.i64.wrap ((j : Int) - 1) = (j : Int) - 1 := wrap_i64 (by omega) (by omega)
    rw [e1, e2]
    refine ⟨by omega, ?_⟩
    refine (hu _ p w5).mono ?_
    rintro e w7 ⟨rfl, rfl⟩
    refine ⟨_, rfl, fun hb => ?_, fun hb => ?_⟩
    · exact ⟨⟨rfl, j, by omega, rfl, hr.trans (by simp only [rootI, hb])⟩, by dsimp only; omega⟩
    · exact ⟨⟨rfl, j, by omega, rfl, hr.trans (by simp only [rootI, hb])⟩, by dsimp only; omega⟩
  · have h := of_decide_eq_false h
    have : k = 0 := by omega
    subst this
    rw [hr]; exact ⟨rfl, rfl⟩

abbrev qv (l : List Nat) : List Value := l.map (fun p : Nat => Value.int .u64 (p : Int))
theorem primes_mono (k : Nat) : ∀ d, primesTo k <+: primesTo (k + d)
  | 0 => List.prefix_refl _
  | d + 1 => by
    refine (primes_mono k d).trans ?_
    rw [← Nat.add_assoc, primesTo]
    split
    · exact List.prefix_append _ _
    · exact List.prefix_refl _
theorem primes_pos : ∀ k, ∀ q ∈ primesTo k, 2 ≤ q
  | 0, q, h => by cases h
  | k + 1, q, h => by
    rw [primesTo] at h
    split at h
    · rcases List.mem_append.1 h with h | h
      · exact primes_pos k q h
      · rw [List.mem_singleton] at h; omega
    · exact primes_pos k q h
theorem primes_le : ∀ k, ∀ q ∈ primesTo k, q ≤ k + 1
  | 0, q, h => by cases h
  | k + 1, q, h => by
    rw [primesTo] at h
    split at h
    · rcases List.mem_append.1 h with h | h
      · have := primes_le k q h; omega
      · rw [List.mem_singleton] at h; omega
    · have := primes_le k q h; omega
set_option maxRecDepth 100000 in
theorem primes_64 : (primesTo 310).length = 64 := by decide +kernel
theorem primes_spec (n : Nat) (hn : n ≤ 64) (w : World) : Calls Tryd.prog F_cartularyref02_primes #[.int .i64 (n : Int)] w fun e w' =>
    ∃ l : Sl, e = .returned (.slice l.a l.len l.cap) ∧ Vc.Own w' w.heap.size T_uint64 l (qv ((primesTo 310).take n)) ∧ Fr (fun _ => False) w w' := by
  refine vc_cartularyref02_primes_ok (R := fun v w' => ∃ l : Sl, v = .slice l.a l.len l.cap ∧ Vc.Own w' w.heap.size T_uint64 l (qv ((primesTo 310).take n)) ∧ Fr (fun _ => False) w w') ?_ (fun v w' ⟨l, h⟩ => ⟨l, by rw [h.1], h.2⟩)
  intro w1 hw1
  have o1 : Vc.Own w1 w.heap.size T_uint64 ⟨some ⟨w.heap.size, 0, none⟩, 0, 0⟩ [] := ⟨rfl, .inr ⟨w.heap.size, #[], rfl, Nat.le_refl _, hw1 ▸ alloc_new _ _, Nat.le_refl _, Nat.zero_le _, rfl, rfl⟩⟩
  have f1 : Fr (fun _ => False) w w1 := hw1 ▸ Fr.alloc _ _ _
  refine ⟨fun l p w' => ∃ k : Nat, k ≤ 310 ∧ p = (k : Int) + 2 ∧ (primesTo k).length ≤ n ∧ Vc.Own w' w.heap.size T_uint64 l (qv (primesTo k)) ∧ Fr (fun _ => False) w w', fun _ p _ => (312 - p).toNat, ⟨0, by decide, rfl, Nat.zero_le _, o1, f1⟩, ?_⟩
  rintro l p w6 ⟨k, hk, rfl, hkn, ol, f6⟩
  have hll : l.len = (primesTo k).length := by rw [ol.len, List.length_map]
  refine ⟨fun hlt => ?_, fun hge => ?_⟩
  · have hlt := of_decide_eq_true hlt
    have hk310 : k < 310 := by
      rcases Nat.lt_or_ge k 310 with h | h
      · exact h
      · have : k = 310 := by omega
        subst this
        have := primes_64; omega
    have e1 : IntKind.u64.wrap ((k : Int) + 2 + 1) = ((k + 1 : Nat) : Int) + 2 := by rw [wrap_u64 (by omega) (by omega)]; omega
    rw [e1]
    refine ⟨fun b j w' => w' = w6 ∧ ∃ m : Nat, m ≤ (primesTo k).length ∧ j = (m : Int) ∧ b = ((primesTo k).take m).all (fun q => (k + 2) % q != 0), fun _ j _ => (((primesTo k).length : Int) - j).toNat, ⟨rfl, 0, Nat.zero_le _, rfl, rfl⟩, ?_⟩
    rintro b j w11 ⟨rfl, m, hm, rfl, hb⟩
    have e2 : IntKind.i64.wrap ((m : Int) + 1) = ((m + 1 : Nat) : Int) := by rw [wrap_i64 (by omega) (by omega)]; omega
    refine ⟨fun hlt => ?_, fun hge => ?_⟩
    · have hlt := of_decide_eq_true hlt
      have hml : m < (primesTo k).length := by omega
      obtain ⟨x, hx, hc⟩ := ol.reads m (.int .u64 (((primesTo k)[m] : Nat) : Int)) (by simp [qv, hml])
      have hpos := primes_pos k _ (List.getElem_mem hml)
      have hstep : ((primesTo k).take (m + 1)).all (fun q => (k + 2) % q != 0) = (((primesTo k).take m).all (fun q => (k + 2) % q != 0) && ((k + 2) % (primesTo k)[m] != 0)) := by
        rw [List.take_succ_eq_append_getElem hml, List.all_append]; simp
      rw [e2]
      refine ⟨⟨by omega, by omega⟩, x, hx, _, by rw [Int.toNat_natCast, Nat.mul_one]; exact hc, fun hbt => ⟨by omega, ⟨rfl, m + 1, by omega, rfl, ?_⟩, by dsimp only; omega⟩, fun hbf => ⟨⟨rfl, m + 1, by omega, rfl, ?_⟩, by dsimp only; omega⟩⟩
      · rw [hstep, ← hb, hbt, Bool.true_and, Int.tmod_eq_emod_of_nonneg (by omega)]
        have hcast : ((k : Int) + 2) % (((primesTo k)[m] : Nat) : Int) = (((k + 2) % (primesTo k)[m] : Nat) : Int) := by rw [Int.natCast_emod]; rfl
        rw [hcast, Bool.eq_iff_iff]
        simp only [bne_iff_ne, ne_eq]
        omega
      · rw [hstep, ← hb, hbf, Bool.false_and]
    · have hge := of_decide_eq_false hge
      have : m = (primesTo k).length := by omega
      subst this
      rw [List.take_length] at hb
      refine ⟨fun hbt => ?_, fun hbf => ?_⟩
      · intro w14 hw14
        obtain ⟨w15, l16, hr, o16, f16⟩ := append_one elU64 ol (v := .int .u64 ((k : Int) + 2)) rfl (by rw [List.length_map]; unfold maxLen; omega) (by rw [List.length_map]; omega) f6.size hw14
        refine ⟨w15, l16, hr, ⟨k + 1, by omega, rfl, ?_, ?_, f6.trans f16 (fun q hq ⟨y, hy, e⟩ => by have := (ol.blk hy).1; omega)⟩, by dsimp only; omega⟩
        · rw [primesTo]
          simp only [← hb, hbt, List.length_append, List.length_singleton]; omega
        · rw [primesTo]
          simp only [← hb, hbt, qv, List.map_append, List.map_cons, List.map_nil]
          exact o16
      · refine ⟨⟨k + 1, by omega, rfl, ?_, ?_, f6⟩, by dsimp only; omega⟩
        · rw [primesTo]
          simp only [← hb, hbf]; exact hkn
        · rw [primesTo]
          simp only [← hb, hbf]; exact ol
  · have hge := of_decide_eq_false hge
    have hlen : (primesTo k).length = n := by omega
    have hp := primes_mono k (310 - k)
    rw [show k + (310 - k) = 310 by omega] at hp
    have := List.prefix_iff_eq_take.1 hp
    rw [hlen] at this
    rw [← this]
    exact ⟨l, rfl, ol, f6⟩

theorem root_bv (z : Int) : ((BitVec.ofInt 32 (IntKind.u32.wrap z)).toNat : Int) = IntKind.u32.wrap z := by
  rw [BitVec.toNat_ofInt, wrap_u32_mod]
  have h0 := Int.emod_nonneg z (show (4294967296 : Int) ≠ 0 by decide)
  have h1 := Int.emod_lt_of_pos z (show (0 : Int) < 4294967296 by decide)
  have : (z % 4294967296) % ((2 ^ 32 : Nat) : Int) = z % 4294967296 := Int.emod_eq_of_lt h0 h1
  rw [this]; omega
/-- 'Table'. -/
theorem ktable_spec (w : World) : Calls Tryd.prog F_cartularyref02_Table #[] w fun e w' => ∃ l : Sl, e = .returned (.slice l.a l.len l.cap) ∧ Vc.Own w' w.heap.size T_uint32 l (uv K256) ∧ Fr (fun _ => False) w w' := by
  refine vc_cartularyref02_Table_ok (R := fun v w' => ∃ l : Sl, v = .slice l.a l.len l.cap ∧ Vc.Own w' w.heap.size T_uint32 l (uv K256) ∧ Fr (fun _ => False) w w') ?_ (fun v w' ⟨l, h⟩ => ⟨l, by rw [h.1], h.2⟩)
  intro w1 hw1
  have o1 : Vc.Own w1 w.heap.size T_uint32 ⟨some ⟨w.heap.size, 0, none⟩, 0, 0⟩ [] := ⟨rfl, .inr ⟨w.heap.size, #[], rfl, Nat.le_refl _, hw1 ▸ alloc_new _ _, Nat.le_refl _, Nat.zero_le _, rfl, rfl⟩⟩
  have f1 : Fr (fun _ => False) w w1 := hw1 ▸ Fr.alloc _ _ _
  have hps := primes_spec 64 (by decide) w1
  rw [List.take_of_length_le (by rw [primes_64]; decide)] at hps
  have hK : K256 = (primesTo 310).map (fun p : Nat => BitVec.ofInt 32 (root3 (p : Int))) := rfl
  have primes_64 := primes_64
  rw [hK]
  clear hK
  generalize primesTo 310 = L at hps primes_64 ⊢
  refine hps.mono ?_
  rintro e w3 ⟨l4, rfl, o4, f3⟩
  refine ⟨l4, rfl, ?_⟩
  obtain ⟨K, hKd⟩ : ∃ K, L.map (fun p : Nat => BitVec.ofInt 32 (root3 (p : Int))) = K := ⟨_, rfl⟩
  rw [hKd]
  have hll : l4.len = 64 := by rw [o4.len, List.length_map, primes_64]
  have hb1 : w.heap.size < w1.heap.size := by rw [hw1]; simp
  have hKl : K.length = 64 := by rw [← hKd, List.length_map, primes_64]
  have hKget : ∀ (k : Nat) (h : k < L.length), K.take (k + 1) = K.take k ++ [BitVec.ofInt 32 (root3 ((L[k]'h : Nat) : Int))] := fun k h => by
    have hk : k < K.length := by rw [hKl, ← primes_64]; exact h
    have hg : K[k]'hk = BitVec.ofInt 32 (root3 ((L[k]'h : Nat) : Int)) := by subst hKd; simp only [List.getElem_map]
    rw [List.take_succ_eq_append_getElem hk, hg]
  refine ⟨fun l i w' => ∃ k : Nat, k ≤ 64 ∧ i = (k : Int) ∧ Vc.Own w' w.heap.size T_uint32 l (uv (K.take k)) ∧ (∀ y, l.a = some y → y.block < w1.heap.size ∨ w3.heap.size ≤ y.block) ∧ Vc.Own w' w1.heap.size T_uint64 l4 (qv L) ∧ Fr (fun _ => False) w w' ∧ w3.heap.size ≤ w'.heap.size, fun _ i _ => (64 - i).toNat,
    ⟨0, by decide, rfl, o1.keep f3 (by simp), fun y hy => by cases hy; exact .inl hb1, o4, f1.trans' f3, Nat.le_refl _⟩, ?_⟩
  rintro l i w9 ⟨k, hk, rfl, ol, hdis, o4', f9, hs9⟩
  refine ⟨fun hlt => ?_, fun hge => ?_⟩
  · have hlt := of_decide_eq_true hlt
    have hkl : k < L.length := by rw [primes_64]; omega
    have hkg := hKget k hkl
    obtain ⟨x, hx, hc⟩ := o4'.reads k (.int .u64 ((L[k]'hkl : Nat) : Int)) (by rw [qv, List.getElem?_map, List.getElem?_eq_getElem hkl]; rfl)
    have e1 : IntKind.i64.wrap ((k : Int) + 1) = ((k + 1 : Nat) : Int) := by rw [wrap_i64 (by omega) (by omega)]; omega
    rw [e1]
    refine ⟨⟨by omega, by omega⟩, x, hx, _, by rw [Int.toNat_natCast, Nat.mul_one]; exact hc, ?_⟩
    generalize L[k]'hkl = p at hkg
    refine (root_spec under3 3 under3_spec p w9).mono ?_
    rintro e w13 ⟨rfl, rfl⟩
    refine ⟨_, rfl, ?_⟩
    intro w15 hw15
    have hr3 : IntKind.u32.wrap (rootI under3 p 41 0) = ((BitVec.ofInt 32 (root3 (p : Int))).toNat : Int) := by rw [root3, root_bv]
    rw [hr3] at hw15
    have hlen : (uv (K.take k)).length = k := by rw [uv_len, List.length_take, hKl]; omega
    obtain ⟨w16, l17, hr, o17, f17, s17⟩ := append_one' elU32 ol (v := .int .u32 ((BitVec.ofInt 32 (root3 (p : Int))).toNat : Int)) rfl (by rw [hlen]; unfold maxLen; omega) (by rw [hlen]; omega) f9.size hw15
    have hX : ∀ q, Vc.At l q → w.heap.size ≤ q ∧ (q < w1.heap.size ∨ w3.heap.size ≤ q) := fun q ⟨y, hy, e⟩ => by rw [e]; exact ⟨(ol.blk hy).1, hdis y hy⟩
    have o4b : ∀ x, l4.a = some x → w1.heap.size ≤ x.block ∧ x.block < w3.heap.size := fun x hx => o4.blk hx
    refine ⟨w16, l17, hr, ⟨k + 1, by omega, rfl, ?_, ?_, o4'.keep f17 (fun x hx h => by have := hX _ h; have := o4b x hx; omega), f9.trans f17 (fun q hq h => by have := (hX q h).1; omega), by have := f17.size; omega⟩, by dsimp only; omega⟩
    · rw [hkg, uv, List.map_append]; exact o17
    · intro y hy
      rcases s17 y hy with ⟨z, hz, hzb⟩ | hn
      · rw [← hzb]; exact hdis z hz
      · exact .inr (by omega)
  · have hge := of_decide_eq_false hge
    have : k = 64 := by omega
    subst this
    rw [List.take_of_length_le (by rw [hKl]; decide)] at ol
    exact ⟨l, rfl, ol, f9⟩
end Go.Proofs.YtfoeooddnmppnaaDoor

/- What table256 and block256 of the package sha do. Conditions: the words are eight, in a slice of the call's own; the text has 64 bytes. -/
set_option linter.unusedVariables false
namespace Go.Proofs.YtfoeooddnmppnaaDoor
open Go Vc ShaM Go.Proofs

theorem K256_len : K256.length = 64 := by decide +kernel
/-- 'table256'. -/
theorem table256_spec (w : World) : Calls Tryd.prog F_sha_table256 #[] w fun e w' => e = .returned (.agg (uv K256).toArray) ∧ Fr (fun _ => False) w w' := by
  refine vc_sha_table256_ok (R := fun v w' => v = .agg (uv K256).toArray ∧ Fr (fun _ => False) w w') ?_ (fun v w' h => ⟨by rw [h.1], h.2⟩)
  intro w1 hw1
  have o1 : Vc.Own w1 w.heap.size T_64_uint32 ⟨some ⟨w.heap.size, 0, none⟩, 64, 64⟩ (uv (List.replicate 64 0)) :=
    ⟨rfl, .inr ⟨w.heap.size, _, rfl, Nat.le_refl _, by rw [hw1]; exact alloc_new _ _, Nat.le_refl _, by simp [maxLen], rfl, rfl⟩⟩
  have f1 : Fr (fun _ => False) w w1 := hw1 ▸ Fr.alloc _ _ _
  obtain ⟨w2, hr, o2, f2⟩ := store_arr (P := Tryd.prog) (t := T_64_uint32) o1 K256_len (by kernel_rfl)
  refine ⟨w2, Eq.mp (by kernel_rfl) hr, ?_⟩
  have hload := load_agg (P := Tryd.prog) (t := T_64_uint32) (w := w2) (a := ⟨w.heap.size, 0, none⟩) (vs := uv K256) (agg_of (by kernel_rfl)) (by rw [uv_len, K256_len]; kernel_rfl) (fun j v hv => by
    obtain ⟨y, hy, hc⟩ := o2.reads j v hv
    cases hy; exact hc)
  exact ⟨_, hload, rfl, f1.trans f2 (fun q hq h => by omega)⟩

theorem shr3 (x : W) : Int.fdiv (x.toNat : Int) (2 ^ min (Int.toNat 3) 32) = ((x >>> 3).toNat : Int) := u_shr x 3 (by decide)
theorem shr10 (x : W) : Int.fdiv (x.toNat : Int) (2 ^ min (Int.toNat 10) 32) = ((x >>> 10).toNat : Int) := u_shr x 10 (by decide)

theorem block256_spec {w : World} {base : Nat} {l : Sl} {h : List W} (ho : Vc.Own w base T_uint32 l (uv h)) (hl : h.length = 8) (p : ByteArray) (hp : p.size = 64) :
    Calls Tryd.prog F_sha_block256 #[.slice l.a l.len l.cap, .string p] w fun e w' => e = .returned (.tuple #[]) ∧ Vc.Own w' base T_uint32 l (uv (block2 K256 h p.data.toList)) ∧ Fr (Vc.At l) w w' := by
  refine vc_sha_block256_ok (R := fun v w' => v = .tuple #[] ∧ Vc.Own w' base T_uint32 l (uv (block2 K256 h p.data.toList)) ∧ Fr (Vc.At l) w w') ?_ (fun v w' h => ⟨by rw [h.1], h.2⟩)
  intro w1 hw1
  have f1' : Fr (fun _ => False) w w1 := hw1 ▸ Fr.alloc _ _ _
  generalize hB : w.heap.size = wb at hw1
  obtain ⟨P, hPd⟩ : ∃ P, p.data.toList = P := ⟨_, rfl⟩
  rw [hPd]
  have hE : ∀ k, (E2 P k).length = k := E2_length P
  have hK := K256_len
  have o1 : Vc.Own w1 wb T_64_uint32 ⟨some ⟨wb, 0, none⟩, 64, 64⟩ (uv (arr (E2 P) 64 0)) :=
    ⟨rfl, .inr ⟨wb, _, rfl, Nat.le_refl _, by rw [hw1, ← hB]; exact alloc_new _ _, Nat.le_refl _, by simp [maxLen], rfl, rfl⟩⟩
  have hlen : l.len = 8 := by rw [ho.len, uv_len, hl]
  have hlb : ∀ x, l.a = some x → x.block < wb := fun x hx => by rw [← hB]; exact (ho.blk hx).2
  have hsz1 : w1.heap.size = wb + 1 := by rw [hw1, ← hB]; simp
  refine (table256_spec w1).mono ?_
  rintro e w3 ⟨rfl, f3⟩
  refine ⟨_, rfl, ?_⟩
  intro w5 hw5
  have f5 : Fr (fun _ => False) w3 w5 := hw5 ▸ Fr.alloc _ _ _
  have hz5 := alloc_new w3 (.cells (uv (List.replicate 64 0)).toArray T_64_uint32)
  generalize hKb : w3.heap.size = kb at hw5 hz5
  have hkb : wb < kb := by have := f3.size; omega
  have o5 : Vc.Own w5 kb T_64_uint32 ⟨some ⟨kb, 0, none⟩, 64, 64⟩ (uv (List.replicate 64 0)) :=
    ⟨rfl, .inr ⟨kb, _, rfl, Nat.le_refl _, by rw [hw5, ← hKb]; exact alloc_new _ _, Nat.le_refl _, by simp [maxLen], rfl, rfl⟩⟩
  obtain ⟨K, hKd⟩ : ∃ K, K256 = K := ⟨_, rfl⟩
  rw [hKd] at hK ⊢
  obtain ⟨w6, hr6, oK, f6⟩ := store_arr (P := Tryd.prog) (t := T_64_uint32) o5 hK (by kernel_rfl)
  refine ⟨w6, hr6, ?_⟩
  have hkb5 : kb < w5.heap.size := (o5.blk rfl).2
  have f16 : Fr (fun k => kb ≤ k) w1 w6 := ((f3.mono (by simp)).trans' (f5.mono (by simp))).trans f6 (fun q hq h => by omega)
  have o6 : Vc.Own w6 wb T_64_uint32 ⟨some ⟨wb, 0, none⟩, 64, 64⟩ (uv (arr (E2 P) 64 0)) := o1.keep f16 (fun x hx h => by cases hx; simp only at h; omega)
  have f06 : Fr (fun _ => False) w w6 := f1'.trans f16 (fun q hq h => by omega)
  have hwk : ∀ {w' w2 : World}, Fr (Vc.At ⟨some ⟨wb, 0, none⟩, 64, 64⟩) w' w2 → Vc.Own w' kb T_64_uint32 ⟨some ⟨kb, 0, none⟩, 64, 64⟩ (uv K) → Vc.Own w2 kb T_64_uint32 ⟨some ⟨kb, 0, none⟩, 64, 64⟩ (uv K) := fun {w' w2} hf o =>
    o.keep hf (fun x hx ⟨y, hy, e⟩ => by cases hx; cases hy; simp only at e; omega)
  have hX : ∀ {w' : World}, Fr (fun _ => False) w w' → ∀ {w2 : World}, Fr (Vc.At ⟨some ⟨wb, 0, none⟩, 64, 64⟩) w' w2 → Fr (fun _ => False) w w2 := fun {w'} hf {w2} h2 => hf.trans h2 fun q hq ⟨y, hy, e⟩ => by cases hy; simp only at e; omega
  refine ⟨fun i w' => ∃ k : Nat, k ≤ 64 ∧ i = (k : Int) ∧ Vc.Own w' wb T_64_uint32 ⟨some ⟨wb, 0, none⟩, 64, 64⟩ (uv (arr (E2 P) 64 k)) ∧ Vc.Own w' kb T_64_uint32 ⟨some ⟨kb, 0, none⟩, 64, 64⟩ (uv K) ∧ Fr (fun _ => False) w w', fun i _ => (64 - i).toNat,
    ⟨0, by decide, rfl, o6, oK, f06⟩, ?_⟩
  rintro i w10 ⟨k, hk, rfl, o10, oK10, f10⟩
  have hAl := arr_length (n := 64) (hE k) hk
  have e1 : IntKind.i64.wrap ((k : Int) + 1) = ((k + 1 : Nat) : Int) := by rw [wrap_i64 (by omega) (by omega)]; omega
  refine ⟨fun hlt => ?_, fun hge => ?_⟩
  · have hlt := of_decide_eq_true hlt
    have hk64 : k < 64 := by omega
    refine ⟨fun h16 => ?_, fun h16 => ?_⟩
    · have h16 := of_decide_eq_true h16
      have e4 : IntKind.i64.wrap (4 * (k : Int)) = ((4 * k : Nat) : Int) := by rw [wrap_i64 (by omega) (by omega)]; omega
      rw [e4, Int.toNat_natCast]
      refine ⟨⟨by omega, by omega⟩, ?_⟩
      refine (word_spec _ (by rw [ByteArray.size_extract]; omega) w10).mono ?_
      rintro e w12 ⟨rfl, d12⟩
      refine ⟨_, rfl, ⟨by omega, by omega⟩, ?_⟩
      have hx : be (p.extract (4 * k) p.size).data.toList 0 = be P (4 * k) := by
        rw [ext_toList, hPd, List.take_of_length_le (by rw [List.length_drop, ← hPd]; simp), be_drop]
      rw [hx, Int.toNat_natCast, Nat.mul_one, e1]
      obtain ⟨y, hy, hwr, hset⟩ := own_put (o10.drew d12) (i := k) (by omega) (be P (4 * k))
      cases hy
      refine ⟨hwr, fun w14 hw14 => ?_⟩
      obtain ⟨o14, f14⟩ := hset w14 hw14
      rw [arr_set (hE k) hk64 (E2_low P (by omega))] at o14
      exact ⟨⟨k + 1, by omega, rfl, o14, hwk f14 (oK10.drew d12), hX (f10.trans' (.drew _ d12)) f14⟩, by dsimp only; omega⟩
    · have h16 := of_decide_eq_false h16
      have g : ∀ {w' : World}, Vc.Own w' wb T_64_uint32 ⟨some ⟨wb, 0, none⟩, 64, 64⟩ (uv (arr (E2 P) 64 k)) → ∀ j, j < k → w'.cell? (Addr.add ⟨wb, 0, none⟩ j) = some (.int .u32 (((E2 P k).getD j 0).toNat : Int)) := fun {w'} o j hj => by
        obtain ⟨y, hy, hc⟩ := own_get o (i := j) (by omega)
        cases hy
        rw [arr_getD (hE k) hj] at hc; exact hc
      have r15 : IntKind.i64.wrap ((k : Int) - 15) = ((k - 15 : Nat) : Int) := by rw [wrap_i64 (by omega) (by omega)]; omega
      have r2 : IntKind.i64.wrap ((k : Int) - 2) = ((k - 2 : Nat) : Int) := by rw [wrap_i64 (by omega) (by omega)]; omega
      have r16 : IntKind.i64.wrap ((k : Int) - 16) = ((k - 16 : Nat) : Int) := by rw [wrap_i64 (by omega) (by omega)]; omega
      have r7 : IntKind.i64.wrap ((k : Int) - 7) = ((k - 7 : Nat) : Int) := by rw [wrap_i64 (by omega) (by omega)]; omega
      rw [r15, r2, r16, r7, e1]
      simp only [Int.toNat_natCast, Nat.mul_one]
      refine ⟨⟨by omega, by omega⟩, _, g o10 _ (by omega), ⟨by omega, by omega⟩, _, g o10 _ (by omega), fun w17 d17 w18 d18 => ?_⟩
      have o18 := (o10.drew d17).drew d18
      have oK18 := (oK10.drew d17).drew d18
      refine ⟨fun w => w = w18, rfl, ⟨by omega, by omega⟩, _, fun w hw => by rw [hw]; exact g o18 _ (by omega), by decide, ⟨by omega, by omega⟩, _, fun w hw => by rw [hw]; exact g o18 _ (by omega), by decide, ?_⟩
      refine (rot_spec _ (-7) 25 (by decide) (by decide) w18).mono ?_
      rintro e w25 ⟨rfl, rfl⟩
      refine ⟨_, rfl, rfl, ?_⟩
      refine (rot_spec _ (-18) 14 (by decide) (by decide) w25).mono ?_
      rintro e w28 ⟨rfl, rfl⟩
      refine ⟨_, rfl, rfl, ?_⟩
      refine (rot_spec _ (-17) 15 (by decide) (by decide) w28).mono ?_
      rintro e w31 ⟨rfl, rfl⟩
      refine ⟨_, rfl, rfl, ?_⟩
      refine (rot_spec _ (-19) 13 (by decide) (by decide) w31).mono ?_
      rintro e w34 ⟨rfl, rfl⟩
      refine ⟨_, rfl, rfl, ⟨by omega, by omega⟩, ?_⟩
      simp only [u_of, u_wrap, shr3, shr10, u_add]
      rw [← nxt2_at (hE k)]
      obtain ⟨y, hy, hwr, hset⟩ := own_put o18 (i := k) (by omega) (nxt2 (E2 P k))
      cases hy
      refine ⟨hwr, fun w36 hw36 => ?_⟩
      obtain ⟨o36, f36⟩ := hset w36 hw36
      rw [arr_set (hE k) hk64 (E2_high P (by omega))] at o36
      exact ⟨⟨k + 1, by omega, rfl, o36, hwk f36 oK18, hX ((f10.trans' (.drew _ d17)).trans' (.drew _ d18)) f36⟩, by omega⟩
  have hge := of_decide_eq_false hge
  have : k = 64 := by omega
  subst this
  have hfull : arr (E2 P) 64 64 = ext2 48 (words P) := by unfold arr; rw [Nat.sub_self, List.replicate_zero, List.append_nil, E2_ext P (by decide)]
  rw [hfull] at o10 hAl
  have hb2 : block2 K h P = adds h (rds2 K (ext2 48 (words P)) h) := rfl
  rw [hb2]
  generalize ext2 48 (words P) = S at o10 hAl ⊢
  have hKg : w10.heap.size > kb := (oK10.blk rfl).2
  intro w37 hw37
  have f37 : Fr (fun _ => False) w10 w37 := hw37 ▸ Fr.alloc _ _ _
  have hv37 : w37.heap[w10.heap.size]? = some (.cells (uv (List.replicate 8 0)).toArray T_8_uint32) := by rw [hw37]; exact alloc_new _ _
  generalize hV : w10.heap.size = vb at hw37 hv37 hKg
  have oh37 := (ho.keep f10 (by simp)).keep f37 (by simp)
  obtain ⟨x, hx, _⟩ := own_get oh37 (i := 0) (by omega)
  have hcopy := run_copy_row (P := Tryd.prog) w37 T_S_uint32 T_S_uint32 T_int T_uint32 vb 0 8 8 x l.len l.cap _ T_8_uint32 (uv h) elU32.sl (by kernel_rfl) hv37 (by rw [uv_len, hl, hlen]; rfl) (fun j v hv => by
    obtain ⟨y, hy, hc⟩ := oh37.reads j v hv
    rw [hx] at hy; cases hy; exact hc) (by rw [uv_len, hl]; simp) (one_uv h)
  have hsub : subA (some ⟨vb, 0, none⟩) 8 0 1 = some ⟨vb, 0, none⟩ := rfl
  rw [hsub, hx]
  refine ⟨_, _, hcopy, ?_⟩
  have hrow : ((uv (List.replicate 8 0)).toArray.toList.take 0 ++ uv h ++ (uv (List.replicate 8 (0 : W))).toArray.toList.drop (0 + (uv h).length)).toArray = (uv h).toArray := by
    rw [uv_len, hl]; simp [uv]
  rw [hrow]
  have hv38 := setRow_heap w37 vb _ (uv h).toArray T_8_uint32 (0, 0) hv37
  have f38 : Fr (· = vb) w37 (w37.setRow vb (uv h).toArray) := setRow_fr _ _ _ _ rfl
  generalize w37.setRow vb (uv h).toArray = w38 at hv38 f38
  have oV38 : Vc.Own w38 vb T_8_uint32 ⟨some ⟨vb, 0, none⟩, 8, 8⟩ (uv h) := ⟨by rw [uv_len, hl], .inr ⟨vb, _, rfl, Nat.le_refl _, hv38, Nat.le_refl _, by simp [maxLen], by simp [hl], List.take_of_length_le (by simp [hl])⟩⟩
  have oS38 := (o10.keep f37 (by simp)).keep f38 (fun y hy => by cases hy; simp only; omega)
  have oK38 := (oK10.keep f37 (by simp)).keep f38 (fun y hy => by cases hy; simp only; omega)
  have oh38 := oh37.keep f38 (fun y hy => by have := hlb y hy; omega)
  have f038 : Fr (fun _ => False) w w38 := (f10.trans' f37).trans f38 (fun q hq h => by have := f10.size; omega)
  have f3838 := f38.size
  have f37s := f37.size
  have hvb38 : vb < w38.heap.size := (oV38.blk rfl).2
  refine ⟨fun i w' => ∃ (k : Nat) (v : List W), k ≤ 64 ∧ i = (k : Int) ∧ v.length = 8 ∧ rds2 K S h = rds2 (K.drop k) (S.drop k) v ∧ Vc.Own w' vb T_8_uint32 ⟨some ⟨vb, 0, none⟩, 8, 8⟩ (uv v) ∧ Fr (· = vb) w38 w', fun i _ => (64 - i).toNat,
    ⟨0, h, by decide, rfl, hl, rfl, oV38, .refl _ _⟩, ?_⟩
  rintro i w43 ⟨k, v, hk, rfl, hvl, hv, oV, f43⟩
  refine ⟨fun hlt => ?_, fun hge => ?_⟩
  · have hlt := of_decide_eq_true hlt
    have e1 : IntKind.i64.wrap ((k : Int) + 1) = ((k + 1 : Nat) : Int) := by rw [wrap_i64 (by omega) (by omega)]; omega
    obtain ⟨a, b, c, d, e, f, g, q, rfl⟩ : ∃ a b c d e f g q, v = [a, b, c, d, e, f, g, q] := by
      match v, hvl with
      | [a, b, c, d, e, f, g, q], _ => exact ⟨_, _, _, _, _, _, _, _, rfl⟩
    have gv : ∀ {w' : World}, Vc.Own w' vb T_8_uint32 ⟨some ⟨vb, 0, none⟩, 8, 8⟩ (uv [a, b, c, d, e, f, g, q]) → ∀ j, j < 8 → w'.cell? (Addr.add ⟨vb, 0, none⟩ (j * 1)) = some (.int .u32 ((([a, b, c, d, e, f, g, q] : List W).getD j 0).toNat : Int)) := fun {w'} o j hj => by
      obtain ⟨y, hy, hc⟩ := own_get o (i := j) hj
      cases hy; rw [Nat.mul_one]; exact hc
    have hstep : rds2 (K.drop k) (S.drop k) [a, b, c, d, e, f, g, q] = rds2 (K.drop (k + 1)) (S.drop (k + 1)) (rd2 (K.getD k 0) (S.getD k 0) [a, b, c, d, e, f, g, q]) := by
      have hkK : k < K.length := by omega
      have hkS : k < S.length := by omega
      rw [List.drop_eq_getElem_cons hkK, List.drop_eq_getElem_cons hkS]
      simp [rds2, hkK, hkS]
    rw [e1]
    refine ⟨⟨by decide, by decide⟩, _, gv oV 0 (by decide), ⟨by decide, by decide⟩, _, gv oV 4 (by decide), fun w46 d46 w47 d47 => ?_⟩
    have oV47 := (oV.drew d46).drew d47
    have f47 := (f43.trans' (.drew _ d46)).trans' (.drew _ d47)
    have oK47 : Vc.Own w47 kb T_64_uint32 ⟨some ⟨kb, 0, none⟩, 64, 64⟩ (uv K) := oK38.keep f47 (fun y hy => by cases hy; simp only; omega)
    have oS47 : Vc.Own w47 wb T_64_uint32 ⟨some ⟨wb, 0, none⟩, 64, 64⟩ (uv S) := oS38.keep f47 (fun y hy => by cases hy; simp only; omega)
    obtain ⟨y, hy, hcK⟩ := own_get oK47 (i := k) (by omega)
    cases hy
    obtain ⟨y, hy, hcS⟩ := own_get oS47 (i := k) (by omega)
    cases hy
    refine ⟨fun w => w = w47, rfl, ⟨by decide, by decide⟩, _, fun w hw => by rw [hw]; exact gv oV47 7 (by decide), ⟨by decide, by decide⟩, _, fun w hw => by rw [hw]; exact gv oV47 5 (by decide), ⟨by decide, by decide⟩, _, fun w hw => by rw [hw]; exact gv oV47 6 (by decide),
      ⟨by omega, by omega⟩, _, fun w hw => by rw [hw, Int.toNat_natCast, Nat.mul_one]; exact hcK, ⟨by omega, by omega⟩, _, fun w hw => by rw [hw, Int.toNat_natCast, Nat.mul_one]; exact hcS, ?_⟩
    refine (rot_spec _ (-6) 26 (by decide) (by decide) w47).mono ?_
    rintro e w60 ⟨rfl, rfl⟩
    refine ⟨_, rfl, rfl, ?_⟩
    refine (rot_spec _ (-11) 21 (by decide) (by decide) w60).mono ?_
    rintro e w63 ⟨rfl, rfl⟩
    refine ⟨_, rfl, rfl, ?_⟩
    refine (rot_spec _ (-25) 7 (by decide) (by decide) w63).mono ?_
    rintro e w66 ⟨rfl, rfl⟩
    refine ⟨_, rfl, rfl, ?_⟩
    intro w68 d68
    have oV68 := oV47.drew d68
    refine ⟨fun w => w = w68, rfl, ⟨by decide, by decide⟩, _, fun w hw => by rw [hw]; exact gv oV68 1 (by decide), ⟨by decide, by decide⟩, _, fun w hw => by rw [hw]; exact gv oV68 2 (by decide), ⟨by decide, by decide⟩, _, fun w hw => by rw [hw]; exact gv oV68 1 (by decide),
      ⟨by decide, by decide⟩, _, fun w hw => by rw [hw]; exact gv oV68 2 (by decide), ?_⟩
    refine (rot_spec _ (-2) 30 (by decide) (by decide) w68).mono ?_
    rintro e w79 ⟨rfl, rfl⟩
    refine ⟨_, rfl, rfl, ?_⟩
    refine (rot_spec _ (-13) 19 (by decide) (by decide) w79).mono ?_
    rintro e w82 ⟨rfl, rfl⟩
    refine ⟨_, rfl, rfl, ?_⟩
    refine (rot_spec _ (-22) 10 (by decide) (by decide) w82).mono ?_
    rintro e w85 ⟨rfl, rfl⟩
    refine ⟨_, rfl, rfl, ⟨by decide, by decide⟩, _, gv oV68 0 (by decide), ⟨by decide, by decide⟩, _, gv oV68 1 (by decide), ⟨by decide, by decide⟩, _, gv oV68 2 (by decide), ⟨by decide, by decide⟩, _, gv oV68 3 (by decide), ⟨by decide, by decide⟩, _, gv oV68 4 (by decide),
      ⟨by decide, by decide⟩, _, gv oV68 5 (by decide), ⟨by decide, by decide⟩, _, gv oV68 6 (by decide), ?_⟩
    rw [neg32]
    simp only [u_of, u_wrap, u_add, BitVec.allOnes_xor]
    obtain ⟨w94, hr94, o94, f94⟩ := store_arr (P := Tryd.prog) (t := T_8_uint32) (ys := rd2 (K.getD k 0) (S.getD k 0) [a, b, c, d, e, f, g, q]) oV68 rfl (by kernel_rfl)
    refine ⟨w94, hr94, ⟨k + 1, _, by omega, rfl, rfl, by rw [hv, hstep], o94, ((f47.trans' (.drew _ d68)).trans' f94)⟩, by omega⟩
  have hge := of_decide_eq_false hge
  have : k = 64 := by omega
  subst this
  have hKn : K.drop 64 = [] := List.drop_eq_nil_of_le (by omega)
  have hSn : S.drop 64 = [] := List.drop_eq_nil_of_le (by omega)
  rw [hKn, hSn] at hv
  have hv : rds2 K S h = v := hv
  rw [hv]
  have oh43 := oh38.keep f43 (fun y hy => by have := hlb y hy; omega)
  have f043 : Fr (fun _ => False) w w43 := f038.trans f43 (fun q hq h => by have := f10.size; omega)
  refine ⟨fun i w' => ∃ k : Nat, k ≤ 8 ∧ i = (k : Int) ∧ Vc.Own w' base T_uint32 l (uv (mix h v k)) ∧ Fr (Vc.At l) w43 w', fun i _ => (8 - i).toNat, ⟨0, by decide, rfl, by simpa [mix] using oh43, .refl _ _⟩, ?_⟩
  rintro i w98 ⟨k, hk, rfl, om, f98⟩
  refine ⟨fun hlt => ?_, fun hge => ?_⟩
  · have hlt := of_decide_eq_true hlt
    have e1 : IntKind.i64.wrap ((k : Int) + 1) = ((k + 1 : Nat) : Int) := by rw [wrap_i64 (by omega) (by omega)]; omega
    obtain ⟨m1, m2, m3⟩ := mix_next (h := h) (v := v) (i := k) (by omega) (by omega)
    rw [e1]
    intro w99 d99
    have om99 := om.drew d99
    have oV99 : Vc.Own w99 vb T_8_uint32 ⟨some ⟨vb, 0, none⟩, 8, 8⟩ (uv v) := (oV.keep f98 (fun y hy ⟨z, hz, e⟩ => by cases hy; have := hlb z hz; simp only at e; omega)).drew d99
    obtain ⟨y, hy, hc1⟩ := own_get om99 (i := k) (by omega)
    obtain ⟨z, hz, hc2⟩ := own_get oV99 (i := k) (by omega)
    cases hz
    rw [m2] at hc1
    obtain ⟨y', hy', hwr, hset⟩ := own_put om99 (i := k) (by omega) (h.getD k 0 + v.getD k 0)
    rw [hy] at hy'; cases hy'
    rw [Int.toNat_natCast, Nat.mul_one]
    refine ⟨⟨by omega, by omega⟩, y, hx ▸ hy, _, hc1, ⟨by omega, by omega⟩, _, hc2, ⟨by omega, by omega⟩, y, hx ▸ hy, hwr, ?_⟩
    rw [u_add]
    intro w104 hw104
    obtain ⟨o104, f104⟩ := hset w104 hw104
    rw [m1] at o104
    exact ⟨⟨k + 1, by omega, rfl, o104, (f98.trans' (.drew _ d99)).trans' f104⟩, by dsimp only; omega⟩
  · have hge := of_decide_eq_false hge
    have : k = 8 := by omega
    subst this
    have hmix : mix h v 8 = adds h v := by
      unfold mix
      have hal : (adds h v).length = 8 := by rw [adds_zip, List.length_zipWith]; omega
      rw [List.take_of_length_le (by omega), List.drop_eq_nil_of_le (by omega), List.append_nil]
    rw [hmix] at om
    exact ⟨rfl, om, (f043.mono (by simp)).trans' f98⟩
end Go.Proofs.YtfoeooddnmppnaaDoor

/- Plain facts: a sum is added up text by text. -/
set_option linter.unusedVariables false
namespace ShaM
/-- What waits for a whole block. -/
def rest (t : List UInt8) : List UInt8 := t.drop (64 * (t.length / 64))
/-- The words behind the whole blocks. -/
def stt (f : List W → List UInt8 → List W) (st : List W) (t : List UInt8) : List W := blocks f (t.length / 64) st t
theorem rest_length (t : List UInt8) : (rest t).length = t.length % 64 := by unfold rest; rw [List.length_drop]; omega
theorem blocks_add (f : List W → List UInt8 → List W) : ∀ (a b : Nat) (h : List W) (t : List UInt8), blocks f (a + b) h t = blocks f b (blocks f a h t) (t.drop (64 * a))
  | 0, b, h, t => by simp [blocks]
  | a + 1, b, h, t => by
    rw [show a + 1 + b = (a + b) + 1 by omega]
    simp only [blocks]
    rw [blocks_add f a b, List.drop_drop]
    congr 2; omega
theorem blocks_app (f : List W → List UInt8 → List W) : ∀ (n : Nat) (h : List W) (t u : List UInt8), 64 * n ≤ t.length → blocks f n h (t ++ u) = blocks f n h t
  | 0, h, t, u, _ => rfl
  | n + 1, h, t, u, hl => by
    simp only [blocks]
    rw [List.take_append_of_le_length (by omega), List.drop_append_of_le_length (by omega), blocks_app f n _ _ u (by rw [List.length_drop]; omega)]
theorem step_all (f : List W → List UInt8 → List W) (st : List W) (t x : List UInt8) :
    blocks f ((rest t ++ x).length / 64) (stt f st t) (rest t ++ x) = stt f st (t ++ x) ∧ (rest t ++ x).drop (64 * ((rest t ++ x).length / 64)) = rest (t ++ x) := by
  have h1 : rest t ++ x = (t ++ x).drop (64 * (t.length / 64)) := by unfold rest; rw [List.drop_append_of_le_length (by omega)]
  have h2 : (t ++ x).length / 64 = t.length / 64 + (rest t ++ x).length / 64 := by rw [List.length_append, List.length_append, rest_length]; omega
  constructor
  · unfold stt
    rw [h2, blocks_add, blocks_app f _ _ t x (by omega), h1]
  · show _ = (t ++ x).drop (64 * ((t ++ x).length / 64))
    rw [h2]
    generalize (rest t ++ x).length / 64 = q
    rw [h1, List.drop_drop, Nat.mul_add]
theorem blocks_step (f : List W → List UInt8 → List W) (q : Nat) (h : List W) (t : List UInt8) : blocks f (q + 1) h t = f (blocks f q h t) ((t.drop (64 * q)).take 64) := by
  rw [blocks_add f q 1]; rfl
theorem blocks_length {f : List W → List UInt8 → List W} {k : Nat} (hf : ∀ h p, h.length = k → (f h p).length = k) : ∀ (n : Nat) (h : List W) (t : List UInt8), h.length = k → (blocks f n h t).length = k
  | 0, h, t, hl => hl
  | n + 1, h, t, hl => blocks_length hf n _ _ (hf _ _ hl)
theorem adds_length : ∀ {h v : List W}, h.length = v.length → (adds h v).length = h.length
  | [], [], _ => rfl
  | a :: h, b :: v, hl => by simp only [adds, List.length_cons]; rw [adds_length (by simpa using hl)]
theorem rd1_length (i : Nat) (x : W) (v : List W) : (rd1 i x v).length = v.length := by
  unfold rd1; split <;> rfl
theorem rds1_length : ∀ (i : Nat) (l v : List W), (rds1 i l v).length = v.length
  | _, [], v => rfl
  | i, x :: r, v => by rw [rds1, rds1_length (i + 1) r, rd1_length]
theorem rd2_length (k x : W) (v : List W) : (rd2 k x v).length = v.length := by
  unfold rd2; split <;> rfl
theorem rds2_length : ∀ (k l v : List W), (rds2 k l v).length = v.length
  | [], _, v => by simp [rds2]
  | _ :: _, [], v => by simp [rds2]
  | k :: ks, x :: r, v => by rw [rds2, rds2_length ks r, rd2_length]
theorem block1_length (h : List W) (p : List UInt8) : (block1 h p).length = h.length := by
  unfold block1; rw [adds_length (by rw [rds1_length])]
theorem block2_length (K h : List W) (p : List UInt8) : (block2 K h p).length = h.length := by
  unfold block2; rw [adds_length (by rw [rds2_length])]
/-- The digest of a text by f. -/
def digest (f : List W → List UInt8 → List W) (st : List W) (t : List UInt8) : List UInt8 := out (stt f st (pad t))
theorem pad_length (t : List UInt8) : (pad t).length % 64 = 0 := by
  unfold pad; simp; omega
theorem dig1_len (t : List UInt8) : (digest block1 start1 t).length = 20 := by
  have hl : (stt block1 start1 (pad t)).length = 5 := blocks_length (f := block1) (fun h p hl => by rw [block1_length]; exact hl) _ _ _ rfl
  unfold digest
  match stt block1 start1 (pad t), hl with
  | [a, b, c, d, e], _ => rfl
end ShaM

/- A sum that is added up, in memory. No condition. -/
set_option linter.unusedVariables false
namespace Go.Proofs.YtfoeooddnmppnaaDoor
open Go Vc ShaM Go.Proofs

/-- A sum that is added up: t has been written. -/
structure HashAt (w : World) (b lo : Nat) (sl : Sl) (T : TypeId) (f : List ShaM.W → List UInt8 → List ShaM.W) (st : List ShaM.W) (t : List UInt8) : Prop where
  lob : lo ≤ b
  blk : ∃ r : ByteArray, r.data.toList = rest t ∧ w.heap[b]? = some (.cells #[.slice sl.a sl.len sl.cap, .string r, .int .u64 (t.length : Int)] T)
  len : t.length ≤ 72057594037927936
  ne : ∀ y, sl.a = some y → y.block ≠ b
  own : (sl = ⟨none, 0, 0⟩ ∧ t = []) ∨ (Vc.Own w lo T_uint32 sl (uv (stt f st t)) ∧ sl.a ≠ none)
theorem HashAt.keep {w w2 : World} {b lo : Nat} {sl : Sl} {T : TypeId} {f : List ShaM.W → List UInt8 → List ShaM.W} {st : List ShaM.W} {t : List UInt8} (h : HashAt w b lo sl T f st t) {X : Nat → Prop} (hf : Fr X w w2) (hb : ¬ X b) (hs : ∀ y, sl.a = some y → ¬ X y.block) : HashAt w2 b lo sl T f st t := by
  obtain ⟨r, h1, h2⟩ := h.blk
  refine ⟨h.lob, ⟨r, h1, hf.keep h2 hb⟩, h.len, h.ne, ?_⟩
  rcases h.own with h3 | ⟨h3, h4⟩
  · exact .inl h3
  · exact .inr ⟨h3.keep hf hs, h4⟩
theorem HashAt.zero {w w' : World} {T : TypeId} (f : List ShaM.W → List UInt8 → List ShaM.W) (st : List ShaM.W) (h : w' = w.alloc (.cells #[.slice none 0 0, .string ⟨#[]⟩, .int .u64 0] T)) : HashAt w' w.heap.size w.heap.size ⟨none, 0, 0⟩ T f st [] :=
  ⟨Nat.le_refl _, ⟨⟨#[]⟩, rfl, by rw [h]; exact alloc_new _ _⟩, Nat.zero_le _, (fun y hy => by cases hy), .inl ⟨rfl, rfl⟩⟩
theorem since_back {w w1 : World} {sl sl' : Sl} (f : Fr (fun _ => False) w w1) (h : Since w1 sl sl') : Since w sl sl' := fun y hy => by
  rcases h y hy with h | h
  · exact .inl h
  · exact .inr (by have := f.size; omega)
end Go.Proofs.YtfoeooddnmppnaaDoor

/- What write and sum of the package sha do, by block256. Conditions: the texts are short enough for a slice to hold (2 to the 56th). -/
set_option linter.unusedVariables false
namespace Go.Proofs.YtfoeooddnmppnaaDoor
open Go Vc ShaM Go.Proofs


theorem hw256_spec {w : World} {b lo : Nat} {sl : Sl} {T : TypeId} {t : List UInt8} (hh : HashAt w b lo sl T (block2 K256) start2 t) {a : Option Addr} (c : Nat) (hst : Reads w a (uv start2)) (x : ByteArray) (hx : t.length + x.size ≤ 72057594037927936) :
    Calls Tryd.prog F_sha_hash_write #[.pointer (some ⟨b, 0, none⟩), .string x, .slice a 8 c, .func (.func F_sha_block256) #[] #[]] w fun e w' =>
      e = .returned (.tuple #[]) ∧ ∃ sl', HashAt w' b lo sl' T (block2 K256) start2 (t ++ x.data.toList) ∧ sl'.a ≠ none ∧ Fr (fun k => k = b ∨ Vc.At sl k) w w' ∧ Since w sl sl' := by
  refine vc_sha_hash_write_256_ok (R := fun v w' => v = .tuple #[] ∧ ∃ sl', HashAt w' b lo sl' T (block2 K256) start2 (t ++ x.data.toList) ∧ sl'.a ≠ none ∧ Fr (fun k => k = b ∨ Vc.At sl k) w w' ∧ Since w sl sl') ?_ (fun v w' h => ⟨by rw [h.1], h.2⟩)
  obtain ⟨r, hr, hblk⟩ := hh.blk
  have hbw := lt_blk hblk
  have hlo := hh.lob
  have hxl : x.data.toList.length = x.size := by simp
  have hstl : (stt (block2 K256) start2 t).length = 8 := blocks_length (f := (block2 K256)) (fun h p hl => by rw [block2_length]; exact hl) _ _ _ rfl
  have hrs : r.size = t.length % 64 := by rw [← rest_length, ← hr]; simp
  refine ⟨fun w6 => ∃ sl1, w6.heap[b]? = some (.cells #[.slice sl1.a sl1.len sl1.cap, .string r, .int .u64 (t.length : Int)] T) ∧ Vc.Own w6 lo T_uint32 sl1 (uv (stt (block2 K256) start2 t)) ∧ (∀ y, sl1.a = some y → y.block ≠ b) ∧ Fr (fun k => k = b ∨ Vc.At sl k) w w6 ∧ Since w sl sl1, ⟨sl, by rw [cell_blk hblk]; rfl, fun hnone => ?_, fun hsome => ?_⟩, ?_⟩
  · rcases hh.own with ⟨rfl, rfl⟩ | ⟨_, hne⟩
    · obtain ⟨w3, l4, hr3, o3, f3, s3⟩ := append_all' elU32 (Vc.Own.nil w lo T_uint32) c hst (one_uv _) (by simp only [List.length_nil, uv_len]; decide) (by simp only [List.length_nil, uv_len]; decide) (by omega) (m := 8) rfl
      rw [List.nil_append] at o3
      have f3' : Fr (fun _ => False) w w3 := f3.mono fun k hk ⟨y, hy, _⟩ => by cases hy
      have hb3 := f3'.keep hblk (by simp)
      refine ⟨w3, l4, hr3, wr_blk hb3 (by simp), ?_⟩
      intro w5 hw5
      have hb5 := set_blk hb3 0 (.slice l4.a l4.len l4.cap)
      rw [← hw5] at hb5
      have f5 : Fr (· = b) w3 w5 := hw5 ▸ Fr.set (· = b) _ (a := ⟨b, 0, none⟩) _ rfl
      have hne4 : ∀ y, l4.a = some y → y.block ≠ b := fun y hy => by
        rcases s3 y hy with ⟨z, hz, _⟩ | hn
        · cases hz
        · omega
      exact ⟨l4, hb5, o3.keep f5 (fun y hy => hne4 y hy), hne4, (f3'.mono (by simp)).trans f5 (fun k hk h => .inl h), s3⟩
    · exfalso
      cases hsa : sl.a with
      | none => exact hne hsa
      | some y => rw [hsa] at hnone; cases hnone
  · rcases hh.own with ⟨rfl, rfl⟩ | ⟨ho, hne⟩
    · cases hsome
    · exact ⟨sl, hblk, ho, hh.ne, .refl _ _, .refl _ _⟩
  rintro w6 ⟨sl1, hb6, o6, hne1, f6, s6⟩
  refine ⟨_, by rw [cell_blk hb6]; rfl, wr_blk hb6 (by simp), ?_⟩
  intro w8 hw8
  have en : IntKind.u64.wrap ((t.length : Int) + IntKind.u64.wrap (x.size : Int)) = (((t ++ x.data.toList).length : Nat) : Int) := by
    rw [List.length_append, hxl, wrap_u64 (x := (x.size : Int)) (by omega) (by omega), wrap_u64 (by omega) (by omega)]; omega
  rw [en] at hw8
  have hb8 := set_blk hb6 2 (.int .u64 (((t ++ x.data.toList).length : Nat) : Int))
  rw [← hw8] at hb8
  have f8 : Fr (· = b) w6 w8 := hw8 ▸ Fr.set (· = b) _ (a := ⟨b, 2, none⟩) _ rfl
  refine ⟨r, by rw [cell_blk hb8]; rfl, by omega, ?_⟩
  have hX : ∀ k, k < w.heap.size → Vc.At sl1 k → (k = b ∨ Vc.At sl k) := fun k hk ⟨y, hy, e⟩ => by
    rcases s6 y hy with ⟨z, hz, hzb⟩ | hn
    · exact .inr ⟨z, hz, by omega⟩
    · omega
  obtain ⟨TT, hTT⟩ : ∃ TT, rest t ++ x.data.toList = TT := ⟨_, rfl⟩
  have hTl : TT.length = t.length % 64 + x.size := by rw [← hTT, List.length_append, rest_length, hxl]
  obtain ⟨q1, q2⟩ := step_all (block2 K256) start2 t x.data.toList
  rw [hTT] at q1 q2
  refine ⟨fun s w' => ∃ q : Nat, 64 * q ≤ TT.length ∧ s.data.toList = TT.drop (64 * q) ∧ w'.heap[b]? = some (.cells #[.slice sl1.a sl1.len sl1.cap, .string r, .int .u64 (((t ++ x.data.toList).length : Nat) : Int)] T) ∧ Vc.Own w' lo T_uint32 sl1 (uv (blocks (block2 K256) q (stt (block2 K256) start2 t) TT)) ∧ Fr (Vc.At sl1) w8 w',
    fun s _ => s.size, ⟨0, by omega, by rw [← hTT, ← hr]; simp, hb8, o6.keep f8 (fun y hy => hne1 y hy), .refl _ _⟩, ?_⟩
  rintro s w13 ⟨q, hq, hs, hb13, o13, f13⟩
  have hsz : s.size = TT.length - 64 * q := by
    have : s.data.toList.length = s.size := by simp
    rw [← this, hs, List.length_drop]
  refine ⟨fun hge => ?_, fun hlt => ?_⟩
  · have hge := of_decide_eq_true hge
    intro w14 d14
    refine ⟨fun w => w = w14, rfl, sl1, fun w hw => by rw [hw, d14.cell, cell_blk hb13]; rfl, ⟨by decide, by omega⟩, ?_⟩
    have hbl := blocks_length (f := (block2 K256)) (fun h p hl => by rw [block2_length]; exact hl) q (stt (block2 K256) start2 t) TT hstl
    have hex : (s.extract 0 (Int.toNat 64)).data.toList = (TT.drop (64 * q)).take 64 := by
      rw [ext_toList, hs]; rfl
    refine (block256_spec (o13.drew d14) hbl (s.extract 0 (Int.toNat 64)) (by rw [ByteArray.size_extract]; show min 64 s.size - 0 = 64; omega)).mono ?_
    rintro e w19 ⟨rfl, o19, f19⟩
    rw [hex, ← blocks_step (block2 K256)] at o19
    have hb19 : w19.heap[b]? = _ := f19.keep ((Fr.drew (fun _ => False) d14).keep hb13 (by simp)) (fun ⟨y, hy, e⟩ => hne1 y hy e.symm)
    refine ⟨rfl, ⟨by decide, by omega⟩, ⟨q + 1, by omega, ?_, hb19, o19, (f13.trans' (.drew _ d14)).trans' f19⟩, ?_⟩
    · rw [ext_toList, hs, List.take_of_length_le (by rw [List.length_drop, List.length_drop]; show _ ≤ s.size - 64; omega), List.drop_drop]
      congr 1
    · dsimp only
      rw [ByteArray.size_extract]
      show min s.size s.size - 64 < s.size
      omega
  · have hlt := of_decide_eq_false hlt
    have hq2 : q = TT.length / 64 := by omega
    subst hq2
    rw [q1] at o13
    rw [q2] at hs
    refine ⟨wr_blk hb13 (by simp), ?_⟩
    intro w20 hw20
    have hb20 := set_blk hb13 1 (.string s)
    rw [← hw20] at hb20
    have f20 : Fr (· = b) w13 w20 := hw20 ▸ Fr.set (· = b) _ (a := ⟨b, 1, none⟩) _ rfl
    have o20 := o13.keep f20 (fun y hy => hne1 y hy)
    have hstl2 : (stt (block2 K256) start2 (t ++ x.data.toList)).length = 8 := blocks_length (f := (block2 K256)) (fun h p hl => by rw [block2_length]; exact hl) _ _ _ rfl
    refine ⟨rfl, sl1, ⟨hlo, ⟨s, hs, hb20⟩, by rw [List.length_append, hxl]; omega, hne1, .inr ⟨o20, fun hn => ?_⟩⟩, fun hn => ?_, ((f6.trans f8 (fun k hk h => .inl h)).trans f13 hX).trans f20 (fun k hk h => .inl h), s6⟩
    all_goals
      obtain ⟨y, hy, _⟩ := own_get o20 (i := 0) (by omega)
      rw [hn] at hy; cases hy
end Go.Proofs.YtfoeooddnmppnaaDoor

/- What sum of the package sha does, by block256. Conditions: the texts are short enough for a slice to hold (2 to the 56th). -/
set_option linter.unusedVariables false
namespace Go.Proofs.YtfoeooddnmppnaaDoor
open Go Vc ShaM Go.Proofs

/-- What is put behind the text, block256. -/
def tail256 (n : Nat) : List UInt8 := 0x80 :: List.replicate ((119 - n % 64) % 64) 0 ++ (List.range 8).map fun i => UInt8.ofNat (n * 8 / 2 ^ (56 - 8 * i))
theorem pad256_eq (t : List UInt8) : pad t = t ++ tail256 t.length := by simp [pad, tail256]
theorem outw256_eq (x : ShaM.W) : (Array.mk [Value.int .u8 (IntKind.u8.wrap (Int.fdiv (x.toNat : Int) (2 ^ min (Int.toNat 24) 32))), .int .u8 (IntKind.u8.wrap (Int.fdiv (x.toNat : Int) (2 ^ min (Int.toNat 16) 32))), .int .u8 (IntKind.u8.wrap (Int.fdiv (x.toNat : Int) (2 ^ min (Int.toNat 8) 32))), .int .u8 (IntKind.u8.wrap (x.toNat : Int))] : Array Value) = (byteV (outw x)).toArray := by
  have h : ∀ (n k : Nat), IntKind.u8.wrap (Int.fdiv (n : Int) ((k + 1 : Nat) : Int)) = (((UInt8.ofNat (n / (k + 1))).toNat : Nat) : Int) := fun n k => by
    rw [Int.fdiv_eq_ediv_of_nonneg _ (Int.natCast_nonneg _), ← Int.natCast_ediv, wrap_u8_mod, UInt8.toNat_ofNat']
    omega
  have h0 : IntKind.u8.wrap (x.toNat : Int) = (((UInt8.ofNat x.toNat).toNat : Nat) : Int) := by rw [wrap_u8_mod, UInt8.toNat_ofNat']; omega
  have p24 : (2 : Int) ^ min (Int.toNat 24) 32 = ((16777215 + 1 : Nat) : Int) := rfl
  have p16 : (2 : Int) ^ min (Int.toNat 16) 32 = ((65535 + 1 : Nat) : Int) := rfl
  have p8 : (2 : Int) ^ min (Int.toNat 8) 32 = ((255 + 1 : Nat) : Int) := rfl
  rw [p24, p16, p8, h, h, h, h0]
  rfl
theorem hs256_spec {w : World} {b lo : Nat} {sl : Sl} {T : TypeId} {t : List UInt8} (hh : HashAt w b lo sl T (block2 K256) start2 t) {a : Option Addr} (c : Nat) (hst : Reads w a (uv start2)) (hx : t.length + 200 ≤ 72057594037927936) :
    Calls Tryd.prog F_sha_hash_sum #[.pointer (some ⟨b, 0, none⟩), .slice a 8 c, .func (.func F_sha_block256) #[] #[]] w fun e w' => e = .returned (.string ⟨(digest (block2 K256) start2 t).toArray⟩) ∧ Fr (fun _ => False) w w' := by
  refine vc_sha_hash_sum_256_ok (R := fun v w' => v = .string ⟨(digest (block2 K256) start2 t).toArray⟩ ∧ Fr (fun _ => False) w w') ?_ (fun v w' h => ⟨by rw [h.1], h.2⟩)
  obtain ⟨r, hr, hblk⟩ := hh.blk
  have hbw := lt_blk hblk
  have hrs : r.size = t.length % 64 := by rw [← rest_length, ← hr]; simp
  -- the copy's words
  have copy_ : ∀ w2, Fr (fun _ => False) w w2 → ∃ w3 l3, (Builtin.append_ #[T_S_uint32, T_S_uint32] T_S_uint32 #[.slice none 0 0, .slice sl.a sl.len sl.cap]).run Tryd.prog w2 = .ok (.slice l3.a l3.len l3.cap) w3 ∧ Fr (fun _ => False) w2 w3 ∧
      (∀ y, l3.a = some y → w2.heap.size ≤ y.block ∧ y.block < w3.heap.size) ∧ ((sl = ⟨none, 0, 0⟩ ∧ t = [] ∧ l3 = ⟨none, 0, 0⟩) ∨ (Vc.Own w3 w.heap.size T_uint32 l3 (uv (stt (block2 K256) start2 t)) ∧ sl.a ≠ none)) := fun w2 f2 => by
    have hsz := f2.size
    rcases hh.own with ⟨h1, h2⟩ | ⟨ho, hne⟩
    · obtain ⟨w3, l3, hr3, o3, f3, s3⟩ := append_all' (w := w2) elU32 (Vc.Own.nil w2 w.heap.size T_uint32) sl.cap (Reads.nil w2 sl.a) (by simp) (by decide) (by decide) hsz (m := sl.len) (by rw [h1]; rfl)
      have f3' : Fr (fun _ => False) w2 w3 := f3.mono fun k hk ⟨y, hy, _⟩ => by cases hy
      have hl3 : l3.a = none := by
        cases h : l3.a with
        | none => rfl
        | some y =>
          exfalso
          subst h1
          have hr4 := append_all' (w := w2) elU32 (Vc.Own.nil w2 w.heap.size T_uint32) 0 (Reads.nil w2 none) (by simp) (by decide) (by decide) hsz (m := 0) rfl
          have : (Builtin.append_ #[T_S_uint32, T_S_uint32] T_S_uint32 #[.slice none 0 0, .slice none 0 0]).run Tryd.prog w2 = .ok (.slice none 0 0) w2 := by
            obtain ⟨i, hi, hi2⟩ := Option.map_eq_some_iff.1 elU32.info
            simp [Builtin.append_, run_underlying elU32.sl, Go.sizeOf, typeInfo, hi, Builtin.lenOf, Builtin.firstCells]
          rw [this] at hr3
          simp only [Result.ok.injEq, Value.slice.injEq] at hr3
          rw [← hr3.1.1] at h; cases h
      have hl3' : l3 = ⟨none, 0, 0⟩ := by
        rcases o3.2 with ⟨_, q1, q2⟩ | ⟨g, cur, hg, _⟩
        · cases l3; simp_all
        · rw [hl3] at hg; cases hg
      exact ⟨w3, l3, hr3, f3', (fun y hy => by rw [hl3] at hy; cases hy), .inl ⟨h1, h2, hl3'⟩⟩
    · obtain ⟨w3, l3, hr3, o3, f3, s3⟩ := append_all' (w := w2) elU32 (Vc.Own.nil w2 w.heap.size T_uint32) sl.cap ((ho.keep f2 (by simp)).reads) (one_uv _) (by simp only [List.length_nil, uv_len, stt, blocks_length (f := (block2 K256)) (fun h p hl => by rw [block2_length]; exact hl) _ _ _ (rfl : start2.length = 8)]; decide)
        (by simp only [List.length_nil, uv_len, stt, blocks_length (f := (block2 K256)) (fun h p hl => by rw [block2_length]; exact hl) _ _ _ (rfl : start2.length = 8)]; decide) hsz (m := sl.len) ho.len.symm
      rw [List.nil_append] at o3
      have f3' : Fr (fun _ => False) w2 w3 := f3.mono fun k hk ⟨y, hy, _⟩ => by cases hy
      refine ⟨w3, l3, hr3, f3', fun y hy => ?_, .inr ⟨o3, hne⟩⟩
      rcases s3 y hy with ⟨z, hz, _⟩ | hn
      · cases hz
      · exact ⟨hn, (o3.blk hy).2⟩
  refine ⟨fun q w' => ∃ eb slE, q = ⟨eb, 0, none⟩ ∧ w.heap.size ≤ eb ∧ HashAt w' eb w.heap.size slE T_sha_hash (block2 K256) start2 t ∧ Fr (fun _ => False) w w', ?_, ?_⟩
  · intro w2 d2
    have f2 : Fr (fun _ => False) w w2 := .drew _ d2
    refine ⟨Fr (fun _ => False) w, f2, sl, fun w5 h5 => by rw [cell_blk (h5.keep hblk (by simp))]; rfl, r, fun w5 h5 => by rw [cell_blk (h5.keep hblk (by simp))]; rfl, _, fun w5 h5 => by rw [cell_blk (h5.keep hblk (by simp))]; rfl, ?_, ?_⟩
    · obtain ⟨w10, l11, hr10, f10, hb10, hc⟩ := copy_ w2 f2
      refine ⟨w10, l11, hr10, f2.trans' f10, ?_⟩
      intro w12 hw12
      have f12 : Fr (fun _ => False) w10 w12 := hw12 ▸ Fr.alloc _ _ _
      have hz12 := alloc_new w10 (.cells #[.slice none 0 0, .string ⟨#[]⟩, .int .u64 0] T_sha_hash)
      rw [← hw12] at hz12
      have h12 := (f2.trans' f10).trans' f12
      have hs := run_storeVar_row (P := Tryd.prog) w12 w10.heap.size T_sha_hash T_sha_hash _ #[.slice l11.a l11.len l11.cap, .string r, .int .u64 (t.length : Int)] hz12 (by kernel_rfl) rfl (by simp [Value.oneCell'])
      refine ⟨h12, _, hs, w10.heap.size, l11, rfl, (f2.trans' f10).size, ?_, ?_⟩
      · have hrow := setRow_heap w12 w10.heap.size _ #[.slice l11.a l11.len l11.cap, .string r, .int .u64 (t.length : Int)] T_sha_hash (0, 0) hz12
        have frow : Fr (· = w10.heap.size) w12 (w12.setRow w10.heap.size #[.slice l11.a l11.len l11.cap, .string r, .int .u64 (t.length : Int)]) := setRow_fr _ _ _ _ rfl
        refine ⟨(f2.trans' f10).size, ⟨r, hr, hrow⟩, hh.len, fun y hy => by have := (hb10 y hy).2; omega, ?_⟩
        rcases hc with ⟨_, h2, h3⟩ | ⟨h1, h2⟩
        · exact .inl ⟨h3, h2⟩
        · refine .inr ⟨(h1.keep f12 (by simp)).keep frow (fun y hy => by have := (hb10 y hy).2; omega), fun hn => ?_⟩
          obtain ⟨y, hy, _⟩ := own_get h1 (i := 0) (by rw [stt, blocks_length (f := (block2 K256)) (fun h p hl => by rw [block2_length]; exact hl) _ _ _ (rfl : start2.length = 8)]; decide)
          rw [hn] at hy; cases hy
      · exact h12.trans (setRow_fr (· = w10.heap.size) _ _ _ rfl) (fun q hq h => by have := (f2.trans' f10).size; omega)
    · intro w14 hw14
      have f14 : Fr (fun _ => False) w2 w14 := hw14 ▸ Fr.alloc _ _ _
      have hz14 := alloc_new w2 (.cells #[.slice none 0 0, .string ⟨#[]⟩, .int .u64 0] T_sha_hash)
      rw [← hw14] at hz14
      have h14 := f2.trans' f14
      obtain ⟨w15, l16, hr15, f15, hb15, hc⟩ := copy_ w14 h14
      have hz15 := f15.keep hz14 (by simp)
      have hs := run_storeVar_row (P := Tryd.prog) w15 w2.heap.size T_sha_hash T_sha_hash _ #[.slice l16.a l16.len l16.cap, .string r, .int .u64 (t.length : Int)] hz15 (by kernel_rfl) rfl (by simp [Value.oneCell'])
      have h15 := h14.trans' f15
      have hlt14 := lt_blk hz14
      refine ⟨h14, w15, l16, hr15, h15, _, hs, w2.heap.size, l16, rfl, f2.size, ?_, ?_⟩
      · have hrow := setRow_heap w15 w2.heap.size _ #[.slice l16.a l16.len l16.cap, .string r, .int .u64 (t.length : Int)] T_sha_hash (0, 0) hz15
        have frow : Fr (· = w2.heap.size) w15 (w15.setRow w2.heap.size #[.slice l16.a l16.len l16.cap, .string r, .int .u64 (t.length : Int)]) := setRow_fr _ _ _ _ rfl
        refine ⟨f2.size, ⟨r, hr, hrow⟩, hh.len, fun y hy => by have := (hb15 y hy).1; omega, ?_⟩
        rcases hc with ⟨_, h2, h3⟩ | ⟨h1, h2⟩
        · exact .inl ⟨h3, h2⟩
        · refine .inr ⟨h1.keep frow (fun y hy => by have := (hb15 y hy).1; omega), fun hn => ?_⟩
          obtain ⟨y, hy, _⟩ := own_get h1 (i := 0) (by rw [stt, blocks_length (f := (block2 K256)) (fun h p hl => by rw [block2_length]; exact hl) _ _ _ (rfl : start2.length = 8)]; decide)
          rw [hn] at hy; cases hy
      · exact h15.trans (setRow_fr (· = w2.heap.size) _ _ _ rfl) (fun q hq h => by have := f2.size; omega)
  rintro q w19 ⟨eb, slE, rfl, heb, hE, f19⟩
  have hb19 := f19.keep hblk (by simp)
  refine ⟨fun w' => ∃ slE, HashAt w' eb w.heap.size slE T_sha_hash (block2 K256) start2 t ∧ Fr (fun _ => False) w w', ⟨sl, by rw [cell_blk hb19]; rfl, fun hnone => ?_, fun _ => ⟨slE, hE, f19⟩⟩, ?_⟩
  · rcases hh.own with ⟨h1, h2⟩ | ⟨_, hne⟩
    · obtain ⟨r2, hr2, hblk2⟩ := hE.blk
      refine ⟨wr_blk hblk2 (by simp), ?_⟩
      intro w22 hw22
      have hb22 := set_blk hblk2 0 (.slice none 0 0)
      rw [← hw22] at hb22
      have f22 : Fr (· = eb) w19 w22 := hw22 ▸ Fr.set (· = eb) _ (a := ⟨eb, 0, none⟩) _ rfl
      exact ⟨⟨none, 0, 0⟩, ⟨heb, ⟨r2, hr2, hb22⟩, hh.len, (fun y hy => by cases hy), .inl ⟨rfl, h2⟩⟩, f19.trans f22 (fun q hq h => by omega)⟩
    · exfalso
      cases hsa : sl.a with
      | none => exact hne hsa
      | some y => rw [hsa] at hnone; cases hnone
  clear hE f19 hb19 slE
  rintro w23 ⟨slE, hE, f23⟩
  refine ⟨fun s w' => w' = w23 ∧ ∃ j : Nat, j ≤ (119 - t.length % 64) % 64 ∧ s.data.toList = 0x80 :: List.replicate j 0, fun s _ => 200 - s.size, ⟨rfl, 0, Nat.zero_le _, rfl⟩, ?_⟩
  rintro s26 w27 ⟨rfl, j, hj, hs26⟩
  have hb27 := f23.keep hblk (by simp)
  have hs26l : s26.size = j + 1 := by
    have : s26.data.toList.length = s26.size := by simp
    rw [← this, hs26]; simp
  have htl := hh.len
  have e0 : Int.tmod (IntKind.i64.wrap ((r.size : Int) + (s26.size : Int))) 64 = ((((t.length % 64) + j + 1) % 64 : Nat) : Int) := by
    rw [wrap_i64 (by omega) (by omega), Int.tmod_eq_emod_of_nonneg (by omega)]; omega
  have e00 : ((ByteArray.mk (Array.mk [0])).size : Nat) = 1 := rfl
  refine ⟨r, by rw [cell_blk hb27]; rfl, by decide, ?_⟩
  rw [e0]
  refine ⟨fun hne => ?_, fun heq => ?_⟩
  · have hne : ¬ ((t.length % 64) + j + 1) % 64 = 56 := fun h => by rw [h] at hne; exact absurd hne (by decide)
    have hsz : (s26 ++ ByteArray.mk (Array.mk [0])).size = j + 2 := by rw [ByteArray.size_append, hs26l]; rfl
    refine ⟨by omega, ⟨rfl, j + 1, by omega, ?_⟩, ?_⟩
    · rw [ByteArray.data_append, Array.toList_append, hs26, List.replicate_succ']; rfl
    · dsimp only; omega
  have heq : ((t.length % 64) + j + 1) % 64 = 56 := by
    by_cases h : ((t.length % 64) + j + 1) % 64 = 56
    · exact h
    · exfalso
      have : ((((t.length % 64 + j + 1) % 64 : Nat) : Int) != 56) = true := by simp; omega
      rw [this] at heq; cases heq
  have hjz : j = (119 - t.length % 64) % 64 := by omega
  obtain ⟨bs, hbs⟩ : ∃ bs : List UInt8, (List.range 8).map (fun i => UInt8.ofNat (t.length * 8 / 2 ^ (56 - 8 * i))) = bs := ⟨_, rfl⟩
  have hbl : bs.length = 8 := by rw [← hbs]; simp
  refine ⟨fun l i w' => ∃ m : Nat, m ≤ 8 ∧ i = 56 - 8 * (m : Int) ∧ Vc.Own w' w27.heap.size T_uint8 l (byteV (bs.take m)) ∧ Fr (fun _ => False) w27 w', fun _ i _ => (i + 8).toNat, ⟨0, by decide, rfl, Vc.Own.nil _ _ _, .refl _ _⟩, ?_⟩
  rintro l31 i w33 ⟨m, hm, rfl, o33, f33⟩
  refine ⟨fun hge => ?_, fun hlt => ?_⟩
  · have hge := of_decide_eq_true hge
    have hb33 := f33.keep hb27 (by simp)
    refine ⟨_, by rw [cell_blk hb33]; rfl, hge, ?_⟩
    have hm8 : m < 8 := by omega
    have hg : bs[m]'(by omega) = UInt8.ofNat (t.length * 8 / 2 ^ (56 - 8 * m)) := by
      have h1 : bs[m]? = some (UInt8.ofNat (t.length * 8 / 2 ^ (56 - 8 * m))) := by
        rw [← hbs, List.getElem?_map, List.getElem?_range hm8]; rfl
      exact (List.getElem?_eq_some_iff.1 h1).2
    have htk : bs.take (m + 1) = bs.take m ++ [UInt8.ofNat (t.length * 8 / 2 ^ (56 - 8 * m))] := by rw [List.take_succ_eq_append_getElem (by omega), hg]
    have ev : IntKind.u8.wrap (Int.fdiv (IntKind.u64.wrap ((t.length : Int) * 8)) (2 ^ min (Int.toNat (56 - 8 * (m : Int))) 64)) = (((UInt8.ofNat (t.length * 8 / 2 ^ (56 - 8 * m))).toNat : Nat) : Int) := by
      have h1 : min (Int.toNat (56 - 8 * (m : Int))) 64 = 56 - 8 * m := by omega
      have hp : (2 : Int) ^ (56 - 8 * m) = ((2 ^ (56 - 8 * m) : Nat) : Int) := by push_cast; rfl
      have h2 : IntKind.u64.wrap ((t.length : Int) * 8) = ((t.length * 8 : Nat) : Int) := by rw [wrap_u64 (by omega) (by omega)]; omega
      rw [h1, hp, h2, Int.fdiv_eq_ediv_of_nonneg _ (Int.natCast_nonneg _), ← Int.natCast_ediv, wrap_u8_mod, UInt8.toNat_ofNat']
      omega
    rw [ev]
    intro w35 hw35
    have hl : (byteV (bs.take m)).length = m := by rw [List.length_map, List.length_take, hbl]; omega
    obtain ⟨w36, l37, hr36, o36, f36⟩ := append_one elByte o33 (v := .int .u8 (((UInt8.ofNat (t.length * 8 / 2 ^ (56 - 8 * m))).toNat : Nat) : Int)) rfl (by rw [hl]; unfold maxLen; omega) (by rw [hl]; omega) f33.size hw35
    have e8 : IntKind.i64.wrap (56 - 8 * (m : Int) - 8) = 56 - 8 * ((m + 1 : Nat) : Int) := by rw [wrap_i64 (by omega) (by omega)]; omega
    rw [e8]
    refine ⟨w36, l37, hr36, ⟨m + 1, by omega, rfl, ?_, f33.trans f36 (fun q hq ⟨y, hy, e⟩ => by have := (o33.blk hy).1; omega)⟩, by dsimp only; omega⟩
    rw [htk, byteV, List.map_append]; exact o36
  have hlt := of_decide_eq_false hlt
  have : m = 8 := by omega
  subst this
  rw [List.take_of_length_le (by omega)] at o33
  have hlb : bs.length = l31.len := by rw [o33.len, List.length_map]
  refine ⟨w33, _, bytes_str elByte.sl (by kernel_rfl) (by kernel_rfl) _ o33.reads hlb, ?_⟩
  have hbsz : (ByteArray.mk bs.toArray).size = 8 := by show bs.toArray.size = 8; rw [List.size_toArray, hbl]
  refine ⟨by omega, ?_⟩
  have hE33 := hE.keep f33 (by simp) (by simp)
  have hX : (s26 ++ ByteArray.mk bs.toArray).data.toList = tail256 t.length := by
    rw [ByteArray.data_append, Array.toList_append, hs26, hjz, tail256, hbs]
  have hXs : (s26 ++ ByteArray.mk bs.toArray).size ≤ 80 := by rw [ByteArray.size_append]; omega
  refine (hw256_spec hE33 c ((hst.keep f23 (by simp)).keep f33 (by simp)) (s26 ++ ByteArray.mk bs.toArray) (by omega)).mono ?_
  rintro e w41 ⟨rfl, sl', hE41, hne41, f41, s41⟩
  rw [hX, ← pad256_eq] at hE41
  have hebl : w.heap.size ≤ eb := heb
  have fE : Fr (fun _ => False) w w41 := (f23.trans' f33).trans f41 (fun q hq h => by
    rcases h with h | ⟨y, hy, h⟩
    · omega
    · rcases hE33.own with ⟨h1, _⟩ | ⟨h1, _⟩
      · rw [h1] at hy; cases hy
      · have := (h1.blk hy).1; omega)
  obtain ⟨r41, hr41, hblk41⟩ := hE41.blk
  have o41 : Vc.Own w41 w.heap.size T_uint32 sl' (uv (stt (block2 K256) start2 (pad t))) := by
    rcases hE41.own with ⟨h1, h2⟩ | ⟨h1, _⟩
    · rw [h1] at hne41; exact absurd rfl hne41
    · exact h1
  have hWl : (stt (block2 K256) start2 (pad t)).length = 8 := blocks_length (f := (block2 K256)) (fun h p hl => by rw [block2_length]; exact hl) _ _ _ rfl
  refine ⟨rfl, sl', by rw [cell_blk hblk41]; rfl, ?_⟩
  have hsl' : sl'.len = 8 := by rw [o41.len, uv_len, hWl]
  have hdg : digest (block2 K256) start2 t = out (stt (block2 K256) start2 (pad t)) := rfl
  rw [hdg]
  generalize stt (block2 K256) start2 (pad t) = WS at o41 hWl
  refine ⟨fun l i w' => ∃ m : Nat, m ≤ 8 ∧ i = (m : Int) ∧ Vc.Own w' w41.heap.size T_uint8 l (byteV (out (WS.take m))) ∧ Fr (fun _ => False) w41 w', fun _ i _ => ((8 : Int) - i).toNat, ⟨0, by decide, rfl, Vc.Own.nil _ _ _, .refl _ _⟩, ?_⟩
  rintro l45 i w47 ⟨m, hm, rfl, o47, f47⟩
  have houtl : ∀ l : List ShaM.W, (out l).length = 4 * l.length := fun l => by
    induction l with
    | nil => rfl
    | cons x l ih => 
      show (outw x ++ out l).length = _
      rw [List.length_append, ih, List.length_cons]; simp only [outw, List.length_cons, List.length_nil]; omega
  refine ⟨fun hlt => ?_, fun hge => ?_⟩
  · have hlt := of_decide_eq_true hlt
    have hml : m < WS.length := by omega
    obtain ⟨y, hy, hc⟩ := own_get (o41.keep f47 (by simp)) (i := m) hml
    have e1 : IntKind.i64.wrap ((m : Int) + 1) = ((m + 1 : Nat) : Int) := by rw [wrap_i64 (by omega) (by omega)]; omega
    refine ⟨⟨by omega, by omega⟩, y, hy, _, by rw [Int.toNat_natCast, Nat.mul_one]; exact hc, by decide, by decide, by decide, ?_⟩
    rw [outw256_eq, e1]
    have hg : WS.getD m 0 = WS[m] := by rw [List.getD_eq_getElem?_getD, List.getElem?_eq_getElem hml]; rfl
    rw [hg]
    have htk : out (WS.take (m + 1)) = out (WS.take m) ++ outw WS[m] := by
      rw [List.take_succ_eq_append_getElem hml, out, List.flatMap_append]; simp [out]
    generalize WS[m] = x at htk
    intro w50 hw50
    have f50 : Fr (fun _ => False) w47 w50 := hw50 ▸ Fr.alloc _ _ _
    have hz50 := alloc_new w47 (.cells (byteV (outw x)).toArray T_uint8)
    rw [← hw50] at hz50
    have hrd : Reads w50 (some ⟨w47.heap.size, 0, none⟩) (byteV (outw x)) := fun i v hv => by
      refine ⟨_, rfl, ?_⟩
      rw [add_lit, cell_blk hz50, Nat.zero_add, ← hv]; simp
    have hl : (byteV (out (WS.take m))).length = 4 * m := by rw [List.length_map, houtl, List.length_take]; omega
    obtain ⟨w51, l52, hr51, o51, f51⟩ := append_all elByte (o47.keep f50 (by simp)) 4 hrd (byteV_one _) (by rw [hl]; simp [outw, maxLen]; omega) (by rw [hl]; simp [outw]; omega) (f47.trans' f50).size (m := 4) (by simp [outw])
    refine ⟨w51, l52, hr51, ⟨m + 1, by omega, rfl, ?_, (f47.trans' f50).trans f51 (fun q hq ⟨y, hy, e⟩ => by have := (o47.blk hy).1; omega)⟩, by dsimp only; omega⟩
    rw [htk, byteV, List.map_append]; exact o51
  · have hge := of_decide_eq_false hge
    have : m = 8 := by omega
    subst this
    rw [List.take_of_length_le (by omega)] at o47
    exact ⟨w47, _, bytes_str elByte.sl (by kernel_rfl) (by kernel_rfl) _ o47.reads (by rw [o47.len, List.length_map]), rfl, fE.trans' f47⟩
end Go.Proofs.YtfoeooddnmppnaaDoor

/- Hash256 and Sum256 of the package sha. Conditions: the texts are short enough for a slice to hold (2 to the 56th). -/
set_option linter.unusedVariables false
namespace Go.Proofs.YtfoeooddnmppnaaDoor
open Go Vc ShaM Go.Proofs

theorem start256_spec (w : World) : Calls Tryd.prog F_sha_start256 #[] w fun e w' => e = .returned (.slice (some ⟨w.heap.size, 0, none⟩) 8 8) ∧ Vc.Own w' w.heap.size T_uint32 ⟨some ⟨w.heap.size, 0, none⟩, 8, 8⟩ (uv start2) ∧ Fr (fun _ => False) w w' := by
  refine vc_sha_start256_ok (R := fun v w' => v = .slice (some ⟨w.heap.size, 0, none⟩) 8 8 ∧ Vc.Own w' w.heap.size T_uint32 ⟨some ⟨w.heap.size, 0, none⟩, 8, 8⟩ (uv start2) ∧ Fr (fun _ => False) w w') ?_ (fun v w' h => ⟨by rw [h.1], h.2⟩)
  intro w1 hw1
  exact ⟨rfl, ⟨rfl, .inr ⟨w.heap.size, _, rfl, Nat.le_refl _, hw1 ▸ alloc_new _ _, Nat.le_refl _, by simp [maxLen], rfl, rfl⟩⟩, hw1 ▸ Fr.alloc _ _ _⟩

section
variable {w : World} {b lo : Nat} {sl : Sl} {T : TypeId} {t : List UInt8}
theorem h256write_spec (hh : HashAt w b lo sl T (block2 K256) start2 t) (x : ByteArray) (hx : t.length + x.size ≤ 72057594037927936) :
    Calls Tryd.prog F_sha_Hash256_Write #[.pointer (some ⟨b, 0, none⟩), .string x] w fun e w' =>
      e = .returned (.tuple #[]) ∧ ∃ sl', HashAt w' b lo sl' T (block2 K256) start2 (t ++ x.data.toList) ∧ Fr (fun k => k = b ∨ Vc.At sl k) w w' ∧ Since w sl sl' := by
  refine vc_sha_Hash256_Write_ok (R := fun v w' => v = .tuple #[] ∧ ∃ sl', HashAt w' b lo sl' T (block2 K256) start2 (t ++ x.data.toList) ∧ Fr (fun k => k = b ∨ Vc.At sl k) w w' ∧ Since w sl sl') ?_ (fun v w' h => ⟨by rw [h.1], h.2⟩)
  intro w1 d1
  refine ⟨fun _ => True, trivial, (start256_spec w1).mono ?_⟩
  rintro e w4 ⟨rfl, o4, f4⟩
  have f14 : Fr (fun _ => False) w w4 := (Fr.drew _ d1).trans' f4
  refine ⟨⟨_, 8, 8⟩, rfl, trivial, ?_⟩
  refine (hw256_spec (hh.keep f14 (by simp) (by simp)) 8 o4.reads x hx).mono ?_
  rintro e w7 ⟨rfl, sl', h7, _, f7, s7⟩
  exact ⟨rfl, rfl, sl', h7, (f14.mono (by simp)).trans f7 (fun k _ h => h), since_back f14 s7⟩
theorem h256sum_spec (hh : HashAt w b lo sl T (block2 K256) start2 t) (hx : t.length + 200 ≤ 72057594037927936) :
    Calls Tryd.prog F_sha_Hash256_Sum #[.pointer (some ⟨b, 0, none⟩)] w fun e w' => e = .returned (.string ⟨(digest (block2 K256) start2 t).toArray⟩) ∧ Fr (fun _ => False) w w' := by
  refine vc_sha_Hash256_Sum_ok (R := fun v w' => v = .string ⟨(digest (block2 K256) start2 t).toArray⟩ ∧ Fr (fun _ => False) w w') ?_ (fun v w' h => ⟨by rw [h.1], h.2⟩)
  intro w1 d1
  refine ⟨fun _ => True, trivial, (start256_spec w1).mono ?_⟩
  rintro e w4 ⟨rfl, o4, f4⟩
  have f14 : Fr (fun _ => False) w w4 := (Fr.drew _ d1).trans' f4
  refine ⟨⟨_, 8, 8⟩, rfl, trivial, ?_⟩
  refine (hs256_spec (hh.keep f14 (by simp) (by simp)) 8 o4.reads hx).mono ?_
  rintro e w7 ⟨rfl, f7⟩
  exact ⟨_, rfl, trivial, rfl, f14.trans' f7⟩
end
theorem sum256_spec (x : ByteArray) (hx : x.size + 200 ≤ 72057594037927936) (w : World) : Calls Tryd.prog F_sha_Sum256 #[.string x] w fun e w' => e = .returned (.string ⟨(digest (block2 K256) start2 x.data.toList).toArray⟩) ∧ Fr (fun _ => False) w w' := by
  refine vc_sha_Sum256_ok (R := fun v w' => v = .string ⟨(digest (block2 K256) start2 x.data.toList).toArray⟩ ∧ Fr (fun _ => False) w w') ?_ (fun v w' h => ⟨by rw [h.1], h.2⟩)
  intro w1 hw1
  have f1 : Fr (fun _ => False) w w1 := hw1 ▸ Fr.alloc _ _ _
  have h1 := HashAt.zero (T := T_sha_Hash256) (block2 K256) start2 hw1
  refine (h256write_spec h1 x (by simp; omega)).mono ?_
  rintro e w3 ⟨rfl, sl', h3, f3, _⟩
  refine ⟨rfl, (h256sum_spec h3 (by simp; omega)).mono ?_⟩
  rintro e w5 ⟨rfl, f5⟩
  refine ⟨_, rfl, rfl, (f1.trans f3 (fun k hk h => ?_)).trans' f5⟩
  rcases h with h | ⟨y, hy, _⟩
  · omega
  · cases hy

end Go.Proofs.YtfoeooddnmppnaaDoor

/- A digit of a byte. No condition. -/
set_option linter.unusedVariables false
namespace Go.Proofs.YtfoeooddnmppnaaDoor
open Go Vc HexM Go.Proofs

theorem hexdig_at (n : Nat) (h : n < 16) : byteAt ⟨#[48, 49, 50, 51, 52, 53, 54, 55, 56, 57, 97, 98, 99, 100, 101, 102]⟩ (n : Int) = (hx n : Nat) := by
  rw [byteAt_nat]
  have ha : ((List.range 16).all fun n => byt ⟨#[48, 49, 50, 51, 52, 53, 54, 55, 56, 57, 97, 98, 99, 100, 101, 102]⟩ n == hx n) = true := by decide +kernel
  have := List.all_eq_true.1 ha n (List.mem_range.2 h)
  rw [eq_of_beq this]
theorem and15 (n : Nat) (h : n < 256) : n &&& 15 = n % 16 := Nat.and_two_pow_sub_one_eq_mod n 4
end Go.Proofs.YtfoeooddnmppnaaDoor

/- Formulas of 1 Go functions of this seat (written by a program of the author's, vcgen.py), and that each is enough for the call. No condition. -/
set_option linter.unusedVariables false
namespace Go.Proofs.YtfoeooddnmppnaaDoor
open Go Vc Go.Proofs
set_option maxRecDepth 100000
/-- sums.Hex -/
def vc_sums_Hex (x0 : ByteArray) (w : World) (R : Value → World → Prop) : Prop :=
  ∃ I1 : Sl → Int → World → Prop, ∃ I2 : Sl → Int → World → Nat, (I1 (Sl.mk none 0 0) 0 w ∧
   ∀ l3 : Sl,
   ∀ n4 : Int,
   ∀ w5 : World,
   (I1 l3 n4 w5 →
     (((decide (n4 < (↑(ByteArray.size x0) : Int)) = true →
        ∀ w6 : World,
        (Drew w5 w6 →
          ∃ I7 : World → Prop, (I7 w6 ∧
           ((0 ≤ n4 ∧
             n4 < (↑(ByteArray.size x0) : Int)) ∧
            ((0 : Int) ≤ (4 : Int) ∧
             ((0 ≤ Int.fdiv (byteAt x0 n4) (2 ^ min (Int.toNat 4) 8) ∧
               Int.fdiv (byteAt x0 n4) (2 ^ min (Int.toNat 4) 8) < (↑(ByteArray.size (ByteArray.mk (Array.mk [48, 49, 50, 51, 52, 53, 54, 55, 56, 57, 97, 98, 99, 100, 101, 102]))) : Int)) ∧
              ((0 ≤ n4 ∧
                n4 < (↑(ByteArray.size x0) : Int)) ∧
               ((0 ≤ IntKind.wrap IntKind.u8 (↑(BitVec.toNat (BitVec.ofInt 8 (byteAt x0 n4) &&& BitVec.ofInt 8 15)) : Int) ∧
                 IntKind.wrap IntKind.u8 (↑(BitVec.toNat (BitVec.ofInt 8 (byteAt x0 n4) &&& BitVec.ofInt 8 15)) : Int) < (↑(ByteArray.size (ByteArray.mk (Array.mk [48, 49, 50, 51, 52, 53, 54, 55, 56, 57, 97, 98, 99, 100, 101, 102]))) : Int)) ∧
                ∀ w8 : World,
                (w8 = World.alloc w6 (Obj.cells (Array.mk [Value.int IntKind.u8 (byteAt (ByteArray.mk (Array.mk [48, 49, 50, 51, 52, 53, 54, 55, 56, 57, 97, 98, 99, 100, 101, 102])) (Int.fdiv (byteAt x0 n4) (2 ^ min (Int.toNat 4) 8))), Value.int IntKind.u8 (byteAt (ByteArray.mk (Array.mk [48, 49, 50, 51, 52, 53, 54, 55, 56, 57, 97, 98, 99, 100, 101, 102])) (IntKind.wrap IntKind.u8 (↑(BitVec.toNat (BitVec.ofInt 8 (byteAt x0 n4) &&& BitVec.ofInt 8 15)) : Int)))]) 5) →
                  (I7 w8 ∧
                   ∃ w9 : World, ∃ l10 : Sl, (Sem.run Tryd.prog (Builtin.append_ (Array.mk [35, 35]) 35 (Array.mk [Value.slice l3.1 l3.2 l3.3, Value.slice (some (Addr.mk (Array.size (World.heap w6)) 0 none)) 2 2])) w8 = Result.ok (Value.slice l10.1 l10.2 l10.3) w9 ∧
                    (I7 w9 ∧
                     (I1 (Sl.mk l10.1 l10.2 l10.3) (IntKind.wrap IntKind.i64 (n4 + 1)) w9 ∧
                      I2 (Sl.mk l10.1 l10.2 l10.3) (IntKind.wrap IntKind.i64 (n4 + 1)) w9 < I2 l3 n4 w5)))))))))))))) ∧
      (decide (n4 < (↑(ByteArray.size x0) : Int)) = false →
        ∃ w11 : World, ∃ s12 : ByteArray, (Sem.run Tryd.prog (convert 35 9 (Value.slice l3.1 l3.2 l3.3)) w5 = Result.ok (Value.string s12) w11 ∧
         R (Value.string s12) w11)))))
theorem vc_sums_Hex_ok {x0 : ByteArray} {w : World} {R : Value → World → Prop} {R' : Ending → World → Prop} (h : vc_sums_Hex x0 w R) (hR : ∀ v w', R v w' → R' (.returned v) w') :
    Calls Tryd.prog 51 #[.string x0] w R' :=
  calls_of_body (vs := [(.string x0, false)]) (ty := ty) (ann := ⟨[], [(3, [(3, .slice), (7, .int .i64)])], [(5, .held [(0, true), (1, true), (2, true), (3, true), (4, true), (5, true), (6, true), (7, true), (8, true), (9, true), (10, true), (11, false), (12, false), (13, true)])], []⟩) (c := Tryd.f51.body.getD .skip) (by kernel_rfl) Tryd.func51 (by kernel_rfl) (by kernel_rfl) (Eq.mp (by kernel_rfl) h) hR
end Go.Proofs.YtfoeooddnmppnaaDoor

/- Hex. Conditions: as named. -/
set_option linter.unusedVariables false
namespace Go.Proofs.YtfoeooddnmppnaaDoor
open Go Vc HexM Go.Proofs

/-- 'Hex'. -/
theorem hex_spec (s : ByteArray) (hs : s.size ≤ 1000000000) (w : World) : Calls Tryd.prog F_sums_Hex #[.string s] w fun e w' => e = .returned (.string ⟨(hexL s.data.toList).toArray⟩) ∧ Fr (fun _ => False) w w' := by
  refine vc_sums_Hex_ok (R := fun v w' => v = .string ⟨(hexL s.data.toList).toArray⟩ ∧ Fr (fun _ => False) w w') ?_ (fun v w' h => ⟨by rw [h.1], h.2⟩)
  refine ⟨fun l n w' => ∃ k : Nat, n = k ∧ k ≤ s.size ∧ Vc.Own w' w.heap.size T_uint8 l (byteV (hexL (s.data.toList.take k))) ∧ Fr (fun _ => False) w w', fun _ n _ => s.size - n.toNat, ⟨0, rfl, Nat.zero_le _, .nil _ _ _, .refl _ _⟩, ?_⟩
  rintro l3 n w5 ⟨k, rfl, hk, ho, hf⟩
  have e1 : IntKind.i64.wrap ((k : Int) + 1) = ((k + 1 : Nat) : Int) := by rw [wrap_i64 (by omega) (by omega)]; omega
  rw [e1]
  have hln : (byteV (hexL (s.data.toList.take k))).length = 2 * k := by rw [bv_len, hexL_length, List.length_take, bs_len]; omega
  refine ⟨fun hlt w6 d6 => ?_, fun hge => ?_⟩
  · have hlt := of_decide_eq_true hlt
    have hb := byt_lt s k
    rw [byteAt_nat]
    have e2 : Int.fdiv ((byt s k : Nat) : Int) (2 ^ min (Int.toNat 4) 8) = ((byt s k / 16 : Nat) : Int) := by
      rw [show (2 : Int) ^ min (Int.toNat 4) 8 = ((16 : Nat) : Int) from rfl, Int.fdiv_eq_ediv_of_nonneg _ (Int.natCast_nonneg _), ← Int.natCast_ediv]
    have e3 : IntKind.u8.wrap (((BitVec.ofInt 8 ((byt s k : Nat) : Int) &&& BitVec.ofInt 8 15).toNat : Nat) : Int) = ((byt s k % 16 : Nat) : Int) := by
      rw [show (15 : Int) = ((15 : Nat) : Int) from rfl, and_nat 8 _ _ (by omega) (by decide), and15 _ hb, wrap_u8 (by omega) (by omega)]
    rw [e2, e3, hexdig_at _ (by omega), hexdig_at _ (by omega)]
    refine ⟨fun _ => True, trivial, ⟨by omega, by omega⟩, by decide, ⟨by omega, ?_⟩, ⟨by omega, by omega⟩, ⟨by omega, ?_⟩, fun w8 h8 => ⟨trivial, ?_⟩⟩
    · rw [show ByteArray.size ⟨#[48, 49, 50, 51, 52, 53, 54, 55, 56, 57, 97, 98, 99, 100, 101, 102]⟩ = 16 from rfl]; omega
    · rw [show ByteArray.size ⟨#[48, 49, 50, 51, 52, 53, 54, 55, 56, 57, 97, 98, 99, 100, 101, 102]⟩ = 16 from rfl]; omega
    obtain ⟨w9, l10, hr, ho9, hf9, _⟩ := append_new elByteH (ho.drew d6) (news := [.int .u8 (hx (byt s k / 16) : Nat), .int .u8 (hx (byt s k % 16) : Nat)]) (by simp [Value.oneCell']) (by rw [hln]; simp only [List.length_cons, List.length_nil]; unfold maxLen; omega) (by rw [hln]; simp only [List.length_cons, List.length_nil]; omega) (Nat.le_trans hf.size (by rw [d6.heap]; exact Nat.le_refl _)) h8 rfl
    refine ⟨w9, l10, hr, trivial, ⟨k + 1, rfl, by omega, ?_, ?_⟩, by dsimp only; omega⟩
    · rw [bs_take (by omega), hexL_snoc, toNat_of _ hb]
      have h1 := hx_lt (n := byt s k / 16) (by omega)
      have h2 := hx_lt (n := byt s k % 16) (by omega)
      have : byteV (hexL (s.data.toList.take k)) ++ [.int .u8 (hx (byt s k / 16) : Nat), .int .u8 (hx (byt s k % 16) : Nat)] = byteV (hexL (s.data.toList.take k) ++ [UInt8.ofNat (hx (byt s k / 16)), UInt8.ofNat (hx (byt s k % 16))]) := by
        simp [byteV]; omega
      rw [← this]; exact ho9
    · exact (hf.trans' (.drew _ d6)).trans hf9 fun q hq ⟨y, hy, e⟩ => by
        have := (ho.blk hy).1; omega
  · have hge := of_decide_eq_false hge
    have : k = s.size := by omega
    subst this
    rw [bs_all] at ho
    exact ⟨_, _, bytes_str (e := T_uint8) (by kernel_rfl) (by kernel_rfl) (by kernel_rfl) l3.cap ho.reads (by rw [ho.len, bv_len]), rfl, hf⟩
end Go.Proofs.YtfoeooddnmppnaaDoor

/- Base 64 in plain. No condition. -/
set_option linter.unusedVariables false
namespace B64M
/-- The 64 digits. -/
def dig : List UInt8 := [65, 66, 67, 68, 69, 70, 71, 72, 73, 74, 75, 76, 77, 78, 79, 80, 81, 82, 83, 84, 85, 86, 87, 88, 89, 90, 97, 98, 99, 100, 101, 102, 103, 104, 105, 106, 107, 108, 109, 110, 111, 112, 113, 114, 115, 116, 117, 118, 119, 120, 121, 122, 48, 49, 50, 51, 52, 53, 54, 55, 56, 57, 43, 47]
def d64 (n : Nat) : UInt8 := dig.getD n 0
/-- The text of bytes, three at a time. -/
def b64L : List UInt8 → List UInt8
  | [] => []
  | [a] => [d64 (a.toNat / 4), d64 (a.toNat % 4 * 16), 61, 61]
  | [a, b] => [d64 (a.toNat / 4), d64 (a.toNat % 4 * 16 + b.toNat / 16), d64 (b.toNat % 16 * 4), 61]
  | a :: b :: c :: r => d64 (a.toNat / 4) :: d64 (a.toNat % 4 * 16 + b.toNat / 16) :: d64 (b.toNat % 16 * 4 + c.toNat / 64) :: d64 (c.toNat % 64) :: b64L r
theorem b64_len : ∀ l : List UInt8, (b64L l).length = 4 * ((l.length + 2) / 3)
  | [] => rfl
  | [a] => by simp [b64L]
  | [a, b] => by simp [b64L]
  | a :: b :: c :: r => by
    rw [b64L]
    simp only [List.length_cons]
    rw [b64_len r]; omega
theorem b64_app : ∀ (k : Nat) (l r : List UInt8), l.length = 3 * k → b64L (l ++ r) = b64L l ++ b64L r
  | 0, l, r, h => by
    rw [List.length_eq_zero_iff.1 (by omega : l.length = 0)]; rfl
  | k + 1, a :: b :: c :: l, r, h => by
    have ih := b64_app k l r (by simp only [List.length_cons] at h; omega)
    simp only [List.cons_append]
    rw [b64L, b64L, ih]; rfl
  | k + 1, [], r, h => by simp at h
  | k + 1, [a], r, h => by simp only [List.length_cons, List.length_nil] at h; omega
  | k + 1, [a, b], r, h => by simp only [List.length_cons, List.length_nil] at h; omega
end B64M
namespace B64M
/-- The four letters of a text's first three bytes. -/
def quad (l : List UInt8) : List UInt8 := [d64 ((l.getD 0 0).toNat / 4), d64 ((l.getD 0 0).toNat % 4 * 16 + (l.getD 1 0).toNat / 16),
  if 2 ≤ l.length then d64 ((l.getD 1 0).toNat % 16 * 4 + (l.getD 2 0).toNat / 64) else 61, if 3 ≤ l.length then d64 ((l.getD 2 0).toNat % 64) else 61]
theorem b64_quad : ∀ l : List UInt8, l ≠ [] → b64L l = quad l ++ b64L (l.drop 3)
  | [], h => absurd rfl h
  | [a], _ => by simp [b64L, quad]
  | [a, b], _ => by simp [b64L, quad]
  | a :: b :: c :: r, _ => by simp [b64L, quad]
theorem quad_len (l : List UInt8) : (quad l).length = 4 := rfl
end B64M

/- Formulas of 1 Go functions of this seat (written by a program of the author's, vcgen.py), and that each is enough for the call. No condition. -/
set_option linter.unusedVariables false
namespace Go.Proofs.YtfoeooddnmppnaaDoor
open Go Vc Go.Proofs
set_option maxRecDepth 100000
/-- sums.Base64 -/
def vc_sums_Base64 (x0 : ByteArray) (w : World) (R : Value → World → Prop) : Prop :=
  ∃ I1 : ByteArray → Sl → World → Prop, ∃ I2 : ByteArray → Sl → World → Nat, (I1 x0 (Sl.mk none 0 0) w ∧
   ∀ s3 : ByteArray,
   ∀ l4 : Sl,
   ∀ w5 : World,
   (I1 s3 l4 w5 →
     (((decide ((↑(ByteArray.size s3) : Int) > 0) = true →
        ∀ w6 : World,
        (w6 = World.alloc w5 (Obj.cells (Array.mk [Value.int IntKind.u8 0, Value.int IntKind.u8 0, Value.int IntKind.u8 0]) 136) →
          ∃ w7 : World, ∃ n8 : Int, (Sem.run Tryd.prog (Builtin.copy_ (Array.mk [35, 9]) 3 (Array.mk [Value.slice (subA (some (Addr.mk (Array.size (World.heap w5)) 0 none)) 3 0 1) 3 3, Value.string s3])) w6 = Result.ok (Value.int IntKind.i64 n8) w7 ∧
           (((0 : Int) ≤ (0 : Int) ∧
             (0 : Int) < (↑(3 : Nat) : Int)) ∧
            ∃ n9 : Int, (World.cell? w7 (Addr.add (Addr.mk (Array.size (World.heap w5)) 0 none) (Int.toNat 0 * 1)) = some (Value.int IntKind.u8 n9) ∧
             ((0 : Int) ≤ (16 : Int) ∧
              (((0 : Int) ≤ (1 : Int) ∧
                (1 : Int) < (↑(3 : Nat) : Int)) ∧
               ∃ n10 : Int, (World.cell? w7 (Addr.add (Addr.mk (Array.size (World.heap w5)) 0 none) (Int.toNat 1 * 1)) = some (Value.int IntKind.u8 n10) ∧
                ((0 : Int) ≤ (8 : Int) ∧
                 (((0 : Int) ≤ (2 : Int) ∧
                   (2 : Int) < (↑(3 : Nat) : Int)) ∧
                  ∃ n11 : Int, (World.cell? w7 (Addr.add (Addr.mk (Array.size (World.heap w5)) 0 none) (Int.toNat 2 * 1)) = some (Value.int IntKind.u8 n11) ∧
                   ∃ I12 : Sl → Int → World → Prop, ∃ I13 : Sl → Int → World → Nat, (I12 (Sl.mk l4.1 l4.2 l4.3) 0 w7 ∧
                    ∀ l14 : Sl,
                    ∀ n15 : Int,
                    ∀ w16 : World,
                    (I12 l14 n15 w16 →
                      (((decide (n15 < 4) = true →
                         ((((decide (n15 ≤ if 3 < (↑(ByteArray.size s3) : Int) then 3 else (↑(ByteArray.size s3) : Int)) = true) →
                            (0 ≤ IntKind.wrap IntKind.i64 (18 - IntKind.wrap IntKind.i64 (6 * n15)) ∧
                             ((0 ≤ IntKind.wrap IntKind.u32 (↑(BitVec.toNat (BitVec.ofInt 32 (Int.fdiv (IntKind.wrap IntKind.u32 (↑(BitVec.toNat (BitVec.ofInt 32 (IntKind.wrap IntKind.u32 (↑(BitVec.toNat (BitVec.ofInt 32 (IntKind.wrap IntKind.u32 (IntKind.wrap IntKind.u32 n9 * 2 ^ min (Int.toNat 16) 32)) ||| BitVec.ofInt 32 (IntKind.wrap IntKind.u32 (IntKind.wrap IntKind.u32 n10 * 2 ^ min (Int.toNat 8) 32)))) : Int)) ||| BitVec.ofInt 32 (IntKind.wrap IntKind.u32 n11))) : Int)) (2 ^ min (Int.toNat (IntKind.wrap IntKind.i64 (18 - IntKind.wrap IntKind.i64 (6 * n15)))) 32)) &&& BitVec.ofInt 32 63)) : Int) ∧
                               IntKind.wrap IntKind.u32 (↑(BitVec.toNat (BitVec.ofInt 32 (Int.fdiv (IntKind.wrap IntKind.u32 (↑(BitVec.toNat (BitVec.ofInt 32 (IntKind.wrap IntKind.u32 (↑(BitVec.toNat (BitVec.ofInt 32 (IntKind.wrap IntKind.u32 (IntKind.wrap IntKind.u32 n9 * 2 ^ min (Int.toNat 16) 32)) ||| BitVec.ofInt 32 (IntKind.wrap IntKind.u32 (IntKind.wrap IntKind.u32 n10 * 2 ^ min (Int.toNat 8) 32)))) : Int)) ||| BitVec.ofInt 32 (IntKind.wrap IntKind.u32 n11))) : Int)) (2 ^ min (Int.toNat (IntKind.wrap IntKind.i64 (18 - IntKind.wrap IntKind.i64 (6 * n15)))) 32)) &&& BitVec.ofInt 32 63)) : Int) < (↑(ByteArray.size (ByteArray.mk (Array.mk [65, 66, 67, 68, 69, 70, 71, 72, 73, 74, 75, 76, 77, 78, 79, 80, 81, 82, 83, 84, 85, 86, 87, 88, 89, 90, 97, 98, 99, 100, 101, 102, 103, 104, 105, 106, 107, 108, 109, 110, 111, 112, 113, 114, 115, 116, 117, 118, 119, 120, 121, 122, 48, 49, 50, 51, 52, 53, 54, 55, 56, 57, 43, 47]))) : Int)) ∧
                              ∀ w17 : World,
                              (w17 = World.alloc w16 (Obj.cells (Array.mk [Value.int IntKind.u8 (byteAt (ByteArray.mk (Array.mk [65, 66, 67, 68, 69, 70, 71, 72, 73, 74, 75, 76, 77, 78, 79, 80, 81, 82, 83, 84, 85, 86, 87, 88, 89, 90, 97, 98, 99, 100, 101, 102, 103, 104, 105, 106, 107, 108, 109, 110, 111, 112, 113, 114, 115, 116, 117, 118, 119, 120, 121, 122, 48, 49, 50, 51, 52, 53, 54, 55, 56, 57, 43, 47])) (IntKind.wrap IntKind.u32 (↑(BitVec.toNat (BitVec.ofInt 32 (Int.fdiv (IntKind.wrap IntKind.u32 (↑(BitVec.toNat (BitVec.ofInt 32 (IntKind.wrap IntKind.u32 (↑(BitVec.toNat (BitVec.ofInt 32 (IntKind.wrap IntKind.u32 (IntKind.wrap IntKind.u32 n9 * 2 ^ min (Int.toNat 16) 32)) ||| BitVec.ofInt 32 (IntKind.wrap IntKind.u32 (IntKind.wrap IntKind.u32 n10 * 2 ^ min (Int.toNat 8) 32)))) : Int)) ||| BitVec.ofInt 32 (IntKind.wrap IntKind.u32 n11))) : Int)) (2 ^ min (Int.toNat (IntKind.wrap IntKind.i64 (18 - IntKind.wrap IntKind.i64 (6 * n15)))) 32)) &&& BitVec.ofInt 32 63)) : Int)))]) 5) →
                                ∃ w18 : World, ∃ l19 : Sl, (Sem.run Tryd.prog (Builtin.append_ (Array.mk [35, 35]) 35 (Array.mk [Value.slice l14.1 l14.2 l14.3, Value.slice (some (Addr.mk (Array.size (World.heap w16)) 0 none)) 1 1])) w17 = Result.ok (Value.slice l19.1 l19.2 l19.3) w18 ∧
                                 (I12 (Sl.mk l19.1 l19.2 l19.3) (IntKind.wrap IntKind.i64 (n15 + 1)) w18 ∧
                                  I13 (Sl.mk l19.1 l19.2 l19.3) (IntKind.wrap IntKind.i64 (n15 + 1)) w18 < I13 l14 n15 w16))))))) ∧
                          ((decide (n15 ≤ if 3 < (↑(ByteArray.size s3) : Int) then 3 else (↑(ByteArray.size s3) : Int)) = false) →
                            ∀ w20 : World,
                            (w20 = World.alloc w16 (Obj.cells (Array.mk [Value.int IntKind.u8 61]) 5) →
                              ∃ w21 : World, ∃ l22 : Sl, (Sem.run Tryd.prog (Builtin.append_ (Array.mk [35, 35]) 35 (Array.mk [Value.slice l14.1 l14.2 l14.3, Value.slice (some (Addr.mk (Array.size (World.heap w16)) 0 none)) 1 1])) w20 = Result.ok (Value.slice l22.1 l22.2 l22.3) w21 ∧
                               (I12 (Sl.mk l22.1 l22.2 l22.3) (IntKind.wrap IntKind.i64 (n15 + 1)) w21 ∧
                                I13 (Sl.mk l22.1 l22.2 l22.3) (IntKind.wrap IntKind.i64 (n15 + 1)) w21 < I13 l14 n15 w16))))))) ∧
                       (decide (n15 < 4) = false →
                         (((0 ≤ if 3 < (↑(ByteArray.size s3) : Int) then 3 else (↑(ByteArray.size s3) : Int)) ∧
                           ((if 3 < (↑(ByteArray.size s3) : Int) then 3 else (↑(ByteArray.size s3) : Int)) ≤ (↑(ByteArray.size s3) : Int))) ∧
                          ((I1 (ByteArray.extract s3 (Int.toNat (if 3 < (↑(ByteArray.size s3) : Int) then 3 else (↑(ByteArray.size s3) : Int))) (ByteArray.size s3)) (Sl.mk l14.1 l14.2 l14.3) w16) ∧
                           (I2 (ByteArray.extract s3 (Int.toNat (if 3 < (↑(ByteArray.size s3) : Int) then 3 else (↑(ByteArray.size s3) : Int))) (ByteArray.size s3)) (Sl.mk l14.1 l14.2 l14.3) w16 < I2 s3 l4 w5))))))))))))))))))) ∧
      (decide ((↑(ByteArray.size s3) : Int) > 0) = false →
        ∃ w23 : World, ∃ s24 : ByteArray, (Sem.run Tryd.prog (convert 35 9 (Value.slice l4.1 l4.2 l4.3)) w5 = Result.ok (Value.string s24) w23 ∧
         R (Value.string s24) w23)))))
theorem vc_sums_Base64_ok {x0 : ByteArray} {w : World} {R : Value → World → Prop} {R' : Ending → World → Prop} (h : vc_sums_Base64 x0 w R) (hR : ∀ v w', R v w' → R' (.returned v) w') :
    Calls Tryd.prog 53 #[.string x0] w R' :=
  calls_of_body (vs := [(.string x0, false)]) (ty := ty) (ann := ⟨[], [(2, [(0, .str), (3, .slice)]), (8, [(3, .slice), (30, .int .i64)])], [], []⟩) (c := Tryd.f53.body.getD .skip) (by kernel_rfl) Tryd.func53 (by kernel_rfl) (by kernel_rfl) (Eq.mp (by kernel_rfl) h) hR
end Go.Proofs.YtfoeooddnmppnaaDoor

/- sums.Base64: the text of any bytes. Condition: the text is no longer than a hundred million bytes. -/
set_option linter.unusedVariables false
namespace Go.Proofs.YtfoeooddnmppnaaDoor
open Go Vc Go.Proofs B64M

theorem run_copy_row_str {P : Program} (w : World) (dT sT ty elem : TypeId) (g dLen dCap : Nat) (s : ByteArray) (cur : Array Value) (t : TypeId)
    (hu : P.underlying dT = some (.slice elem)) (hs : (P.info? elem).map (·.size) = some 1) (hg : w.heap[g]? = some (.cells cur t (0, 0))) (hfit : Nat.min s.size dLen ≤ cur.size) :
    (Builtin.copy_ #[dT, sT] ty #[.slice (some ⟨g, 0, none⟩) dLen dCap, .string s]).run P w =
      .ok (goInt (Nat.min s.size dLen)) (w.setRow g (byteV (s.data.toList.take (Nat.min s.size dLen)) ++ cur.toList.drop (Nat.min s.size dLen)).toArray) := by
  have hlen : (byteV (s.data.toList.take (Nat.min s.size dLen))).length = Nat.min s.size dLen := by
    have : Nat.min s.size dLen ≤ s.size := Nat.min_le_left _ _
    rw [bv_len, List.length_take, bs_len]; omega
  have hst := run_storeCells_at P g 0 t (byteV (s.data.toList.take (Nat.min s.size dLen))) 0 cur w hg (by rw [hlen]; simpa using hfit) (bv_one _)
  have htk : List.take (Nat.min s.size dLen) (List.map (fun b : UInt8 => Value.int IntKind.u8 (b.toNat : Int)) s.data.toList) = byteV (s.data.toList.take (Nat.min s.size dLen)) := by
    unfold byteV; rw [List.map_take]
  rw [hlen] at hst
  simp only [Nat.add_zero, List.take_zero, List.nil_append, Nat.zero_add] at hst
  cases hq : P.info? elem with
  | none => simp [hq] at hs
  | some i =>
    simp [Builtin.copy_, run_underlying hu, Builtin.lenOf, Builtin.firstCells, sizeOf, typeInfo, hq]
    rw [htk, hst]
    simp [Result.andThen]
theorem setRow_frB (X : Nat → Prop) (w : World) (g : Nat) (cs : Array Value) (h : X g) : Fr X w (w.setRow g cs) :=
  ⟨rfl, rfl, rfl, by simp [World.setRow], fun k _ hk => setRow_other w g k cs (fun e => hk (e ▸ h))⟩
theorem d64_at (k : Nat) (h : k < 64) : byteAt ⟨#[65, 66, 67, 68, 69, 70, 71, 72, 73, 74, 75, 76, 77, 78, 79, 80, 81, 82, 83, 84, 85, 86, 87, 88, 89, 90, 97, 98, 99, 100, 101, 102, 103, 104, 105, 106, 107, 108, 109, 110, 111, 112, 113, 114, 115, 116, 117, 118, 119, 120, 121, 122, 48, 49, 50, 51, 52, 53, 54, 55, 56, 57, 43, 47]⟩ (k : Int) = (((d64 k).toNat : Nat) : Int) := by
  have key : ∀ k : Fin 64, byteAt ⟨#[65, 66, 67, 68, 69, 70, 71, 72, 73, 74, 75, 76, 77, 78, 79, 80, 81, 82, 83, 84, 85, 86, 87, 88, 89, 90, 97, 98, 99, 100, 101, 102, 103, 104, 105, 106, 107, 108, 109, 110, 111, 112, 113, 114, 115, 116, 117, 118, 119, 120, 121, 122, 48, 49, 50, 51, 52, 53, 54, 55, 56, 57, 43, 47]⟩ ((k : Nat) : Int) = (((d64 k).toNat : Nat) : Int) := by decide +kernel
  exact key ⟨k, h⟩
/-- Three bytes as a number, shifted and cut to six bits. -/
theorem six_of (a b c s : Nat) (ha : a < 256) (hb : b < 256) (hc : c < 256) (hs : s ≤ 18) :
    IntKind.u32.wrap (BitVec.toNat (BitVec.ofInt 32 (Int.fdiv (IntKind.u32.wrap (BitVec.toNat (BitVec.ofInt 32 (IntKind.u32.wrap (BitVec.toNat (BitVec.ofInt 32 (IntKind.u32.wrap (IntKind.u32.wrap (a : Int) * 2 ^ min (Int.toNat 16) 32)) ||| BitVec.ofInt 32 (IntKind.u32.wrap (IntKind.u32.wrap (b : Int) * 2 ^ min (Int.toNat 8) 32))) : Int)) ||| BitVec.ofInt 32 (IntKind.u32.wrap (c : Int))) : Int)) (2 ^ min s 32)) &&& BitVec.ofInt 32 63) : Int) = (((a * 65536 + b * 256 + c) / 2 ^ s % 64 : Nat) : Int) := by
  have p16 : (2 : Int) ^ min (Int.toNat 16) 32 = 65536 := by decide
  have p8 : (2 : Int) ^ min (Int.toNat 8) 32 = 256 := by decide
  rw [p16, p8, wrap_u32 (x := (a : Int)) (by omega) (by omega), wrap_u32 (x := (b : Int)) (by omega) (by omega), wrap_u32 (x := (c : Int)) (by omega) (by omega), wrap_u32 (x := (a : Int) * 65536) (by omega) (by omega), wrap_u32 (x := (b : Int) * 256) (by omega) (by omega),
    show (a : Int) * 65536 = ((a * 65536 : Nat) : Int) by omega, show (b : Int) * 256 = ((b * 256 : Nat) : Int) by omega, or_nat 32 _ _ (by omega) (by omega)]
  have o1 : a * 65536 ||| b * 256 = a * 65536 + b * 256 := by
    have := Nat.shiftLeft_add_eq_or_of_lt (i := 16) (b := b * 256) (by omega) a
    rw [Nat.shiftLeft_eq] at this
    exact this.symm
  have o2 : (a * 65536 + b * 256) ||| c = a * 65536 + b * 256 + c := by
    have := Nat.shiftLeft_add_eq_or_of_lt (i := 8) (b := c) (by omega) (a * 256 + b)
    have e : (a * 256 + b) <<< 8 = a * 65536 + b * 256 := by
      rw [Nat.shiftLeft_eq]
      show (a * 256 + b) * 256 = _
      omega
    rw [e] at this
    exact this.symm
  rw [o1, wrap_u32 (x := ((a * 65536 + b * 256 : Nat) : Int)) (by omega) (by omega), or_nat 32 _ _ (by omega) (by omega), o2, wrap_u32 (x := ((a * 65536 + b * 256 + c : Nat) : Int)) (by omega) (by omega)]
  generalize hN : a * 65536 + b * 256 + c = N
  have hNl : N < 16777216 := by omega
  have p2 : (2 : Int) ^ min s 32 = ((2 ^ s : Nat) : Int) := by rw [Nat.min_eq_left (by omega)]; push_cast; rfl
  rw [p2, Int.fdiv_eq_ediv_of_nonneg _ (Int.natCast_nonneg _), ← Int.natCast_ediv]
  have hq : N / 2 ^ s < 4294967296 := Nat.lt_of_le_of_lt (Nat.div_le_self _ _) (by omega)
  generalize N / 2 ^ s = q at *
  rw [show (63 : Int) = ((63 : Nat) : Int) by rfl, and_nat 32 _ _ (by omega) (by omega)]
  have : q &&& 63 = q % 64 := Nat.and_two_pow_sub_one_eq_mod q 6
  rw [this, wrap_u32 (by omega) (by omega)]
set_option maxHeartbeats 1000000 in
theorem base64_spec (s : ByteArray) (hs : s.size ≤ 100000000) (w : World) : Calls Tryd.prog F_sums_Base64 #[.string s] w fun e w' => e = .returned (.string ⟨(b64L s.data.toList).toArray⟩) ∧ Fr (fun _ => False) w w' := by
  refine vc_sums_Base64_ok (R := fun v w' => v = .string ⟨(b64L s.data.toList).toArray⟩ ∧ Fr (fun _ => False) w w') ?_ (fun v w' h => ⟨by rw [h.1], h.2⟩)
  refine ⟨fun t l w' => ∃ out : List UInt8, out ++ b64L t.data.toList = b64L s.data.toList ∧ t.size ≤ s.size ∧ out.length ≤ 4 * (s.size - t.size) ∧ Vc.Own w' w.heap.size T_uint8 l (byteV out) ∧ Fr (fun _ => False) w w', fun t _ _ => t.size,
    ⟨[], rfl, Nat.le_refl _, Nat.zero_le _, .nil _ _ _, .refl _ _⟩, ?_⟩
  rintro t l w5 ⟨out, hout, hts, hol, ho, hf⟩
  refine ⟨fun hpos w6 h6 => ?_, fun hz => ?_⟩
  · have hpos := of_decide_eq_true hpos
    obtain ⟨L, hL⟩ : ∃ L, t.data.toList = L := ⟨_, rfl⟩
    have hLl : L.length = t.size := by rw [← hL, bs_len]
    have hLne : L ≠ [] := fun h => by rw [h] at hLl; simp at hLl; omega
    rw [hL, b64_quad L hLne] at hout
    have hf6 : Fr (fun _ => False) w5 w6 := by rw [h6]; exact .alloc _ _ _
    have hb6 : w6.heap[w5.heap.size]? = some (.cells #[.int .u8 0, .int .u8 0, .int .u8 0] 136 (0, 0)) := by rw [h6]; exact alloc_new _ _
    have hmin : Nat.min t.size 3 ≤ 3 := Nat.min_le_right _ _
    have hcp := run_copy_row_str (P := Tryd.prog) w6 T_S_uint8 T_string T_int T_uint8 w5.heap.size 3 3 t _ _ (by kernel_rfl) (by kernel_rfl) hb6 hmin
    have hsub : subA (some (⟨w5.heap.size, 0, none⟩ : Addr)) 3 0 1 = some ⟨w5.heap.size, 0, none⟩ := rfl
    rw [hsub]
    refine ⟨_, _, hcp, ?_⟩
    obtain ⟨w7, hw7⟩ : ∃ w7, w6.setRow w5.heap.size (byteV (t.data.toList.take (Nat.min t.size 3)) ++ (#[Value.int .u8 0, .int .u8 0, .int .u8 0] : Array Value).toList.drop (Nat.min t.size 3)).toArray = w7 := ⟨_, rfl⟩
    rw [hw7]
    have hf7 : Fr (fun _ => False) w5 w7 := by
      rw [← hw7]
      exact hf6.trans (setRow_frB (· = w5.heap.size) w6 _ _ rfl) fun q hq e => by omega
    have hb7 : w7.heap[w5.heap.size]? = some (.cells #[.int .u8 (((L.getD 0 0).toNat : Nat) : Int), .int .u8 (((L.getD 1 0).toNat : Nat) : Int), .int .u8 (((L.getD 2 0).toNat : Nat) : Int)] 136 (0, 0)) := by
      rw [← hw7, setRow_heap w6 _ _ _ _ _ hb6, hL, ← hLl]
      have : ∀ M : List UInt8, M ≠ [] → (byteV (M.take (Nat.min M.length 3)) ++ (#[Value.int .u8 0, .int .u8 0, .int .u8 0] : Array Value).toList.drop (Nat.min M.length 3)).toArray = #[.int .u8 (((M.getD 0 0).toNat : Nat) : Int), .int .u8 (((M.getD 1 0).toNat : Nat) : Int), .int .u8 (((M.getD 2 0).toNat : Nat) : Int)] := fun M hM => by
        match M, hM with
        | [], h => exact absurd rfl h
        | [a], _ => rfl
        | [a, b], _ => rfl
        | a :: b :: c :: r, _ =>
          have : Nat.min (a :: b :: c :: r).length 3 = 3 := Nat.min_eq_right (by simp)
          rw [this]; rfl
      rw [this L hLne]
    have c0 : w7.cell? ((⟨w5.heap.size, 0, none⟩ : Addr).add (Int.toNat 0 * 1)) = some (.int .u8 (((L.getD 0 0).toNat : Nat) : Int)) := by rw [add_lit, cell_blk hb7]; rfl
    have c1 : w7.cell? ((⟨w5.heap.size, 0, none⟩ : Addr).add (Int.toNat 1 * 1)) = some (.int .u8 (((L.getD 1 0).toNat : Nat) : Int)) := by rw [add_lit, cell_blk hb7]; rfl
    have c2 : w7.cell? ((⟨w5.heap.size, 0, none⟩ : Addr).add (Int.toNat 2 * 1)) = some (.int .u8 (((L.getD 2 0).toNat : Nat) : Int)) := by rw [add_lit, cell_blk hb7]; rfl
    refine ⟨⟨by decide, by decide⟩, _, c0, by decide, ⟨by decide, by decide⟩, _, c1, by decide, ⟨by decide, by decide⟩, _, c2, ?_⟩
    have q0 : (L.getD 0 0).toNat < 256 := UInt8.toNat_lt _
    have q1 : (L.getD 1 0).toNat < 256 := UInt8.toNat_lt _
    have q2 : (L.getD 2 0).toNat < 256 := UInt8.toNat_lt _
    have hmn : (if 3 < (t.size : Int) then (3 : Int) else (t.size : Int)) = ((Nat.min t.size 3 : Nat) : Int) := by
      have : Nat.min t.size 3 = if 3 < t.size then 3 else t.size := by
        show min t.size 3 = _
        split <;> omega
      rw [this]
      split
      · rw [if_pos (by omega)]; rfl
      · rw [if_neg (by omega)]
    rw [hmn]
    have hq4 : ∀ i : Nat, i < 4 → (quad L)[i]? = some (if i ≤ Nat.min t.size 3 then d64 (((L.getD 0 0).toNat * 65536 + (L.getD 1 0).toNat * 256 + (L.getD 2 0).toNat) / 2 ^ (18 - 6 * i) % 64) else 61) := fun i hi => by
      have hm : Nat.min t.size 3 = min L.length 3 := by rw [hLl]
      rw [hm]
      match i, hi with
      | 0, _ =>
        rw [if_pos (Nat.zero_le _), show ((L.getD 0 0).toNat * 65536 + (L.getD 1 0).toNat * 256 + (L.getD 2 0).toNat) / 2 ^ (18 - 6 * 0) % 64 = (L.getD 0 0).toNat / 4 by omega]; rfl
      | 1, _ =>
        rw [if_pos (by omega), show ((L.getD 0 0).toNat * 65536 + (L.getD 1 0).toNat * 256 + (L.getD 2 0).toNat) / 2 ^ (18 - 6 * 1) % 64 = (L.getD 0 0).toNat % 4 * 16 + (L.getD 1 0).toNat / 16 by omega]; rfl
      | 2, _ =>
        rw [show ((L.getD 0 0).toNat * 65536 + (L.getD 1 0).toNat * 256 + (L.getD 2 0).toNat) / 2 ^ (18 - 6 * 2) % 64 = (L.getD 1 0).toNat % 16 * 4 + (L.getD 2 0).toNat / 64 by omega]
        by_cases h : 2 ≤ L.length
        · rw [if_pos (by omega)]; unfold quad; rw [if_pos h]; rfl
        · rw [if_neg (by omega)]; unfold quad; rw [if_neg h]; rfl
      | 3, _ =>
        rw [show ((L.getD 0 0).toNat * 65536 + (L.getD 1 0).toNat * 256 + (L.getD 2 0).toNat) / 2 ^ (18 - 6 * 3) % 64 = (L.getD 2 0).toNat % 64 by omega]
        by_cases h : 3 ≤ L.length
        · rw [if_pos (by omega)]; unfold quad; rw [if_pos h]; rfl
        · rw [if_neg (by omega)]; unfold quad; rw [if_neg h]; rfl
    have hN : ((L.getD 0 0).toNat * 65536 + (L.getD 1 0).toNat * 256 + (L.getD 2 0).toNat) < 16777216 := by omega
    have hs6 := fun s hs => six_of (L.getD 0 0).toNat (L.getD 1 0).toNat (L.getD 2 0).toNat s q0 q1 q2 hs
    generalize (L.getD 0 0).toNat = A at *
    generalize (L.getD 1 0).toNat = B at *
    generalize (L.getD 2 0).toNat = C at *
    have ho7 := ho.keep hf7 (by simp)
    refine ⟨fun l i w' => ∃ k : Nat, i = k ∧ k ≤ 4 ∧ Vc.Own w' w.heap.size T_uint8 l (byteV (out ++ (quad L).take k)) ∧ Fr (fun _ => False) w w', fun _ i _ => 4 - i.toNat, ⟨0, rfl, by decide, by rw [List.take_zero, List.append_nil]; exact ho7, hf.trans' hf7⟩, ?_⟩
    rintro l14 i w16 ⟨k, rfl, hk, ho16, hf16⟩
    refine ⟨fun hlt => ?_, fun hge => ?_⟩
    · have hlt := of_decide_eq_true hlt
      have hk4 : k < 4 := by omega
      have hqk := hq4 k hk4
      have e6 : IntKind.i64.wrap (6 * (k : Int)) = ((6 * k : Nat) : Int) := by rw [wrap_i64 (by omega) (by omega)]; omega
      have e18 : IntKind.i64.wrap (18 - ((6 * k : Nat) : Int)) = ((18 - 6 * k : Nat) : Int) := by rw [wrap_i64 (by omega) (by omega)]; omega
      have e1 : IntKind.i64.wrap ((k : Int) + 1) = ((k + 1 : Nat) : Int) := by rw [wrap_i64 (by omega) (by omega)]; omega
      rw [e6, e18, e1]
      have hbnd : (byteV (out ++ (quad L).take k)).length + 1 ≤ 400000010 := by
        rw [bv_len, List.length_append, List.length_take, quad_len]; omega
      have htk : (quad L).take (k + 1) = (quad L).take k ++ [if k ≤ Nat.min t.size 3 then d64 ((A * 65536 + B * 256 + C) / 2 ^ (18 - 6 * k) % 64) else 61] := by rw [List.take_add_one, hqk]; rfl
      have hdone : ∀ (c : UInt8) (w17 : World), (if k ≤ Nat.min t.size 3 then d64 ((A * 65536 + B * 256 + C) / 2 ^ (18 - 6 * k) % 64) else 61) = c → w17 = w16.alloc (.cells #[.int .u8 ((c.toNat : Nat) : Int)] T_uint8) →
          ∃ (w18 : World) (l19 : Sl), (Builtin.append_ #[T_S_uint8, T_S_uint8] T_S_uint8 #[.slice l14.a l14.len l14.cap, .slice (some ⟨w16.heap.size, 0, none⟩) 1 1]).run Tryd.prog w17 = .ok (.slice l19.a l19.len l19.cap) w18 ∧
            (∃ k' : Nat, ((k + 1 : Nat) : Int) = k' ∧ k' ≤ 4 ∧ Vc.Own w18 w.heap.size T_uint8 l19 (byteV (out ++ (quad L).take k')) ∧ Fr (fun _ => False) w w18) ∧ 4 - ((k + 1 : Nat) : Int).toNat < 4 - ((k : Int)).toNat := fun c w17 hc h17 => by
        obtain ⟨w18, l19, hr18, ho18, hf18⟩ := append_one elByte ho16 (v := .int .u8 ((c.toNat : Nat) : Int)) rfl (by unfold maxLen; omega) (by omega) hf16.size h17
        refine ⟨w18, l19, hr18, ⟨k + 1, rfl, by omega, ?_, hf16.trans hf18 fun q hq ⟨y, hy, e⟩ => by have := (ho16.blk hy).1; omega⟩, by omega⟩
        rw [htk, hc, ← List.append_assoc]
        have : byteV ((out ++ (quad L).take k) ++ [c]) = byteV (out ++ (quad L).take k) ++ [.int .u8 ((c.toNat : Nat) : Int)] := by simp [byteV]
        rw [this]; exact ho18
      refine ⟨fun hn => ?_, fun hn w20 h20 => ?_⟩
      · have hn := of_decide_eq_true hn
        rw [Int.toNat_natCast, hs6 (18 - 6 * k) (by omega)]
        have hm64 : (A * 65536 + B * 256 + C) / 2 ^ (18 - 6 * k) % 64 < 64 := Nat.mod_lt _ (by decide)
        refine ⟨by omega, ⟨by omega, ?_⟩, fun w17 h17 => ?_⟩
        · show _ < ((64 : Nat) : Int)
          omega
        · rw [d64_at _ hm64] at h17
          exact hdone _ w17 (if_pos (by omega)) h17
      · have hn := of_decide_eq_false hn
        exact hdone 61 w20 (if_neg (by omega)) h20
    · have hge := of_decide_eq_false hge
      have hk' : k = 4 := by omega
      subst hk'
      have hmt : Nat.min t.size 3 ≤ t.size := Nat.min_le_left _ _
      have hm1 : 1 ≤ Nat.min t.size 3 := by show 1 ≤ min t.size 3; omega
      have hm3 : Nat.min t.size 3 ≤ 3 := hmin
      rw [Int.toNat_natCast]
      have hsz : (t.extract (Nat.min t.size 3) t.size).size = t.size - Nat.min t.size 3 := by rw [ByteArray.size_extract]; omega
      refine ⟨⟨by omega, by omega⟩, ⟨out ++ quad L, ?_, by omega, ?_, by simpa [List.take_of_length_le (Nat.le_of_eq (quad_len L))] using ho16, hf16⟩, by dsimp only; omega⟩
      · have hdr : L.drop (Nat.min t.size 3) = L.drop 3 := by
          have hm : Nat.min t.size 3 = min L.length 3 := by rw [hLl]
          rw [hm]
          by_cases h3 : 3 ≤ L.length
          · rw [Nat.min_eq_right h3]
          · rw [Nat.min_eq_left (by omega), List.drop_length, List.drop_eq_nil_of_le (by omega)]
        rw [List.append_assoc, bs_tail, hL, hdr]
        exact hout
      · rw [List.length_append, quad_len, hsz]; omega
  · have hz := of_decide_eq_false hz
    have ht0 : t.size = 0 := by omega
    have : t.data.toList = [] := List.eq_nil_of_length_eq_zero (by rw [bs_len]; exact ht0)
    rw [this] at hout
    have hout : out = b64L s.data.toList := by rw [← hout]; exact (List.append_nil _).symm
    refine ⟨w5, _, bytes_str (P := Tryd.prog) (t := T_S_uint8) (d := T_string) elByte.sl (by kernel_rfl) (by kernel_rfl) l.cap ho.reads (by rw [ho.len, bv_len]), by rw [hout], hf⟩
end Go.Proofs.YtfoeooddnmppnaaDoor

/- modzip.Hash: what go.sum says of a module's files. Conditions: at most a hundred files, and their paths with what stands ahead of them are no longer than 2 to the 49th bytes. -/
set_option linter.unusedVariables false
namespace Go.Proofs.YtfoeooddnmppnaaDoor
open Go Vc ShaM HexM StabM B64M Go.Proofs

theorem sha_len (K : List ShaM.W) (t : List UInt8) : (digest (block2 K) start2 t).length = 32 := by
  have hl : (stt (block2 K) start2 (pad t)).length = 8 := blocks_length (f := block2 K) (fun h p hl => by rw [block2_length]; exact hl) _ _ _ rfl
  unfold digest
  match stt (block2 K) start2 (pad t), hl with
  | [a, b, c, d, e, f, g, h], _ => rfl
def sha2 (l : List UInt8) : List UInt8 := digest (block2 K256) start2 l
theorem sha2_len (l : List UInt8) : (sha2 l).length = 32 := sha_len _ _
/-- What is added up of a file. -/
def lineF (f : FileE) : List UInt8 := hexL (sha2 f.data.data.toList) ++ ([32, 32] ++ (f.path.data.toList ++ [10]))
theorem lineF_len (f : FileE) : (lineF f).length = 67 + f.path.size := by
  unfold lineF
  simp only [List.length_append, hexL_length, sha2_len, List.length_cons, List.length_nil, bs_len]; omega
theorem lines_len {B : Nat} : ∀ ys : List FileE, (∀ y ∈ ys, y.path.size ≤ B) → (ys.flatMap lineF).length ≤ ys.length * (67 + B)
  | [], _ => Nat.zero_le _
  | y :: r, h => by
    have ih := lines_len r fun z hz => h z (List.mem_cons_of_mem _ hz)
    have h1 := h y List.mem_cons_self
    rw [List.flatMap_cons, List.length_append, lineF_len, List.length_cons, Nat.succ_mul]; omega
def hashE (ys : List FileE) : ByteArray := ⟨#[104, 49, 58]⟩ ++ ⟨(b64L (sha2 (ys.flatMap lineF))).toArray⟩
theorem hashE_size (ys : List FileE) : (hashE ys).size = 47 := by
  unfold hashE
  rw [ByteArray.size_append]
  show 3 + _ = 47
  rw [bs_mksize, b64_len, sha2_len]
theorem hash_spec {w : World} {a : Option Addr} {n c : Nat} {xs : List FileE} (hr : ReadsK encF 2 w a xs) (hn : xs.length = n) (hl : n ≤ 100) (m v : ByteArray) (hs : ∀ x ∈ xs, (frontE m v).size + x.path.size ≤ 562949953421312) (hmv : m.size + v.size ≤ 4611686018427387904) (hd : ∀ x ∈ xs, x.data.size ≤ 1000000) :
    Calls Tryd.prog F_modzip_Hash #[.string m, .string v, .slice a n c] w fun e w' => ∃ ys : List FileE, e = .returned (.string (hashE ys)) ∧ ys.Perm (xs.map (preF (frontE m v))) ∧ Srt ltP ys ∧ (xs.length ≤ 20 → ys = isort ltP (xs.map (preF (frontE m v)))) ∧ Fr (fun _ => False) w w' := by
  refine vc_modzip_Hash_ok (R := fun u w' => ∃ ys : List FileE, u = .string (hashE ys) ∧ ys.Perm (xs.map (preF (frontE m v))) ∧ Srt ltP ys ∧ (xs.length ≤ 20 → ys = isort ltP (xs.map (preF (frontE m v)))) ∧ Fr (fun _ => False) w w') ?_ (fun u w' ⟨ys, h⟩ => ⟨ys, by rw [h.1], h.2⟩)
  refine (front_spec m v hmv w).mono ?_
  rintro e w2 ⟨rfl, hw⟩
  replace hw := hw.symm
  subst hw
  refine ⟨_, rfl, (prefixed_spec hr hn (by omega) (frontE m v) fun x hx => Nat.le_trans (hs x hx) (by decide)).mono ?_⟩
  rintro e w5 ⟨l, rfl, ho5, hf5⟩
  have hll := ho5.len
  rw [List.length_map] at hll
  refine ⟨l, rfl, (stable_hash ho5 (by omega)).mono ?_⟩
  rintro e w8 ⟨rfl, ys, ho8, hp8, hs8, hi8, hf8⟩
  rw [List.length_map] at hi8
  have hf8' : Fr (fun _ => False) w w8 := hf5.trans hf8 fun q hq ⟨y, hy, e⟩ => by have := (ho5.blk hy).1; omega
  have hyl : ys.length = xs.length := by rw [hp8.length_eq, List.length_map]
  have hyb : ∀ y ∈ ys, y.path.size ≤ 562949953421312 ∧ y.data.size ≤ 1000000 := fun y hy => by
    obtain ⟨x, hx, rfl⟩ := List.mem_map.1 (hp8.subset hy)
    exact ⟨by unfold preF; rw [ByteArray.size_append]; exact hs x hx, hd x hx⟩
  refine ⟨rfl, fun w9 h9 => ?_⟩
  have hf9 : Fr (fun _ => False) w8 w9 := by rw [h9]; exact .alloc _ _ _
  have hh9 := HashAt.zero (T := T_sha_Hash256) (block2 K256) start2 h9
  obtain ⟨b, hb⟩ : ∃ b, w8.heap.size = b := ⟨_, rfl⟩
  rw [hb] at hh9 ⊢
  have hlb : ∀ y, l.a = some y → y.block < b := fun y hy => hb ▸ (ho8.blk hy).2
  have hwb : w.heap.size ≤ b := hb ▸ hf8'.size
  refine ⟨fun i w' => ∃ k : Nat, i = k ∧ k ≤ ys.length ∧ OwnK encF 2 w' w.heap.size T_api_File l ys ∧ (∃ sl, HashAt w' b b sl T_sha_Hash256 (block2 K256) start2 ((ys.take k).flatMap lineF)) ∧ Fr (fun _ => False) w w', fun i _ => ys.length - i.toNat,
    ⟨0, rfl, Nat.zero_le _, ho8.keep hf9 (by simp), ⟨_, hh9⟩, hf8'.trans' hf9⟩, ?_⟩
  clear hh9 hf9 h9 ho8
  rintro i w13 ⟨k, rfl, hk, ho, ⟨sl, hh⟩, hf⟩
  have hkl2 : ((ys.take k).flatMap lineF).length ≤ 100 * (67 + 562949953421312) := by
    have h1 := lines_len (B := 562949953421312) (ys.take k) fun y hy => (hyb y (List.mem_of_mem_take hy)).1
    rw [List.length_take] at h1
    exact Nat.le_trans h1 (Nat.mul_le_mul_right _ (by omega))
  refine ⟨fun hlt => ?_, fun hge => ?_⟩
  · have hlt := of_decide_eq_true hlt
    have hkl : k < ys.length := by omega
    have hx : ys[k]? = some ys[k] := List.getElem?_eq_getElem hkl
    have htk : ys.take (k + 1) = ys.take k ++ [ys[k]] := (List.take_append_getElem hkl).symm
    generalize ys[k] = x at hx htk
    have hxm := List.mem_of_getElem? hx
    obtain ⟨hx1, hx2⟩ := hyb x hxm
    obtain ⟨ad, had, hld⟩ := load_at ho hx
    refine ⟨⟨by omega, by omega⟩, ad, had, x.path, x.data, by rw [Int.toNat_natCast]; exact hld w13 (.refl _ _), fun w17 h17 => ?_⟩
    subst h17
    obtain ⟨w18, hw18⟩ : ∃ w18, w13.alloc (.cells (encF x).toArray T_api_File) = w18 := ⟨_, rfl⟩
    have hfb : Fr (fun _ => False) w13 w18 := by rw [← hw18]; exact .alloc _ _ _
    have hcell : ∀ w', Fr (fun _ => False) w18 w' → ∀ (j : Nat) v, (encF x)[j]? = some v → w'.cell? ⟨w13.heap.size, j, none⟩ = some v := fun w' hw' j v hv => by
      rw [← hw18] at hw'; exact boxF_cell w13 x hw' (by simp) hv
    refine ⟨w18, by rw [← hw18]; exact boxF_run w13 x, fun w19 d19 => ⟨fun w' => Fr (fun _ => False) w19 w', .refl _ _, x.data, fun w' hw' => hcell w' (.trans' (.drew _ d19) hw') 1 _ rfl, x.path, fun w' hw' => hcell w' (.trans' (.drew _ d19) hw') 0 _ rfl, (sum256_spec x.data (by omega) w19).mono ?_⟩⟩
    rintro e w26 ⟨rfl, hf26⟩
    refine ⟨_, rfl, hf26, (hex_spec _ (by rw [bs_mksize]; exact Nat.le_trans (Nat.le_of_eq (sha_len _ _)) (by decide)) w26).mono ?_⟩
    rintro e w29 ⟨rfl, hf29⟩
    rw [bs_mk]
    have hhx : (ByteArray.mk (hexL (digest (block2 K256) start2 x.data.data.toList)).toArray).size = 64 := by rw [bs_mksize, hexL_length, sha_len]
    have hfw : Fr (fun _ => False) w13 w29 := (hfb.trans' (.drew _ d19)).trans' (hf26.trans' hf29)
    have hhw := hh.keep hfw (by simp) (by simp)
    refine ⟨_, rfl, hf26.trans' hf29, ?_, ?_, ?_, ?_⟩
    · rw [hhx]; decide
    · rw [ByteArray.size_append, hhx]
      show 64 + 2 + x.path.size ≤ _
      omega
    · rw [ByteArray.size_append, ByteArray.size_append, hhx]
      show 64 + 2 + x.path.size + 1 ≤ _
      omega
    have hline : (ByteArray.mk (hexL (digest (block2 K256) start2 x.data.data.toList)).toArray ++ ⟨#[32, 32]⟩ ++ x.path ++ ⟨#[10]⟩).data.toList = lineF x := by
      simp only [bs_app, List.append_assoc]; rfl
    refine (h256write_spec hhw _ ?_).mono ?_
    · rw [ByteArray.size_append, ByteArray.size_append, ByteArray.size_append, hhx]
      show _ + (64 + 2 + x.path.size + 1) ≤ _
      omega
    rintro e w32 ⟨rfl, sl', hh32, hf32, _⟩
    rw [hline] at hh32
    have hbs : ∀ y, sl.a = some y → b ≤ y.block := fun y hy => by
      rcases hhw.own with ⟨h, _⟩ | ⟨h, _⟩
      · rw [h] at hy; cases hy
      · exact (h.blk hy).1
    have e1 : IntKind.i64.wrap ((k : Int) + 1) = ((k + 1 : Nat) : Int) := by rw [wrap_i64 (by omega) (by omega)]; omega
    rw [e1]
    refine ⟨rfl, ⟨k + 1, rfl, by omega, (ho.keep hfw (by simp)).keep hf32 fun y hy h => ?_, ⟨sl', ?_⟩, (hf.trans' hfw).trans hf32 fun q hq h => ?_⟩, by dsimp only; omega⟩
    · have h1 := hlb y hy
      rcases h with h | ⟨z, hz, e⟩
      · omega
      · have := hbs z hz; omega
    · rw [htk, List.flatMap_append, List.flatMap_cons, List.flatMap_nil, List.append_nil]
      exact hh32
    · rcases h with h | ⟨z, hz, e⟩
      · omega
      · have := hbs z hz; omega
  · have hge := of_decide_eq_false hge
    have hk' : k = ys.length := by omega
    rw [hk', List.take_length] at hh hkl2
    refine (h256sum_spec hh (by omega)).mono ?_
    rintro e w34 ⟨rfl, hf34⟩
    refine ⟨_, rfl, (base64_spec _ (by rw [bs_mksize]; exact Nat.le_trans (Nat.le_of_eq (sha_len _ _)) (by decide)) w34).mono ?_⟩
    rintro e w37 ⟨rfl, hf37⟩
    refine ⟨_, rfl, ?_, ys, ?_, hp8, hs8, hi8, (hf.trans' hf34).trans' hf37⟩
    · show 3 + _ ≤ _
      rw [bs_mksize, b64_len, bs_mk, sha_len]; decide
    · rw [bs_mk]; rfl
end Go.Proofs.YtfoeooddnmppnaaDoor

/- Formulas of 1 Go functions of this seat (written by a program of the author's, vcgen.py), and that each is enough for the call. No condition. -/
set_option linter.unusedVariables false
namespace Go.Proofs.YtfoeooddnmppnaaDoor
open Go Vc Go.Proofs
set_option maxRecDepth 100000
/-- cartularylaw01.Few -/
def vc_cartularylaw01_Few (x0 : ByteArray) (x1 : Int) (w : World) (R : Value → World → Prop) : Prop :=
  (((decide ((↑(ByteArray.size x0) : Int) > x1) = true →
     ((0 ≤ x1 ∧
       x1 ≤ (↑(ByteArray.size x0) : Int)) ∧
      R (Value.string (ByteArray.extract x0 0 (Int.toNat x1))) w))) ∧
   (decide ((↑(ByteArray.size x0) : Int) > x1) = false →
     R (Value.string x0) w))
theorem vc_cartularylaw01_Few_ok {x0 : ByteArray} {x1 : Int} {w : World} {R : Value → World → Prop} {R' : Ending → World → Prop} (h : vc_cartularylaw01_Few x0 x1 w R) (hR : ∀ v w', R v w' → R' (.returned v) w') :
    Calls Tryd.prog 20 #[.string x0, .int .i64 x1] w R' :=
  calls_of_body (vs := [(.string x0, false), (.int .i64 x1, false)]) (ty := ty) (ann := ⟨[], [], [], []⟩) (c := Tryd.f20.body.getD .skip) (by kernel_rfl) Tryd.func20 (by kernel_rfl) (by kernel_rfl) (Eq.mp (by kernel_rfl) h) hR
end Go.Proofs.YtfoeooddnmppnaaDoor

/- The law's Few of a text. No condition. -/
set_option linter.unusedVariables false
namespace Go.Proofs.YtfoeooddnmppnaaDoor
open Go Vc Go.Proofs

theorem fewS_spec (s : ByteArray) (n : Nat) (w : World) : Calls Tryd.prog F_cartularylaw01_Few #[.string s, .int .i64 n] w fun e w' => e = .returned (.string (if s.size > n then s.extract 0 n else s)) ∧ w' = w := by
  refine vc_cartularylaw01_Few_ok (R := fun v w' => v = .string (if s.size > n then s.extract 0 n else s) ∧ w' = w) ?_ (fun v w' h => ⟨by rw [h.1], h.2⟩)
  refine ⟨fun h => ?_, fun h => ?_⟩
  · have h := of_decide_eq_true h
    rw [if_pos (by omega)]
    exact ⟨⟨by omega, by omega⟩, by simp, rfl⟩
  · have h := of_decide_eq_false h
    rw [if_neg (by omega)]
    exact ⟨rfl, rfl⟩
theorem fewS_len (s : ByteArray) (n : Nat) : (if s.size > n then s.extract 0 n else s).size ≤ n := by
  split
  · simp; omega
  · omega
end Go.Proofs.YtfoeooddnmppnaaDoor

/- Formulas of 2 Go functions of this seat (written by a program of the author's, vcgen.py), and that each is enough for the call. No condition. -/
set_option linter.unusedVariables false
namespace Go.Proofs.YtfoeooddnmppnaaDoor
open Go Vc Go.Proofs
set_option maxRecDepth 100000
/-- cartularylaw07.Few -/
def vc_cartularylaw07_Few (x0a : Option Addr) (x0n : Nat) (x0c : Nat) (x1 : Int) (w : World) (R : Value → World → Prop) : Prop :=
  (((decide ((↑x0n : Int) > x1) = true →
     ((0 ≤ x1 ∧
       x1 ≤ (↑x0c : Int)) ∧
      ∀ w1 : World,
      (w1 = World.alloc w (Obj.cells (Array.mk []) 37) →
        ∃ w2 : World, ∃ l3 : Sl, (Sem.run Tryd.prog (Builtin.append_ (Array.mk [22, 22]) 22 (Array.mk [Value.slice (some (Addr.mk (Array.size (World.heap w)) 0 none)) 0 0, Value.slice (subA x0a x0c 0 2) (Int.toNat x1) x0c])) w1 = Result.ok (Value.slice l3.1 l3.2 l3.3) w2 ∧
         R (Value.slice l3.1 l3.2 l3.3) w2))))) ∧
   (decide ((↑x0n : Int) > x1) = false →
     ∀ w4 : World,
     (w4 = World.alloc w (Obj.cells (Array.mk []) 37) →
       ∃ w5 : World, ∃ l6 : Sl, (Sem.run Tryd.prog (Builtin.append_ (Array.mk [22, 22]) 22 (Array.mk [Value.slice (some (Addr.mk (Array.size (World.heap w)) 0 none)) 0 0, Value.slice x0a x0n x0c])) w4 = Result.ok (Value.slice l6.1 l6.2 l6.3) w5 ∧
        R (Value.slice l6.1 l6.2 l6.3) w5))))
theorem vc_cartularylaw07_Few_ok {x0a : Option Addr} {x0n : Nat} {x0c : Nat} {x1 : Int} {w : World} {R : Value → World → Prop} {R' : Ending → World → Prop} (h : vc_cartularylaw07_Few x0a x0n x0c x1 w R) (hR : ∀ v w', R v w' → R' (.returned v) w') :
    Calls Tryd.prog 31 #[.slice x0a x0n x0c, .int .i64 x1] w R' :=
  calls_of_body (vs := [(.slice x0a x0n x0c, false), (.int .i64 x1, false)]) (ty := ty) (ann := ⟨[], [], [], []⟩) (c := Tryd.f31.body.getD .skip) (by kernel_rfl) Tryd.func31 (by kernel_rfl) (by kernel_rfl) (Eq.mp (by kernel_rfl) h) hR
/-- cartularylaw09.Short -/
def vc_cartularylaw09_Short (x0a : Option Addr) (x0n : Nat) (x0c : Nat) (x1 : Int) (w : World) (R : Value → World → Prop) : Prop :=
  Calls Tryd.prog (31 : Nat) (Array.mk [Value.slice x0a x0n x0c, Value.int IntKind.i64 x1]) (w) (fun e1 w2 =>
    ∃ l3 : Sl, (e1 = Ending.returned (Value.slice l3.1 l3.2 l3.3) ∧
     ∃ I4 : Int → World → Prop, ∃ I5 : Int → World → Nat, (I4 0 w2 ∧
      ∀ n6 : Int,
      ∀ w7 : World,
      (I4 n6 w7 →
        (((decide (n6 < (↑l3.2 : Int)) = true →
           ((0 ≤ n6 ∧
             n6 < (↑l3.2 : Int)) ∧
            ∃ a8 : Addr, (l3.1 = some a8 ∧
             ∃ s9 : ByteArray, (World.cell? w7 (Addr.add (Addr.add a8 (Int.toNat n6 * 2)) 1) = some (Value.string s9) ∧
              Calls Tryd.prog (20 : Nat) (Array.mk [Value.string s9, Value.int IntKind.i64 400]) (w7) (fun e10 w11 =>
                ∃ s12 : ByteArray, (e10 = Ending.returned (Value.string s12) ∧
                 ((0 ≤ n6 ∧
                   n6 < (↑l3.2 : Int)) ∧
                  ∃ a13 : Addr, (l3.1 = some a13 ∧
                   (Wr w11 (Addr.add (Addr.add a13 (Int.toNat n6 * 2)) 1) ∧
                    ∀ w14 : World,
                    (w14 = World.setCell w11 (Addr.add (Addr.add a13 (Int.toNat n6 * 2)) 1) (Value.string s12) →
                      (I4 (IntKind.wrap IntKind.i64 (n6 + 1)) w14 ∧
                       I5 (IntKind.wrap IntKind.i64 (n6 + 1)) w14 < I5 n6 w7)))))))))))) ∧
         (decide (n6 < (↑l3.2 : Int)) = false →
           R (Value.slice l3.1 l3.2 l3.3) w7))))))
theorem vc_cartularylaw09_Short_ok {x0a : Option Addr} {x0n : Nat} {x0c : Nat} {x1 : Int} {w : World} {R : Value → World → Prop} {R' : Ending → World → Prop} (h : vc_cartularylaw09_Short x0a x0n x0c x1 w R) (hR : ∀ v w', R v w' → R' (.returned v) w') :
    Calls Tryd.prog 12 #[.slice x0a x0n x0c, .int .i64 x1] w R' :=
  calls_of_body (vs := [(.slice x0a x0n x0c, false), (.int .i64 x1, false)]) (ty := ty) (ann := ⟨[], [(3, [(12, .int .i64)])], [], []⟩) (c := Tryd.f12.body.getD .skip) (by kernel_rfl) Tryd.func12 (by kernel_rfl) (by kernel_rfl) (Eq.mp (by kernel_rfl) h) hR
end Go.Proofs.YtfoeooddnmppnaaDoor

/- The laws' Few (of chapter 7) and Short (of chapter 9) of files. Conditions: texts are no longer than memory. -/
set_option linter.unusedVariables false
namespace Go.Proofs.YtfoeooddnmppnaaDoor
open Go Vc Go.Proofs

theorem few07_spec {w : World} {a : Option Addr} {n c : Nat} {xs : List FileE} (hr : ReadsK encF 2 w a xs) (hn : xs.length = n) (hc : n ≤ c) (m : Nat) (hm : m ≤ 1000000) : Calls Tryd.prog F_cartularylaw07_Few #[.slice a n c, .int .i64 m] w fun e w' =>
    ∃ l, e = .returned (.slice l.a l.len l.cap) ∧ OwnK encF 2 w' w.heap.size T_api_File l (xs.take m) ∧ Fr (fun _ => False) w w' := by
  refine vc_cartularylaw07_Few_ok (R := fun v w' => ∃ l : Sl, v = .slice l.a l.len l.cap ∧ OwnK encF 2 w' w.heap.size T_api_File l (xs.take m) ∧ Fr (fun _ => False) w w') ?_ (fun v w' ⟨l, h⟩ => ⟨l, by rw [h.1], h.2⟩)
  have key : ∀ (src : Option Addr) (k c' : Nat), ReadsK encF 2 w src (xs.take m) → (xs.take m).length = k → ∀ w1, w1 = w.alloc (.cells #[] T_api_File) →
      ∃ (w2 : World) (l3 : Sl), (Builtin.append_ #[T_S_api_File, T_S_api_File] T_S_api_File #[.slice (some ⟨w.heap.size, 0, none⟩) 0 0, .slice src k c']).run Tryd.prog w1 = .ok (.slice l3.a l3.len l3.cap) w2 ∧ ∃ l : Sl, Value.slice l3.a l3.len l3.cap = .slice l.a l.len l.cap ∧ OwnK encF 2 w2 w.heap.size T_api_File l (xs.take m) ∧ Fr (fun _ => False) w w2 := fun src k c' hr hk w1 h1 => by
    have hml : (xs.take m).length ≤ 1000000 := by rw [List.length_take]; omega
    have hf1 : Fr (fun _ => False) w w1 := by rw [h1]; exact .alloc _ _ _
    have ho1 : OwnK encF 2 w1 w.heap.size T_api_File ⟨some ⟨w.heap.size, 0, none⟩, 0, 0⟩ [] := by rw [h1]; exact .empty w T_api_File
    obtain ⟨w2, l3, hr2, ho2, hf2⟩ := append_allK elF ho1 c' (hr.keep hf1 (by simp)) (by simp only [List.length_nil, maxLen]; omega) (by simp only [List.length_nil]; omega) hf1.size hk
    exact ⟨w2, l3, hr2, l3, rfl, ho2, hf1.trans hf2 fun q hq ⟨y, hy, e⟩ => by cases hy; simp only at e; omega⟩
  refine ⟨fun h => ⟨⟨by omega, by have := of_decide_eq_true h; omega⟩, fun w1 h1 => ?_⟩, fun h w4 h4 => ?_⟩
  · have h := of_decide_eq_true h
    rw [Int.toNat_natCast]
    have hs := hr.sub (cap := c) (by omega) 0
    rw [List.drop_zero] at hs
    exact key _ _ _ (hs.take m) (by rw [List.length_take]; omega) w1 h1
  · have h := of_decide_eq_false h
    rw [List.take_of_length_le (by omega)] at key ⊢
    exact key _ _ _ hr hn w4 h4
def fewB (s : ByteArray) (n : Nat) : ByteArray := if s.size > n then s.extract 0 n else s
theorem fewB_size (s : ByteArray) (n : Nat) : (fewB s n).size ≤ n ∧ (fewB s n).size ≤ s.size := by
  unfold fewB
  split
  · rw [ByteArray.size_extract]; omega
  · omega
def cutF (n : Nat) (x : FileE) : FileE := ⟨x.path, fewB x.data n⟩
def shortF (xs : List FileE) (m : Nat) : List FileE := (xs.take m).map (cutF 400)
theorem short09_spec {w : World} {a : Option Addr} {n c : Nat} {xs : List FileE} (hr : ReadsK encF 2 w a xs) (hn : xs.length = n) (hc : n ≤ c) (m : Nat) (hm : m ≤ 1000000) : Calls Tryd.prog F_cartularylaw09_Short #[.slice a n c, .int .i64 m] w fun e w' =>
    ∃ l, e = .returned (.slice l.a l.len l.cap) ∧ OwnK encF 2 w' w.heap.size T_api_File l (shortF xs m) ∧ Fr (fun _ => False) w w' := by
  refine vc_cartularylaw09_Short_ok (R := fun v w' => ∃ l : Sl, v = .slice l.a l.len l.cap ∧ OwnK encF 2 w' w.heap.size T_api_File l (shortF xs m) ∧ Fr (fun _ => False) w w') ?_ (fun v w' ⟨l, h⟩ => ⟨l, by rw [h.1], h.2⟩)
  refine (few07_spec hr hn hc m hm).mono ?_
  rintro e w2 ⟨l, rfl, ho, hf2⟩
  have hl := ho.len
  have hml : (xs.take m).length ≤ 1000000 := by rw [List.length_take]; omega
  unfold shortF
  generalize xs.take m = ys at ho hl hml
  refine ⟨l, rfl, fun i w' => ∃ k : Nat, i = k ∧ k ≤ ys.length ∧ OwnK encF 2 w' w.heap.size T_api_File l ((ys.take k).map (cutF 400) ++ ys.drop k) ∧ Fr (fun _ => False) w w', fun i _ => ys.length - i.toNat, ⟨0, rfl, Nat.zero_le _, by simpa using ho, hf2⟩, ?_⟩
  clear ho
  rintro i w7 ⟨k, rfl, hk, ho, hf⟩
  have e1 : IntKind.i64.wrap ((k : Int) + 1) = ((k + 1 : Nat) : Int) := by rw [wrap_i64 (by omega) (by omega)]; omega
  rw [e1]
  refine ⟨fun hlt => ?_, fun hge => ?_⟩
  · have hlt := of_decide_eq_true hlt
    have hkl : k < ys.length := by omega
    have hx : ys[k]? = some ys[k] := List.getElem?_eq_getElem hkl
    have hdr : ys.drop k = ys[k] :: ys.drop (k + 1) := List.drop_eq_getElem_cons hkl
    generalize ys[k] = x at hx hdr
    have htl : ((ys.take k).map (cutF 400)).length = k := by rw [List.length_map, List.length_take]; omega
    have hxk : ((ys.take k).map (cutF 400) ++ ys.drop k)[k]? = some x := by rw [List.getElem?_append_right (by omega), htl, Nat.sub_self, hdr]; rfl
    obtain ⟨ad, had, hrd⟩ := (ho.reads fun _ => rfl) k x hxk
    have hrd1 := hrd 1 (.string x.data) rfl
    refine ⟨⟨by omega, by omega⟩, ad, had, x.data, by rw [Int.toNat_natCast]; exact hrd1, (fewS_spec x.data 400 w7).mono ?_⟩
    rintro e w11 ⟨rfl, hw⟩
    replace hw := hw.symm
    subst hw
    obtain ⟨ad', had', hwr, ho', hf'⟩ := OwnK.setField (enc := encF) (k := 2) (fun _ => rfl) ho (i := k) (j := 1) (x := x) (y := cutF 400 x) (v := .string (fewB x.data 400)) hxk (show 1 < 2 by decide) rfl
    rw [had] at had'; cases had'
    refine ⟨_, rfl, ⟨by omega, by omega⟩, ad, had, by rw [Int.toNat_natCast]; exact hwr, fun w14 h14 => ?_⟩
    rw [Int.toNat_natCast] at h14
    change w14 = w7.setCell _ (.string (fewB x.data 400)) at h14
    subst h14
    refine ⟨⟨k + 1, rfl, by omega, ?_, hf.trans hf' fun q hq ⟨y, hy, e⟩ => by have := (ho.blk hy).1; omega⟩, by dsimp only; omega⟩
    have hset : ((ys.take k).map (cutF 400) ++ ys.drop k).set k (cutF 400 x) = (ys.take (k + 1)).map (cutF 400) ++ ys.drop (k + 1) := by
      rw [List.set_append_right _ _ (by omega), htl, Nat.sub_self, hdr, List.set_cons_zero, List.take_add_one, hx, List.map_append, List.append_assoc]
      rfl
    rw [← hset]; exact ho'
  · have hge := of_decide_eq_false hge
    have hk' : k = ys.length := by omega
    rw [hk', List.take_length, List.drop_length, List.append_nil] at ho
    exact ⟨l, rfl, ho, hf⟩
end Go.Proofs.YtfoeooddnmppnaaDoor

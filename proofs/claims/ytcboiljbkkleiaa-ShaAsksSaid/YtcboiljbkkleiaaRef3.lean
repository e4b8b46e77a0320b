/- Formulas of 7 Go functions of this seat (written by a program of the author's, vcgen.py), and that each is enough for the call. No condition. -/
import Derived.Test.YtcboiljbkkleiaaTy
import Derived.Test.YtcboiljbkkleiaaProg
set_option linter.unusedVariables false
namespace Go.Proofs.Ytcboiljbkkleiaa
open Go Vc Go.Proofs
set_option maxRecDepth 100000
/-- cartularyref03.Number -/
def vc_cartularyref03_Number (x0a : Option Addr) (x0n : Nat) (x0c : Nat) (w : World) (R : Value → World → Prop) : Prop :=
  ∃ I1 : Int → Int → World → Prop, ∃ I2 : Int → Int → World → Nat, (I1 0 (IntKind.wrap IntKind.i64 ((↑x0n : Int) - 1)) w ∧
   ∀ n3 : Int,
   ∀ n4 : Int,
   ∀ w5 : World,
   (I1 n3 n4 w5 →
     (((decide (n4 ≥ 0) = true →
        ((0 ≤ n4 ∧
          n4 < (↑x0n : Int)) ∧
         ∃ a6 : Addr, (x0a = some a6 ∧
          ∃ b7 : Bool, (World.cell? w5 (Addr.add a6 (Int.toNat n4 * 1)) = some (Value.bool b7) ∧
           (((b7 = true →
              (I1 (IntKind.wrap IntKind.u32 (IntKind.wrap IntKind.u32 (2 * n3) + 1)) (IntKind.wrap IntKind.i64 (n4 - 1)) w5 ∧
               I2 (IntKind.wrap IntKind.u32 (IntKind.wrap IntKind.u32 (2 * n3) + 1)) (IntKind.wrap IntKind.i64 (n4 - 1)) w5 < I2 n3 n4 w5))) ∧
            (b7 = false →
              (I1 (IntKind.wrap IntKind.u32 (2 * n3)) (IntKind.wrap IntKind.i64 (n4 - 1)) w5 ∧
               I2 (IntKind.wrap IntKind.u32 (2 * n3)) (IntKind.wrap IntKind.i64 (n4 - 1)) w5 < I2 n3 n4 w5)))))))) ∧
      (decide (n4 ≥ 0) = false →
        R (Value.int IntKind.u32 n3) w5))))
theorem vc_cartularyref03_Number_ok {x0a : Option Addr} {x0n : Nat} {x0c : Nat} {w : World} {R : Value → World → Prop} {R' : Ending → World → Prop} (h : vc_cartularyref03_Number x0a x0n x0c w R) (hR : ∀ v w', R v w' → R' (.returned v) w') :
    Calls Try.prog 27 #[.slice x0a x0n x0c] w R' :=
  calls_of_body (vs := [(.slice x0a x0n x0c, false)]) (ty := ty) (ann := ⟨[], [(3, [(3, .int .u32), (4, .int .i64)])], [], []⟩) (c := Try.f27.body.getD .skip) (by kernel_rfl) Try.func27 (by kernel_rfl) (by kernel_rfl) (Eq.mp (by kernel_rfl) h) hR
/-- cartularyref03.Turn -/
def vc_cartularyref03_Turn (x0a : Option Addr) (x0n : Nat) (x0c : Nat) (w : World) (R : Value → World → Prop) : Prop :=
  ∀ w1 : World,
  (w1 = World.alloc w (Obj.cells (Array.mk []) 4) →
    ∃ I2 : Sl → Int → World → Prop, ∃ I3 : Sl → Int → World → Nat, (I2 (Sl.mk (some (Addr.mk (Array.size (World.heap w)) 0 none)) 0 0) (IntKind.wrap IntKind.i64 ((↑x0n : Int) - 1)) w1 ∧
     ∀ l4 : Sl,
     ∀ n5 : Int,
     ∀ w6 : World,
     (I2 l4 n5 w6 →
       (((decide (n5 ≥ 0) = true →
          ((0 ≤ n5 ∧
            n5 < (↑x0n : Int)) ∧
           ∃ a7 : Addr, (x0a = some a7 ∧
            ∃ b8 : Bool, (World.cell? w6 (Addr.add a7 (Int.toNat n5 * 1)) = some (Value.bool b8) ∧
             ∀ w9 : World,
             (w9 = World.alloc w6 (Obj.cells (Array.mk [Value.bool b8]) 4) →
               ∃ w10 : World, ∃ l11 : Sl, (Sem.run Try.prog (Builtin.append_ (Array.mk [41, 41]) 41 (Array.mk [Value.slice l4.1 l4.2 l4.3, Value.slice (some (Addr.mk (Array.size (World.heap w6)) 0 none)) 1 1])) w9 = Result.ok (Value.slice l11.1 l11.2 l11.3) w10 ∧
                (I2 (Sl.mk l11.1 l11.2 l11.3) (IntKind.wrap IntKind.i64 (n5 - 1)) w10 ∧
                 I3 (Sl.mk l11.1 l11.2 l11.3) (IntKind.wrap IntKind.i64 (n5 - 1)) w10 < I3 l4 n5 w6)))))))) ∧
        (decide (n5 ≥ 0) = false →
          R (Value.slice l4.1 l4.2 l4.3) w6)))))
theorem vc_cartularyref03_Turn_ok {x0a : Option Addr} {x0n : Nat} {x0c : Nat} {w : World} {R : Value → World → Prop} {R' : Ending → World → Prop} (h : vc_cartularyref03_Turn x0a x0n x0c w R) (hR : ∀ v w', R v w' → R' (.returned v) w') :
    Calls Try.prog 28 #[.slice x0a x0n x0c] w R' :=
  calls_of_body (vs := [(.slice x0a x0n x0c, false)]) (ty := ty) (ann := ⟨[], [(3, [(3, .slice), (4, .int .i64)])], [], []⟩) (c := Try.f28.body.getD .skip) (by kernel_rfl) Try.func28 (by kernel_rfl) (by kernel_rfl) (Eq.mp (by kernel_rfl) h) hR
/-- cartularyref03.Bits -/
def vc_cartularyref03_Bits (x0 : ByteArray) (w : World) (R : Value → World → Prop) : Prop :=
  ∀ w1 : World,
  (w1 = World.alloc w (Obj.cells (Array.mk []) 4) →
    ∃ I2 : Sl → Int → World → Prop, ∃ I3 : Sl → Int → World → Nat, (I2 (Sl.mk (some (Addr.mk (Array.size (World.heap w)) 0 none)) 0 0) 0 w1 ∧
     ∀ l4 : Sl,
     ∀ n5 : Int,
     ∀ w6 : World,
     (I2 l4 n5 w6 →
       (((decide (n5 < (↑(ByteArray.size x0) : Int)) = true →
          ∃ I7 : Sl → Int → World → Prop, ∃ I8 : Sl → Int → World → Nat, (I7 (Sl.mk l4.1 l4.2 l4.3) 0 w6 ∧
           ∀ l9 : Sl,
           ∀ n10 : Int,
           ∀ w11 : World,
           (I7 l9 n10 w11 →
             (((decide (n10 < 8) = true →
                ((0 ≤ n5 ∧
                  n5 < (↑(ByteArray.size x0) : Int)) ∧
                 (0 ≤ n10 ∧
                  ∀ w12 : World,
                  (w12 = World.alloc w11 (Obj.cells (Array.mk [Value.bool (IntKind.wrap IntKind.u8 (↑(BitVec.toNat (BitVec.ofInt 8 (Int.fdiv (byteAt x0 n5) (2 ^ min (Int.toNat n10) 8)) &&& BitVec.ofInt 8 1)) : Int) == 1)]) 4) →
                    ∃ w13 : World, ∃ l14 : Sl, (Sem.run Try.prog (Builtin.append_ (Array.mk [41, 41]) 41 (Array.mk [Value.slice l9.1 l9.2 l9.3, Value.slice (some (Addr.mk (Array.size (World.heap w11)) 0 none)) 1 1])) w12 = Result.ok (Value.slice l14.1 l14.2 l14.3) w13 ∧
                     (I7 (Sl.mk l14.1 l14.2 l14.3) (IntKind.wrap IntKind.i64 (n10 + 1)) w13 ∧
                      I8 (Sl.mk l14.1 l14.2 l14.3) (IntKind.wrap IntKind.i64 (n10 + 1)) w13 < I8 l9 n10 w11))))))) ∧
              (decide (n10 < 8) = false →
                (I2 (Sl.mk l9.1 l9.2 l9.3) (IntKind.wrap IntKind.i64 (n5 + 1)) w11 ∧
                 I3 (Sl.mk l9.1 l9.2 l9.3) (IntKind.wrap IntKind.i64 (n5 + 1)) w11 < I3 l4 n5 w6))))))) ∧
        (decide (n5 < (↑(ByteArray.size x0) : Int)) = false →
          R (Value.slice l4.1 l4.2 l4.3) w6)))))
theorem vc_cartularyref03_Bits_ok {x0 : ByteArray} {w : World} {R : Value → World → Prop} {R' : Ending → World → Prop} (h : vc_cartularyref03_Bits x0 w R) (hR : ∀ v w', R v w' → R' (.returned v) w') :
    Calls Try.prog 30 #[.string x0] w R' :=
  calls_of_body (vs := [(.string x0, false)]) (ty := ty) (ann := ⟨[], [(3, [(3, .slice), (4, .int .i64)]), (6, [(3, .slice), (5, .int .i64)])], [], []⟩) (c := Try.f30.body.getD .skip) (by kernel_rfl) Try.func30 (by kernel_rfl) (by kernel_rfl) (Eq.mp (by kernel_rfl) h) hR
/-- cartularyref03.Up -/
def vc_cartularyref03_Up (x0 : Int) (w : World) (R : Value → World → Prop) : Prop :=
  ((8 : Int) ≠ (0 : Int) ∧
   R (Value.int IntKind.i64 (IntKind.wrap IntKind.i64 (IntKind.wrap IntKind.i64 (Int.tdiv (IntKind.wrap IntKind.i64 (x0 + 7)) 8) * 8))) w)
theorem vc_cartularyref03_Up_ok {x0 : Int} {w : World} {R : Value → World → Prop} {R' : Ending → World → Prop} (h : vc_cartularyref03_Up x0 w R) (hR : ∀ v w', R v w' → R' (.returned v) w') :
    Calls Try.prog 33 #[.int .i64 x0] w R' :=
  calls_of_body (vs := [(.int .i64 x0, false)]) (ty := ty) (ann := ⟨[], [], [], []⟩) (c := Try.f33.body.getD .skip) (by kernel_rfl) Try.func33 (by kernel_rfl) (by kernel_rfl) (Eq.mp (by kernel_rfl) h) hR
/-- cartularyref03.Text -/
def vc_cartularyref03_Text (x0a : Option Addr) (x0n : Nat) (x0c : Nat) (w : World) (R : Value → World → Prop) : Prop :=
  ∀ w1 : World,
  (w1 = World.alloc w (Obj.cells (Array.mk []) 5) →
    ∃ I2 : Sl → Int → World → Prop, ∃ I3 : Sl → Int → World → Nat, (I2 (Sl.mk (some (Addr.mk (Array.size (World.heap w)) 0 none)) 0 0) 0 w1 ∧
     ∀ l4 : Sl,
     ∀ n5 : Int,
     ∀ w6 : World,
     (I2 l4 n5 w6 →
       (((decide (n5 < (↑x0n : Int)) = true →
          ((0 ≤ n5 ∧
            n5 < (↑x0n : Int)) ∧
           ∃ a7 : Addr, (x0a = some a7 ∧
            ∃ b8 : Bool, (World.cell? w6 (Addr.add a7 (Int.toNat n5 * 1)) = some (Value.bool b8) ∧
             ∃ I9 : Sl → World → Prop, (((8 : Int) ≠ (0 : Int) ∧
               ((((Int.tmod n5 8 == 0) = true →
                  ∀ w10 : World,
                  (w10 = World.alloc w6 (Obj.cells (Array.mk [Value.int IntKind.u8 0]) 5) →
                    ∃ w11 : World, ∃ l12 : Sl, (Sem.run Try.prog (Builtin.append_ (Array.mk [57, 57]) 57 (Array.mk [Value.slice l4.1 l4.2 l4.3, Value.slice (some (Addr.mk (Array.size (World.heap w6)) 0 none)) 1 1])) w10 = Result.ok (Value.slice l12.1 l12.2 l12.3) w11 ∧
                     I9 (Sl.mk l12.1 l12.2 l12.3) w11)))) ∧
                ((Int.tmod n5 8 == 0) = false →
                  I9 (Sl.mk l4.1 l4.2 l4.3) w6))) ∧
              ∀ l13 : Sl,
              ∀ w14 : World,
              (I9 l13 w14 →
                (((b8 = true →
                   ∀ w15 : World,
                   (Drew w14 w15 →
                     ((8 : Int) ≠ (0 : Int) ∧
                      ((0 ≤ IntKind.wrap IntKind.i64 (Int.tdiv n5 8) ∧
                        IntKind.wrap IntKind.i64 (Int.tdiv n5 8) < (↑l13.2 : Int)) ∧
                       ∃ a16 : Addr, (l13.1 = some a16 ∧
                        ∃ n17 : Int, (World.cell? w15 (Addr.add a16 (Int.toNat (IntKind.wrap IntKind.i64 (Int.tdiv n5 8)) * 1)) = some (Value.int IntKind.u8 n17) ∧
                         ((8 : Int) ≠ (0 : Int) ∧
                          (0 ≤ Int.tmod n5 8 ∧
                           ((0 ≤ IntKind.wrap IntKind.i64 (Int.tdiv n5 8) ∧
                             IntKind.wrap IntKind.i64 (Int.tdiv n5 8) < (↑l13.2 : Int)) ∧
                            ∃ a18 : Addr, (l13.1 = some a18 ∧
                             (Wr w15 (Addr.add a18 (Int.toNat (IntKind.wrap IntKind.i64 (Int.tdiv n5 8)) * 1)) ∧
                              ∀ w19 : World,
                              (w19 = World.setCell w15 (Addr.add a18 (Int.toNat (IntKind.wrap IntKind.i64 (Int.tdiv n5 8)) * 1)) (Value.int IntKind.u8 (IntKind.wrap IntKind.u8 (n17 + IntKind.wrap IntKind.u8 (1 * 2 ^ min (Int.toNat (Int.tmod n5 8)) 8)))) →
                                (I2 (Sl.mk l13.1 l13.2 l13.3) (IntKind.wrap IntKind.i64 (n5 + 1)) w19 ∧
                                 I3 (Sl.mk l13.1 l13.2 l13.3) (IntKind.wrap IntKind.i64 (n5 + 1)) w19 < I3 l4 n5 w6)))))))))))))) ∧
                 (b8 = false →
                   (I2 (Sl.mk l13.1 l13.2 l13.3) (IntKind.wrap IntKind.i64 (n5 + 1)) w14 ∧
                    I3 (Sl.mk l13.1 l13.2 l13.3) (IntKind.wrap IntKind.i64 (n5 + 1)) w14 < I3 l4 n5 w6)))))))))) ∧
        (decide (n5 < (↑x0n : Int)) = false →
          ∃ w20 : World, ∃ s21 : ByteArray, (Sem.run Try.prog (convert 57 9 (Value.slice l4.1 l4.2 l4.3)) w6 = Result.ok (Value.string s21) w20 ∧
           R (Value.string s21) w20))))))
theorem vc_cartularyref03_Text_ok {x0a : Option Addr} {x0n : Nat} {x0c : Nat} {w : World} {R : Value → World → Prop} {R' : Ending → World → Prop} (h : vc_cartularyref03_Text x0a x0n x0c w R) (hR : ∀ v w', R v w' → R' (.returned v) w') :
    Calls Try.prog 35 #[.slice x0a x0n x0c] w R' :=
  calls_of_body (vs := [(.slice x0a x0n x0c, false)]) (ty := ty) (ann := ⟨[(7, [(3, .slice)])], [(3, [(3, .slice), (9, .int .i64)])], [(8, .tail 10)], []⟩) (c := Try.f35.body.getD .skip) (by kernel_rfl) Try.func35 (by kernel_rfl) (by kernel_rfl) (Eq.mp (by kernel_rfl) h) hR
/-- cartularyref03.Low -/
def vc_cartularyref03_Low (x0 : Int) (x1 : Int) (w : World) (R : Value → World → Prop) : Prop :=
  ∀ w1 : World,
  (w1 = World.alloc w (Obj.cells (Array.mk []) 4) →
    ∃ I2 : Int → Sl → Int → World → Prop, ∃ I3 : Int → Sl → Int → World → Nat, (I2 x0 (Sl.mk (some (Addr.mk (Array.size (World.heap w)) 0 none)) 0 0) 0 w1 ∧
     ∀ n4 : Int,
     ∀ l5 : Sl,
     ∀ n6 : Int,
     ∀ w7 : World,
     (I2 n4 l5 n6 w7 →
       (((decide (n6 < x1) = true →
          ((2 : Int) ≠ (0 : Int) ∧
           ∀ w8 : World,
           (w8 = World.alloc w7 (Obj.cells (Array.mk [Value.bool (Int.tmod n4 2 == 1)]) 4) →
             ∃ w9 : World, ∃ l10 : Sl, (Sem.run Try.prog (Builtin.append_ (Array.mk [41, 41]) 41 (Array.mk [Value.slice l5.1 l5.2 l5.3, Value.slice (some (Addr.mk (Array.size (World.heap w7)) 0 none)) 1 1])) w8 = Result.ok (Value.slice l10.1 l10.2 l10.3) w9 ∧
              ((2 : Int) ≠ (0 : Int) ∧
               (I2 (IntKind.wrap IntKind.u32 (Int.tdiv n4 2)) (Sl.mk l10.1 l10.2 l10.3) (IntKind.wrap IntKind.i64 (n6 + 1)) w9 ∧
                I3 (IntKind.wrap IntKind.u32 (Int.tdiv n4 2)) (Sl.mk l10.1 l10.2 l10.3) (IntKind.wrap IntKind.i64 (n6 + 1)) w9 < I3 n4 l5 n6 w7))))))) ∧
        (decide (n6 < x1) = false →
          R (Value.slice l5.1 l5.2 l5.3) w7)))))
theorem vc_cartularyref03_Low_ok {x0 : Int} {x1 : Int} {w : World} {R : Value → World → Prop} {R' : Ending → World → Prop} (h : vc_cartularyref03_Low x0 x1 w R) (hR : ∀ v w', R v w' → R' (.returned v) w') :
    Calls Try.prog 38 #[.int .u32 x0, .int .i64 x1] w R' :=
  calls_of_body (vs := [(.int .u32 x0, false), (.int .i64 x1, false)]) (ty := ty) (ann := ⟨[], [(3, [(0, .int .u32), (5, .slice), (6, .int .i64)])], [], []⟩) (c := Try.f38.body.getD .skip) (by kernel_rfl) Try.func38 (by kernel_rfl) (by kernel_rfl) (Eq.mp (by kernel_rfl) h) hR
/-- cartularylaw01.Few -/
def vc_cartularylaw01_Few (x0 : ByteArray) (x1 : Int) (w : World) (R : Value → World → Prop) : Prop :=
  (((decide ((↑(ByteArray.size x0) : Int) > x1) = true →
     ((0 ≤ x1 ∧
       x1 ≤ (↑(ByteArray.size x0) : Int)) ∧
      R (Value.string (ByteArray.extract x0 0 (Int.toNat x1))) w))) ∧
   (decide ((↑(ByteArray.size x0) : Int) > x1) = false →
     R (Value.string x0) w))
theorem vc_cartularylaw01_Few_ok {x0 : ByteArray} {x1 : Int} {w : World} {R : Value → World → Prop} {R' : Ending → World → Prop} (h : vc_cartularylaw01_Few x0 x1 w R) (hR : ∀ v w', R v w' → R' (.returned v) w') :
    Calls Try.prog 29 #[.string x0, .int .i64 x1] w R' :=
  calls_of_body (vs := [(.string x0, false), (.int .i64 x1, false)]) (ty := ty) (ann := ⟨[], [], [], []⟩) (c := Try.f29.body.getD .skip) (by kernel_rfl) Try.func29 (by kernel_rfl) (by kernel_rfl) (Eq.mp (by kernel_rfl) h) hR
end Go.Proofs.Ytcboiljbkkleiaa

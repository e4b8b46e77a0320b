/- Texts of this seat in one: made by a program of ours. -/
import Derived.Test.YtcnpekohkbjnnaaGreatDoorCartularyToldQ0
import Derived.Test.YtcnpekohkbjnnaaGreatDoorCartularyToldQ1
import Derived.Test.YtcnpekohkbjnnaaGreatDoorCartularyToldQ4
import Derived.Test.YtcnpekohkbjnnaaGreatDoorProg
import Derived.Defers
import Derived.Recover
import Derived.Shelf.SlSortCmp.NoneTotal
import Derived.Deep.Slices
import Derived.Deep.Fields
import Derived.ChangeSame
import Derived.SizedLaws
import Derived.Test.YtcnpekohkbjnnaaGreatDoorRows
import Derived.Lib.LaidU8
import Derived.ProofKit
import Derived.OpenShut
import Derived.LaidMore
import Derived.Lay
import Derived.Test.YtcnpekohkbjnnaaGreatDoorCards
import Derived.Test.YtcnpekohkbjnnaaGreatDoorTie
import Derived.WalkKit
import Derived.ShutString
import Derived.ChangeOld
import Derived.Below
import Derived.SevenTiedAt
import Derived.LaidOnce
/- Formulas of 4 Go functions of this seat (written by a program of the author's, vcgen.py), and that each is enough for the call. No condition. -/
set_option linter.unusedVariables false
namespace Go.Proofs.YtcnpekohkbjnnaaGreatDoor
open Go Vc Go.Proofs
set_option maxRecDepth 100000
/-- delta.sized -/
def vc_delta_sized (x0 : Int) (w : World) (R : Value → World → Prop) : Prop :=
  ∃ I1 : Int → Sl → World → Prop, ∃ I2 : Int → Sl → World → Nat, (I1 x0 (Sl.mk none 0 0) w ∧
   ∀ n3 : Int,
   ∀ l4 : Sl,
   ∀ w5 : World,
   (I1 n3 l4 w5 →
     (((decide (n3 ≥ 128) = true →
        ∀ w6 : World,
        (w6 = World.alloc w5 (Obj.cells (Array.mk [Value.int IntKind.u8 (IntKind.wrap IntKind.u8 (↑(BitVec.toNat (BitVec.ofInt 8 (IntKind.wrap IntKind.u8 n3) ||| BitVec.ofInt 8 128)) : Int))]) 5) →
          ∃ w7 : World, ∃ l8 : Sl, (Sem.run Tryz.prog (Builtin.append_ (Array.mk [43, 43]) 43 (Array.mk [Value.slice l4.1 l4.2 l4.3, Value.slice (some (Addr.mk (Array.size (World.heap w5)) 0 none)) 1 1])) w6 = Result.ok (Value.slice l8.1 l8.2 l8.3) w7 ∧
           ((0 : Int) ≤ (7 : Int) ∧
            (I1 (Int.fdiv n3 (2 ^ min (Int.toNat 7) 64)) (Sl.mk l8.1 l8.2 l8.3) w7 ∧
             I2 (Int.fdiv n3 (2 ^ min (Int.toNat 7) 64)) (Sl.mk l8.1 l8.2 l8.3) w7 < I2 n3 l4 w5)))))) ∧
      (decide (n3 ≥ 128) = false →
        ∀ w9 : World,
        (w9 = World.alloc w5 (Obj.cells (Array.mk [Value.int IntKind.u8 (IntKind.wrap IntKind.u8 n3)]) 5) →
          ∃ w10 : World, ∃ l11 : Sl, (Sem.run Tryz.prog (Builtin.append_ (Array.mk [43, 43]) 43 (Array.mk [Value.slice l4.1 l4.2 l4.3, Value.slice (some (Addr.mk (Array.size (World.heap w5)) 0 none)) 1 1])) w9 = Result.ok (Value.slice l11.1 l11.2 l11.3) w10 ∧
           R (Value.slice l11.1 l11.2 l11.3) w10))))))
theorem vc_delta_sized_ok {x0 : Int} {w : World} {R : Value → World → Prop} {R' : Ending → World → Prop} (h : vc_delta_sized x0 w R) (hR : ∀ v w', R v w' → R' (.returned v) w') :
    Calls Tryz.prog 12 #[.int .i64 x0] w R' :=
  calls_of_body (vs := [(.int .i64 x0, false)]) (ty := ty) (ann := ⟨[], [(2, [(0, .int .i64), (3, .slice)])], [], []⟩) (c := Tryz.f12.body.getD .skip) (by kernel_rfl) Tryz.func12 (by kernel_rfl) (by kernel_rfl) (Eq.mp (by kernel_rfl) h) hR
/-- delta.copyOf -/
def vc_delta_copyOf (x0 : Int) (x1 : Int) (w : World) (R : Value → World → Prop) : Prop :=
  ∀ w1 : World,
  (w1 = World.alloc w (Obj.cells (Array.mk [Value.int IntKind.u8 128]) 5) →
    ∃ I2 : Sl → Int → World → Prop, ∃ I3 : Sl → Int → World → Nat, (I2 (Sl.mk (some (Addr.mk (Array.size (World.heap w)) 0 none)) 1 1) 0 w1 ∧
     ∀ l4 : Sl,
     ∀ n5 : Int,
     ∀ w6 : World,
     (I2 l4 n5 w6 →
       (((decide (n5 < 7) = true →
          (0 ≤ IntKind.wrap IntKind.i64 (8 * n5) ∧
           ∃ I7 : Int → World → Prop, ((((decide (n5 ≥ 4) = true →
               (0 ≤ IntKind.wrap IntKind.i64 (8 * IntKind.wrap IntKind.i64 (n5 - 4)) ∧
                I7 (IntKind.wrap IntKind.i64 (↑(BitVec.toNat (BitVec.ofInt 64 (Int.fdiv x1 (2 ^ min (Int.toNat (IntKind.wrap IntKind.i64 (8 * IntKind.wrap IntKind.i64 (n5 - 4)))) 64)) &&& BitVec.ofInt 64 255)) : Int)) w6))) ∧
             (decide (n5 ≥ 4) = false →
               I7 (IntKind.wrap IntKind.i64 (↑(BitVec.toNat (BitVec.ofInt 64 (Int.fdiv x0 (2 ^ min (Int.toNat (IntKind.wrap IntKind.i64 (8 * n5))) 64)) &&& BitVec.ofInt 64 255)) : Int)) w6)) ∧
            ∀ n8 : Int,
            ∀ w9 : World,
            (I7 n8 w9 →
              ∃ I10 : Bool → World → Prop, (((((n8 != 0) = true →
                  ((((n5 == 6) = true →
                     I10 (!x1 == 65536) w9)) ∧
                   ((n5 == 6) = false →
                     I10 (!false) w9)))) ∧
                ((n8 != 0) = false →
                  I10 false w9)) ∧
               ∀ b11 : Bool,
               ∀ w12 : World,
               (I10 b11 w12 →
                 (((b11 = true →
                    ∀ w13 : World,
                    (Drew w12 w13 →
                      (((0 : Int) ≤ (0 : Int) ∧
                        0 < (↑l4.2 : Int)) ∧
                       ∃ a14 : Addr, (l4.1 = some a14 ∧
                        ∃ n15 : Int, (World.cell? w13 (Addr.add a14 (Int.toNat 0 * 1)) = some (Value.int IntKind.u8 n15) ∧
                         (0 ≤ n5 ∧
                          (((0 : Int) ≤ (0 : Int) ∧
                            0 < (↑l4.2 : Int)) ∧
                           ∃ a16 : Addr, (l4.1 = some a16 ∧
                            (Wr w13 (Addr.add a16 (Int.toNat 0 * 1)) ∧
                             ∀ w17 : World,
                             (w17 = World.setCell w13 (Addr.add a16 (Int.toNat 0 * 1)) (Value.int IntKind.u8 (IntKind.wrap IntKind.u8 (↑(BitVec.toNat (BitVec.ofInt 8 n15 ||| BitVec.ofInt 8 (IntKind.wrap IntKind.u8 (1 * 2 ^ min (Int.toNat n5) 8)))) : Int))) →
                               ∀ w18 : World,
                               (w18 = World.alloc w17 (Obj.cells (Array.mk [Value.int IntKind.u8 (IntKind.wrap IntKind.u8 n8)]) 5) →
                                 ∃ w19 : World, ∃ l20 : Sl, (Sem.run Tryz.prog (Builtin.append_ (Array.mk [43, 43]) 43 (Array.mk [Value.slice l4.1 l4.2 l4.3, Value.slice (some (Addr.mk (Array.size (World.heap w17)) 0 none)) 1 1])) w18 = Result.ok (Value.slice l20.1 l20.2 l20.3) w19 ∧
                                  (I2 (Sl.mk l20.1 l20.2 l20.3) (IntKind.wrap IntKind.i64 (n5 + 1)) w19 ∧
                                   I3 (Sl.mk l20.1 l20.2 l20.3) (IntKind.wrap IntKind.i64 (n5 + 1)) w19 < I3 l4 n5 w6)))))))))))))) ∧
                  (b11 = false →
                    (I2 (Sl.mk l4.1 l4.2 l4.3) (IntKind.wrap IntKind.i64 (n5 + 1)) w12 ∧
                     I3 (Sl.mk l4.1 l4.2 l4.3) (IntKind.wrap IntKind.i64 (n5 + 1)) w12 < I3 l4 n5 w6)))))))))) ∧
        (decide (n5 < 7) = false →
          R (Value.slice l4.1 l4.2 l4.3) w6)))))
theorem vc_delta_copyOf_ok {x0 : Int} {x1 : Int} {w : World} {R : Value → World → Prop} {R' : Ending → World → Prop} (h : vc_delta_copyOf x0 x1 w R) (hR : ∀ v w', R v w' → R' (.returned v) w') :
    Calls Tryz.prog 14 #[.int .i64 x0, .int .i64 x1] w R' :=
  calls_of_body (vs := [(.int .i64 x0, false), (.int .i64 x1, false)]) (ty := ty) (ann := ⟨[(8, [(7, .int .i64)]), (9, [(35, .bool)])], [(3, [(5, .slice), (9, .int .i64)])], [(9, .tail 7)], []⟩) (c := Tryz.f14.body.getD .skip) (by kernel_rfl) Tryz.func14 (by kernel_rfl) (by kernel_rfl) (Eq.mp (by kernel_rfl) h) hR
/-- delta.Make$1 -/
def vc_delta_Make_1 (c0 : Addr) (c1 : Addr) (w : World) (R : Value → World → Prop) : Prop :=
  ∃ I1 : World → Prop, ∃ I2 : World → Nat, (I1 w ∧
   ∀ w3 : World,
   (I1 w3 →
     ∃ l4 : Sl, (World.cell? w3 c0 = some (Value.slice l4.1 l4.2 l4.3) ∧
      (((decide ((↑l4.2 : Int) > 0) = true →
         ∃ l5 : Sl, (World.cell? w3 c0 = some (Value.slice l5.1 l5.2 l5.3) ∧
          ∀ w6 : World,
          (Drew w3 w6 →
            ∃ I7 : World → Prop, (I7 w6 ∧
             ∃ l8 : Sl, ((∀ w9 : World,
              (I7 w9 →
                World.cell? w9 c1 = some (Value.slice l8.1 l8.2 l8.3))) ∧
              ∃ l10 : Sl, ((∀ w11 : World,
               (I7 w11 →
                 World.cell? w11 c0 = some (Value.slice l10.1 l10.2 l10.3))) ∧
               (((0 ≤ if 127 < (↑l5.2 : Int) then 127 else (↑l5.2 : Int)) ∧
                 ((if 127 < (↑l5.2 : Int) then 127 else (↑l5.2 : Int)) ≤ (↑l10.3 : Int))) ∧
                ∀ w12 : World,
                ((w12 = World.alloc w6 (Obj.cells (Array.mk [Value.int IntKind.u8 (IntKind.wrap IntKind.u8 (if 127 < (↑l5.2 : Int) then 127 else (↑l5.2 : Int)))]) 5)) →
                  (I7 w12 ∧
                   ∃ w13 : World, ∃ l14 : Sl, (Sem.run Tryz.prog (Builtin.append_ (Array.mk [43, 43]) 43 (Array.mk [Value.slice l8.1 l8.2 l8.3, Value.slice (some (Addr.mk (Array.size (World.heap w6)) 0 none)) 1 1])) w12 = Result.ok (Value.slice l14.1 l14.2 l14.3) w13 ∧
                    (I7 w13 ∧
                     ∃ w15 : World, ∃ l16 : Sl, ((Sem.run Tryz.prog (Builtin.append_ (Array.mk [43, 43]) 43 (Array.mk [Value.slice l14.1 l14.2 l14.3, Value.slice (subA l10.1 l10.3 0 1) (Int.toNat (if 127 < (↑l5.2 : Int) then 127 else (↑l5.2 : Int))) l10.3])) w13 = Result.ok (Value.slice l16.1 l16.2 l16.3) w15) ∧
                      (I7 w15 ∧
                       (Wr w15 c1 ∧
                        ∀ w17 : World,
                        (w17 = World.setCell w15 c1 (Value.slice l16.1 l16.2 l16.3) →
                          ∃ l18 : Sl, (World.cell? w17 c0 = some (Value.slice l18.1 l18.2 l18.3) ∧
                           (((0 ≤ if 127 < (↑l5.2 : Int) then 127 else (↑l5.2 : Int)) ∧
                             ((if 127 < (↑l5.2 : Int) then 127 else (↑l5.2 : Int)) ≤ (↑l18.2 : Int))) ∧
                            (Wr w17 c0 ∧
                             ∀ w19 : World,
                             ((w19 = World.setCell w17 c0 (Value.slice (subA l18.1 l18.3 (Int.toNat (if 127 < (↑l5.2 : Int) then 127 else (↑l5.2 : Int))) 1) (l18.2 - Int.toNat (if 127 < (↑l5.2 : Int) then 127 else (↑l5.2 : Int))) (l18.3 - Int.toNat (if 127 < (↑l5.2 : Int) then 127 else (↑l5.2 : Int))))) →
                               (I1 w19 ∧
                                I2 w19 < I2 w3))))))))))))))))))))) ∧
       (decide ((↑l4.2 : Int) > 0) = false →
         R (Value.tuple (Array.mk [])) w3)))))
theorem vc_delta_Make_1_ok {c0 : Addr} {c1 : Addr} {w : World} {R : Value → World → Prop} {R' : Ending → World → Prop} (h : vc_delta_Make_1 c0 c1 w R) (hR : ∀ v w', R v w' → R' (.returned v) w') :
    Calls Tryz.prog 13 #[.pointer (some c0), .pointer (some c1)] w R' :=
  calls_of_body (vs := [(.pointer (some c0), true), (.pointer (some c1), true)]) (ty := ty) (ann := ⟨[], [(0, [])], [(2, .held [(0, true), (1, true), (2, true), (5, true), (6, true), (7, true), (3, false), (4, false), (8, false), (9, false)])], []⟩) (c := Tryz.f13.body.getD .skip) (by kernel_rfl) Tryz.func13 (by kernel_rfl) (by kernel_rfl) (Eq.mp (by kernel_rfl) h) hR
/-- delta.Make -/
def vc_delta_Make (x0 : ByteArray) (x1 : ByteArray) (w : World) (R : Value → World → Prop) : Prop :=
  Calls Tryz.prog (12 : Nat) (Array.mk [Value.int IntKind.i64 (↑(ByteArray.size x0) : Int)]) (w) (fun e1 w2 =>
    ∃ l3 : Sl, (e1 = Ending.returned (Value.slice l3.1 l3.2 l3.3) ∧
     Calls Tryz.prog (12 : Nat) (Array.mk [Value.int IntKind.i64 (↑(ByteArray.size x1) : Int)]) (w2) (fun e4 w5 =>
       ∃ l6 : Sl, (e4 = Ending.returned (Value.slice l6.1 l6.2 l6.3) ∧
        ∃ w7 : World, ∃ l8 : Sl, (Sem.run Tryz.prog (Builtin.append_ (Array.mk [43, 43]) 43 (Array.mk [Value.slice l3.1 l3.2 l3.3, Value.slice l6.1 l6.2 l6.3])) w5 = Result.ok (Value.slice l8.1 l8.2 l8.3) w7 ∧
         ∀ w9 : World,
         (w9 = World.alloc w7 (Obj.cells (Array.mk [Value.slice none 0 0]) 43) →
           (Wr w9 (Addr.mk (Array.size (World.heap w7)) 0 none) ∧
            ∀ w10 : World,
            (w10 = World.setCell w9 (Addr.mk (Array.size (World.heap w7)) 0 none) (Value.slice l8.1 l8.2 l8.3) →
              ∀ w11 : World,
              (w11 = World.alloc w10 (Obj.map (Array.mk []) 0) →
                ∃ I12 : Int → World → Prop, ∃ I13 : Int → World → Nat, (I12 0 w11 ∧
                 ∀ n14 : Int,
                 ∀ w15 : World,
                 (I12 n14 w15 →
                   (((decide (IntKind.wrap IntKind.i64 (n14 + 4) ≤ (↑(ByteArray.size x0) : Int)) = true →
                      ((0 ≤ n14 ∧
                        (n14 ≤ IntKind.wrap IntKind.i64 (n14 + 4) ∧
                         IntKind.wrap IntKind.i64 (n14 + 4) ≤ (↑(ByteArray.size x0) : Int))) ∧
                       ∃ w16 : World, ∃ n17 : Int, ∃ b18 : Bool, (Sem.run Tryz.prog (Instr.lookup 45 (Value.map (some (Array.size (World.heap w10)))) (Value.string (ByteArray.extract x0 (Int.toNat n14) (Int.toNat (IntKind.wrap IntKind.i64 (n14 + 4))))) true) w15 = Result.ok (Value.tuple (Array.mk [Value.int IntKind.i64 n17, Value.bool b18])) w16 ∧
                        ((((!b18) = true →
                           ((0 ≤ n14 ∧
                             (n14 ≤ IntKind.wrap IntKind.i64 (n14 + 4) ∧
                              IntKind.wrap IntKind.i64 (n14 + 4) ≤ (↑(ByteArray.size x0) : Int))) ∧
                            ∃ w19 : World, (Sem.run Tryz.prog (Instr.mapUpdate 45 (Value.map (some (Array.size (World.heap w10)))) (Value.string (ByteArray.extract x0 (Int.toNat n14) (Int.toNat (IntKind.wrap IntKind.i64 (n14 + 4))))) (Value.int IntKind.i64 n14)) w16 = Result.ok PUnit.unit w19 ∧
                             (I12 (IntKind.wrap IntKind.i64 (n14 + 1)) w19 ∧
                              I13 (IntKind.wrap IntKind.i64 (n14 + 1)) w19 < I13 n14 w15))))) ∧
                         ((!b18) = false →
                           (I12 (IntKind.wrap IntKind.i64 (n14 + 1)) w16 ∧
                            I13 (IntKind.wrap IntKind.i64 (n14 + 1)) w16 < I13 n14 w15))))))) ∧
                    (decide (IntKind.wrap IntKind.i64 (n14 + 4) ≤ (↑(ByteArray.size x0) : Int)) = false →
                      ∀ w20 : World,
                      (w20 = World.alloc w15 (Obj.cells (Array.mk [Value.slice none 0 0]) 43) →
                        ∃ I21 : Int → World → Prop, ∃ I22 : Int → World → Nat, (I21 0 w20 ∧
                         ∀ n23 : Int,
                         ∀ w24 : World,
                         (I21 n23 w24 →
                           (((decide (n23 < (↑(ByteArray.size x1) : Int)) = true →
                              ∃ I25 : Int → Bool → World → Prop, ((((decide (IntKind.wrap IntKind.i64 (n23 + 4) ≤ (↑(ByteArray.size x1) : Int)) = true →
                                  ((0 ≤ n23 ∧
                                    (n23 ≤ IntKind.wrap IntKind.i64 (n23 + 4) ∧
                                     IntKind.wrap IntKind.i64 (n23 + 4) ≤ (↑(ByteArray.size x1) : Int))) ∧
                                   ∃ w26 : World, ∃ n27 : Int, ∃ b28 : Bool, (Sem.run Tryz.prog (Instr.lookup 45 (Value.map (some (Array.size (World.heap w10)))) (Value.string (ByteArray.extract x1 (Int.toNat n23) (Int.toNat (IntKind.wrap IntKind.i64 (n23 + 4))))) true) w24 = Result.ok (Value.tuple (Array.mk [Value.int IntKind.i64 n27, Value.bool b28])) w26 ∧
                                    I25 n27 b28 w26)))) ∧
                                (decide (IntKind.wrap IntKind.i64 (n23 + 4) ≤ (↑(ByteArray.size x1) : Int)) = false →
                                  I25 0 false w24)) ∧
                               ∀ n29 : Int,
                               ∀ b30 : Bool,
                               ∀ w31 : World,
                               (I25 n29 b30 w31 →
                                 ∃ I32 : Int → World → Prop, ((∃ I33 : Int → World → Prop, ∃ I34 : Int → World → Nat, (I33 0 w31 ∧
                                   ∀ n35 : Int,
                                   ∀ w36 : World,
                                   (I33 n35 w36 →
                                     (((b30 = true →
                                        (((decide (n35 < 65536) = true →
                                           (((decide (IntKind.wrap IntKind.i64 (n29 + n35) < (↑(ByteArray.size x0) : Int)) = true →
                                              (((decide (IntKind.wrap IntKind.i64 (n23 + n35) < (↑(ByteArray.size x1) : Int)) = true →
                                                 ((0 ≤ IntKind.wrap IntKind.i64 (n29 + n35) ∧
                                                   IntKind.wrap IntKind.i64 (n29 + n35) < (↑(ByteArray.size x0) : Int)) ∧
                                                  ((0 ≤ IntKind.wrap IntKind.i64 (n23 + n35) ∧
                                                    IntKind.wrap IntKind.i64 (n23 + n35) < (↑(ByteArray.size x1) : Int)) ∧
                                                   ∀ w37 : World,
                                                   (Drew w36 w37 →
                                                     ((((byteAt x0 (IntKind.wrap IntKind.i64 (n29 + n35)) == byteAt x1 (IntKind.wrap IntKind.i64 (n23 + n35))) = true →
                                                        (I33 (IntKind.wrap IntKind.i64 (n35 + 1)) w37 ∧
                                                         I34 (IntKind.wrap IntKind.i64 (n35 + 1)) w37 < I34 n35 w36))) ∧
                                                      ((byteAt x0 (IntKind.wrap IntKind.i64 (n29 + n35)) == byteAt x1 (IntKind.wrap IntKind.i64 (n23 + n35))) = false →
                                                        I32 n35 w37))))))) ∧
                                               (decide (IntKind.wrap IntKind.i64 (n23 + n35) < (↑(ByteArray.size x1) : Int)) = false →
                                                 ∀ w38 : World,
                                                 (Drew w36 w38 →
                                                   I32 n35 w38))))) ∧
                                            (decide (IntKind.wrap IntKind.i64 (n29 + n35) < (↑(ByteArray.size x0) : Int)) = false →
                                              ∀ w39 : World,
                                              (Drew w36 w39 →
                                                I32 n35 w39))))) ∧
                                         (decide (n35 < 65536) = false →
                                           ∀ w40 : World,
                                           (Drew w36 w40 →
                                             I32 n35 w40))))) ∧
                                      (b30 = false →
                                        ∀ w41 : World,
                                        (Drew w36 w41 →
                                          I32 n35 w41)))))) ∧
                                  ∀ n42 : Int,
                                  ∀ w43 : World,
                                  (I32 n42 w43 →
                                    (((decide (n42 < 4) = true →
                                       ∀ w44 : World,
                                       (Drew w43 w44 →
                                         ∃ I45 : World → Prop, (I45 w44 ∧
                                          ∃ l46 : Sl, ((∀ w47 : World,
                                           (I45 w47 →
                                             World.cell? w47 (Addr.mk (Array.size (World.heap w15)) 0 none) = some (Value.slice l46.1 l46.2 l46.3))) ∧
                                           ((0 ≤ n23 ∧
                                             n23 < (↑(ByteArray.size x1) : Int)) ∧
                                            ∀ w48 : World,
                                            (w48 = World.alloc w44 (Obj.cells (Array.mk [Value.int IntKind.u8 (byteAt x1 n23)]) 5) →
                                              (I45 w48 ∧
                                               ∃ w49 : World, ∃ l50 : Sl, (Sem.run Tryz.prog (Builtin.append_ (Array.mk [43, 43]) 43 (Array.mk [Value.slice l46.1 l46.2 l46.3, Value.slice (some (Addr.mk (Array.size (World.heap w44)) 0 none)) 1 1])) w48 = Result.ok (Value.slice l50.1 l50.2 l50.3) w49 ∧
                                                (I45 w49 ∧
                                                 (Wr w49 (Addr.mk (Array.size (World.heap w15)) 0 none) ∧
                                                  ∀ w51 : World,
                                                  (w51 = World.setCell w49 (Addr.mk (Array.size (World.heap w15)) 0 none) (Value.slice l50.1 l50.2 l50.3) →
                                                    (I21 (IntKind.wrap IntKind.i64 (n23 + 1)) w51 ∧
                                                     I22 (IntKind.wrap IntKind.i64 (n23 + 1)) w51 < I22 n23 w24))))))))))))) ∧
                                     (decide (n42 < 4) = false →
                                       Calls Tryz.prog (13 : Nat) (Array.mk [Value.pointer (some (Addr.mk (Array.size (World.heap w15)) 0 none)), Value.pointer (some (Addr.mk (Array.size (World.heap w7)) 0 none))]) (w43) (fun e52 w53 =>
                                         (e52 = Ending.returned (Value.tuple (Array.mk [])) ∧
                                          ∀ w54 : World,
                                          (Drew w53 w54 →
                                            ∃ I55 : World → Prop, (I55 w54 ∧
                                             ∃ l56 : Sl, ((∀ w57 : World,
                                              (I55 w57 →
                                                World.cell? w57 (Addr.mk (Array.size (World.heap w7)) 0 none) = some (Value.slice l56.1 l56.2 l56.3))) ∧
                                              Calls Tryz.prog (14 : Nat) (Array.mk [Value.int IntKind.i64 n29, Value.int IntKind.i64 n42]) (w54) (fun e58 w59 =>
                                                ∃ l60 : Sl, (e58 = Ending.returned (Value.slice l60.1 l60.2 l60.3) ∧
                                                 (I55 w59 ∧
                                                  ∃ w61 : World, ∃ l62 : Sl, (Sem.run Tryz.prog (Builtin.append_ (Array.mk [43, 43]) 43 (Array.mk [Value.slice l56.1 l56.2 l56.3, Value.slice l60.1 l60.2 l60.3])) w59 = Result.ok (Value.slice l62.1 l62.2 l62.3) w61 ∧
                                                   (I55 w61 ∧
                                                    (Wr w61 (Addr.mk (Array.size (World.heap w7)) 0 none) ∧
                                                     ∀ w63 : World,
                                                     (w63 = World.setCell w61 (Addr.mk (Array.size (World.heap w7)) 0 none) (Value.slice l62.1 l62.2 l62.3) →
                                                       (I21 (IntKind.wrap IntKind.i64 (n23 + n42)) w63 ∧
                                                        I22 (IntKind.wrap IntKind.i64 (n23 + n42)) w63 < I22 n23 w24))))))))))))))))))))) ∧
                            (decide (n23 < (↑(ByteArray.size x1) : Int)) = false →
                              Calls Tryz.prog (13 : Nat) (Array.mk [Value.pointer (some (Addr.mk (Array.size (World.heap w15)) 0 none)), Value.pointer (some (Addr.mk (Array.size (World.heap w7)) 0 none))]) (w24) (fun e64 w65 =>
                                (e64 = Ending.returned (Value.tuple (Array.mk [])) ∧
                                 Calls Tryz.prog (12 : Nat) (Array.mk [Value.int IntKind.i64 (↑(ByteArray.size x0) : Int)]) (w65) (fun e66 w67 =>
                                   ∃ l68 : Sl, (e66 = Ending.returned (Value.slice l68.1 l68.2 l68.3) ∧
                                    Calls Tryz.prog (12 : Nat) (Array.mk [Value.int IntKind.i64 (↑(ByteArray.size x1) : Int)]) (w67) (fun e69 w70 =>
                                      ∃ l71 : Sl, (e69 = Ending.returned (Value.slice l71.1 l71.2 l71.3) ∧
                                       ∃ w72 : World, ∃ l73 : Sl, (Sem.run Tryz.prog (Builtin.append_ (Array.mk [43, 43]) 43 (Array.mk [Value.slice l68.1 l68.2 l68.3, Value.slice l71.1 l71.2 l71.3])) w70 = Result.ok (Value.slice l73.1 l73.2 l73.3) w72 ∧
                                        ∃ I74 : ByteArray → Sl → World → Prop, ∃ I75 : ByteArray → Sl → World → Nat, (I74 x1 (Sl.mk l73.1 l73.2 l73.3) w72 ∧
                                         ∀ s76 : ByteArray,
                                         ∀ l77 : Sl,
                                         ∀ w78 : World,
                                         (I74 s76 l77 w78 →
                                           (((decide ((↑(ByteArray.size s76) : Int) > 0) = true →
                                              ∀ w79 : World,
                                              (Drew w78 w79 →
                                                ∃ I80 : World → Prop, (I80 w79 ∧
                                                 (((0 ≤ if 127 < (↑(ByteArray.size s76) : Int) then 127 else (↑(ByteArray.size s76) : Int)) ∧
                                                   ((if 127 < (↑(ByteArray.size s76) : Int) then 127 else (↑(ByteArray.size s76) : Int)) ≤ (↑(ByteArray.size s76) : Int))) ∧
                                                  ∀ w81 : World,
                                                  ((w81 = World.alloc w79 (Obj.cells (Array.mk [Value.int IntKind.u8 (IntKind.wrap IntKind.u8 (if 127 < (↑(ByteArray.size s76) : Int) then 127 else (↑(ByteArray.size s76) : Int)))]) 5)) →
                                                    (I80 w81 ∧
                                                     ∃ w82 : World, ∃ l83 : Sl, (Sem.run Tryz.prog (Builtin.append_ (Array.mk [43, 43]) 43 (Array.mk [Value.slice l77.1 l77.2 l77.3, Value.slice (some (Addr.mk (Array.size (World.heap w79)) 0 none)) 1 1])) w81 = Result.ok (Value.slice l83.1 l83.2 l83.3) w82 ∧
                                                      (I80 w82 ∧
                                                       ∃ w84 : World, ∃ l85 : Sl, ((Sem.run Tryz.prog (Builtin.append_ (Array.mk [43, 9]) 43 (Array.mk [Value.slice l83.1 l83.2 l83.3, Value.string (ByteArray.extract s76 0 (Int.toNat (if 127 < (↑(ByteArray.size s76) : Int) then 127 else (↑(ByteArray.size s76) : Int))))])) w82 = Result.ok (Value.slice l85.1 l85.2 l85.3) w84) ∧
                                                        (I80 w84 ∧
                                                         (((0 ≤ if 127 < (↑(ByteArray.size s76) : Int) then 127 else (↑(ByteArray.size s76) : Int)) ∧
                                                           ((if 127 < (↑(ByteArray.size s76) : Int) then 127 else (↑(ByteArray.size s76) : Int)) ≤ (↑(ByteArray.size s76) : Int))) ∧
                                                          ((I74 (ByteArray.extract s76 (Int.toNat (if 127 < (↑(ByteArray.size s76) : Int) then 127 else (↑(ByteArray.size s76) : Int))) (ByteArray.size s76)) (Sl.mk l85.1 l85.2 l85.3) w84) ∧
                                                           (I75 (ByteArray.extract s76 (Int.toNat (if 127 < (↑(ByteArray.size s76) : Int) then 127 else (↑(ByteArray.size s76) : Int))) (ByteArray.size s76)) (Sl.mk l85.1 l85.2 l85.3) w84 < I75 s76 l77 w78)))))))))))))) ∧
                                            (decide ((↑(ByteArray.size s76) : Int) > 0) = false →
                                              ∃ l86 : Sl, (World.cell? w78 (Addr.mk (Array.size (World.heap w7)) 0 none) = some (Value.slice l86.1 l86.2 l86.3) ∧
                                               (((decide ((↑l77.2 : Int) < (↑l86.2 : Int)) = true →
                                                  ∃ w87 : World, ∃ s88 : ByteArray, (Sem.run Tryz.prog (convert 43 9 (Value.slice l77.1 l77.2 l77.3)) w78 = Result.ok (Value.string s88) w87 ∧
                                                   R (Value.string s88) w87))) ∧
                                                (decide ((↑l77.2 : Int) < (↑l86.2 : Int)) = false →
                                                  ∃ l89 : Sl, (World.cell? w78 (Addr.mk (Array.size (World.heap w7)) 0 none) = some (Value.slice l89.1 l89.2 l89.3) ∧
                                                   ∃ w90 : World, ∃ s91 : ByteArray, (Sem.run Tryz.prog (convert 43 9 (Value.slice l89.1 l89.2 l89.3)) w78 = Result.ok (Value.string s91) w90 ∧
                                                    R (Value.string s91) w90))))))))))))))))))))))))))))))))))
theorem vc_delta_Make_ok {x0 : ByteArray} {x1 : ByteArray} {w : World} {R : Value → World → Prop} {R' : Ending → World → Prop} (h : vc_delta_Make x0 x1 w R) (hR : ∀ v w', R v w' → R' (.returned v) w') :
    Calls Tryz.prog 5 #[.string x0, .string x1] w R' :=
  calls_of_body (vs := [(.string x0, false), (.string x1, false)]) (ty := ty) (ann := ⟨[(17, [(14, .int .i64), (15, .bool)]), (19, [(13, .int .i64)])], [(4, [(7, .int .i64)]), (12, [(12, .int .i64)]), (17, [(13, .int .i64)]), (27, [(1, .str), (16, .slice)])], [(17, .quiet), (20, .held [(0, true), (1, true), (2, true), (3, true), (4, false), (5, false), (6, false)]), (23, .held [(0, true), (1, true), (2, true), (3, false), (4, false), (5, false)]), (29, .held [(0, true), (1, true), (2, true), (5, true), (6, true), (7, true), (3, false), (4, false), (8, false), (9, true)])], []⟩) (c := Tryz.f5.body.getD .skip) (by kernel_rfl) Tryz.func5 (by kernel_rfl) (by kernel_rfl) (Eq.mp (by kernel_rfl) h) hR
end Go.Proofs.YtcnpekohkbjnnaaGreatDoor

/- The package delta's writer of numbers and copies. Conditions: numbers below 16384, places below 2^32, lengths below 65536. -/
set_option linter.unusedVariables false
namespace Go.Proofs.YtcnpekohkbjnnaaGreatDoor
open Go Vc Go.Proofs

theorem byteV_length (l : List UInt8) : (byteV l).length = l.length := List.length_map ..
theorem dshr (a s : Nat) (hs : s ≤ 64) : Int.fdiv (a : Int) (2 ^ min s 64) = ((a / 2 ^ s : Nat) : Int) := by
  have e : (2 : Int) ^ s = ((2 ^ s : Nat) : Int) := by rw [Int.natCast_pow]; rfl
  rw [show min s 64 = s by omega, e, Int.fdiv_eq_ediv_of_nonneg _ (Int.natCast_nonneg _), ← Int.natCast_ediv]
theorem dand255 (v s : Nat) (hs : s ≤ 64) (hv : v < 9223372036854775808) : IntKind.i64.wrap (((BitVec.ofInt 64 (Int.fdiv (v : Int) (2 ^ min s 64)) &&& BitVec.ofInt 64 255).toNat : Nat) : Int) = ((v / 2 ^ s % 256 : Nat) : Int) := by
  have hle : v / 2 ^ s ≤ v := Nat.div_le_self _ _
  rw [dshr v s hs, show (255 : Int) = ((255 : Nat) : Int) from rfl, and_nat 64 _ _ (by omega) (by omega), show (255 : Nat) = 2 ^ 8 - 1 from rfl, Nat.and_two_pow_sub_one_eq_mod, wrap_i64 (by omega) (by omega)]
theorem dor128 (k : Nat) : IntKind.u8.wrap (((BitVec.ofInt 8 (IntKind.u8.wrap (k : Int)) ||| BitVec.ofInt 8 128).toNat : Nat) : Int) = ((k % 128 + 128 : Nat) : Int) := by
  have h : ∀ c, c < 256 → c ||| 128 = c % 128 + 128 := by decide +kernel
  have e : IntKind.u8.wrap (k : Int) = ((k % 256 : Nat) : Int) := by rw [wrap_u8_mod]; omega
  rw [e, show (128 : Int) = ((128 : Nat) : Int) from rfl, or_nat 8 _ _ (by omega) (by omega), h _ (by omega), wrap_u8 (by omega) (by omega)]
  omega
theorem sized_spec (n : Nat) (hn : n < 16384) (w : World) : Calls Tryz.prog F_delta_sized #[.int .i64 (n : Int)] w fun e w' =>
    ∃ l : Sl, e = .returned (.slice l.a l.len l.cap) ∧ Vc.Own w' w.heap.size T_uint8 l (byteV (sizedL n)) ∧ Fr (fun _ => False) w w' := by
  refine vc_delta_sized_ok (R := fun v w' => ∃ l : Sl, v = .slice l.a l.len l.cap ∧ Vc.Own w' w.heap.size T_uint8 l (byteV (sizedL n)) ∧ Fr (fun _ => False) w w') ?_ (fun v w' ⟨l, h1, h2⟩ => ⟨l, by rw [h1], h2⟩)
  refine ⟨fun m l w' => ∃ (k : Nat) (bs : List UInt8), m = k ∧ Vc.Own w' w.heap.size T_uint8 l (byteV bs) ∧ bs ++ sizedL k = sizedL n ∧ (bs = [] ∨ k < 128) ∧ bs.length ≤ 1 ∧ k < 16384 ∧ Fr (fun _ => False) w w', fun m _ _ => m.toNat,
    ⟨n, [], rfl, Vc.Own.nil _ _ _, rfl, .inl rfl, Nat.zero_le _, hn, .refl _ _⟩, ?_⟩
  rintro m l w5 ⟨k, bs, rfl, ho, he, hbs, hb1, hk, hf⟩
  have hle := ho.len
  rw [byteV_length] at hle
  refine ⟨fun hge w6 h6 => ?_, fun hlt w9 h9 => ?_⟩
  · have hge := of_decide_eq_true hge
    have hk128 : 128 ≤ k := by omega
    have hb0 : bs = [] := hbs.resolve_right (by omega)
    subst hb0
    rw [dor128] at h6
    obtain ⟨w7, l8, hr, ho7, hf7, hs7⟩ := append_one' elByte ho (v := .int .u8 ((k % 128 + 128 : Nat) : Int)) rfl (by simp [byteV, maxLen]) (by simp [byteV]) hf.size h6
    refine ⟨w7, l8, hr, by decide, ?_⟩
    rw [show Int.toNat 7 = 7 from rfl, dshr k 7 (by omega)]
    have hk2 : k / 2 ^ 7 < 128 := by omega
    have hok := sizedL_big hk128
    refine ⟨⟨k / 2 ^ 7, [UInt8.ofNat (k % 128 + 128)], rfl, ?_, ?_, .inr hk2, Nat.le_refl _, by omega, ?_⟩, by dsimp only; omega⟩
    · rw [byteV_snoc _ _ (by omega)] at ho7
      exact ho7
    · rw [← he, List.nil_append, hok]
      unfold sizedL
      rw [if_pos hk2]; rfl
    · exact hf.trans hf7 fun q hq ⟨y, hy, e⟩ => by have := (ho.blk hy).1; omega
  · have hlt := of_decide_eq_false hlt
    have hk128 : k < 128 := by omega
    rw [wrap_u8 (by omega) (by omega)] at h9
    obtain ⟨w10, l11, hr, ho10, hf10, hs10⟩ := append_one' elByte ho (v := .int .u8 (k : Int)) rfl (by rw [byteV_length]; unfold maxLen; omega) (by rw [byteV_length]; omega) hf.size h9
    refine ⟨w10, l11, hr, l11, rfl, ?_, hf.trans hf10 fun q hq ⟨y, hy, e⟩ => by have := (ho.blk hy).1; omega⟩
    rw [byteV_snoc _ _ (by omega)] at ho10
    rw [← he, show sizedL k = [UInt8.ofNat k] by unfold sizedL; rw [if_pos hk128]]
    exact ho10
theorem dorbit (f i : Nat) (hi : i < 7) (hf : f < 2 ^ i) : IntKind.u8.wrap (((BitVec.ofInt 8 ((128 + f : Nat) : Int) ||| BitVec.ofInt 8 (IntKind.u8.wrap (1 * 2 ^ min i 8))).toNat : Nat) : Int) = ((128 + (f + 2 ^ i) : Nat) : Int) := by
  have h : ∀ i, i < 7 → ∀ f, f < 2 ^ i → (128 + f) ||| 2 ^ i = 128 + (f + 2 ^ i) ∧ 128 + (f + 2 ^ i) < 256 ∧ 2 ^ i < 256 := by decide
  obtain ⟨h1, h2, h3⟩ := h i hi f hf
  have e : (1 : Int) * 2 ^ min i 8 = ((2 ^ i : Nat) : Int) := by rw [show min i 8 = i by omega, Int.one_mul, Int.natCast_pow]; rfl
  rw [e, show IntKind.u8.wrap ((2 ^ i : Nat) : Int) = ((2 ^ i : Nat) : Int) from wrap_u8 (by omega) (by omega), or_nat 8 _ _ (by omega) (by omega), h1, wrap_u8 (by omega) (by omega)]
theorem copyOf_spec (o n : Nat) (ho : o < 4294967296) (hn : n < 65536) (w : World) : Calls Tryz.prog F_delta_copyOf #[.int .i64 (o : Int), .int .i64 (n : Int)] w fun e w' =>
    ∃ l : Sl, e = .returned (.slice l.a l.len l.cap) ∧ Vc.Own w' w.heap.size T_uint8 l (byteV (encD (.copy o n))) ∧ Fr (fun _ => False) w w' := by
  refine vc_delta_copyOf_ok (R := fun v w' => ∃ l : Sl, v = .slice l.a l.len l.cap ∧ Vc.Own w' w.heap.size T_uint8 l (byteV (encD (.copy o n))) ∧ Fr (fun _ => False) w w') ?_ (fun v w' ⟨l, h1, h2⟩ => ⟨l, by rw [h1], h2⟩)
  intro w1 h1
  have f1 : Fr (fun _ => False) w w1 := by rw [h1]; exact .alloc _ _ _
  have ho1 : Vc.Own w1 w.heap.size T_uint8 ⟨some ⟨w.heap.size, 0, none⟩, 1, 1⟩ (byteV [UInt8.ofNat 128]) :=
    ⟨rfl, .inr ⟨w.heap.size, #[.int .u8 128], rfl, Nat.le_refl _, by rw [h1]; exact alloc_new _ _, Nat.le_refl _, (show 1 ≤ maxLen by decide), rfl, rfl⟩⟩
  clear h1
  refine ⟨fun l m w' => ∃ i : Nat, m = i ∧ i ≤ 7 ∧ Vc.Own w' w.heap.size T_uint8 l (byteV (UInt8.ofNat (128 + cflag o n i) :: cpbs o n 0 i)) ∧ Fr (fun _ => False) w w', fun _ m _ => 7 - m.toNat, ⟨0, rfl, by decide, ho1, f1⟩, ?_⟩
  clear ho1 f1
  rintro l m w6 ⟨i, rfl, hi, ho6, hf6⟩
  refine ⟨fun hlt => ?_, fun hge => ?_⟩
  · have hlt := of_decide_eq_true hlt
    have hi7 : i < 7 := by omega
    have e1 : IntKind.i64.wrap ((i : Int) + 1) = ((i + 1 : Nat) : Int) := by rw [wrap_i64 (by omega) (by omega)]; omega
    have e8 : IntKind.i64.wrap (8 * (i : Int)) = ((8 * i : Nat) : Int) := by rw [wrap_i64 (by omega) (by omega)]; omega
    rw [e1, e8, Int.toNat_natCast, Int.toNat_natCast]
    refine ⟨by omega, fun v w' => v = ((cpb o n i : Nat) : Int) ∧ w' = w6, ⟨fun h4 => ?_, fun h4 => ?_⟩, ?_⟩
    · have h4 := of_decide_eq_true h4
      have e4 : IntKind.i64.wrap ((i : Int) - 4) = ((i - 4 : Nat) : Int) := by rw [wrap_i64 (by omega) (by omega)]; omega
      have e9 : IntKind.i64.wrap (8 * ((i - 4 : Nat) : Int)) = ((8 * (i - 4) : Nat) : Int) := by rw [wrap_i64 (by omega) (by omega)]; omega
      rw [e4, e9, Int.toNat_natCast, dand255 n _ (by omega) (by omega)]
      refine ⟨by omega, ?_, rfl⟩
      unfold cpb
      rw [if_neg (by omega), Nat.pow_mul]
    · have h4 := of_decide_eq_false h4
      rw [dand255 o _ (by omega) (by omega)]
      refine ⟨?_, rfl⟩
      unfold cpb
      rw [if_pos (by omega), Nat.pow_mul]
    · rintro v w9 ⟨rfl, hw⟩
      replace hw := hw.symm
      subst hw
      have hcb := cpb_lt o n i
      refine ⟨fun b w' => b = decide (cpb o n i ≠ 0) ∧ w' = w6, ⟨fun hne => ?_, fun heq => ?_⟩, ?_⟩
      · have hne : cpb o n i ≠ 0 := by have : ((cpb o n i : Nat) : Int) ≠ 0 := (by simpa using hne); omega
        rw [decide_eq_true hne]
        refine ⟨fun _ => ⟨?_, rfl⟩, fun _ => ⟨rfl, rfl⟩⟩
        have : ((n : Int) == 65536) = false := by rw [beq_eq_false_iff_ne]; omega
        rw [this]; rfl
      · have heq : cpb o n i = 0 := by have : ((cpb o n i : Nat) : Int) = 0 := (by simpa using heq); omega
        rw [heq]
        exact ⟨rfl, rfl⟩
      rintro b w12 ⟨rfl, hw⟩
      replace hw := hw.symm
      subst hw
      refine ⟨fun hne w13 d13 => ?_, fun heq => ⟨⟨i + 1, rfl, by omega, ?_, hf6⟩, by dsimp only; omega⟩⟩
      · have hne := of_decide_eq_true hne
        have ho13 := ho6.drew d13
        have hlen := ho6.len
        rw [byteV_length, List.length_cons] at hlen
        have hcl := cpbs_len o n 0 i
        have hfl := cflag_lt o n i
        obtain ⟨x, hx, hc, hwr, hset⟩ := ho13.set (i := 0) (by rw [byteV_length]; simp)
        have hfl2 : 128 + cflag o n i < 256 := by have : 2 ^ i ≤ 2 ^ 6 := Nat.pow_le_pow_right (by decide) (by omega); omega
        have hc0 : (byteV (UInt8.ofNat (128 + cflag o n i) :: cpbs o n 0 i))[0]'(by rw [byteV_length]; simp) = .int .u8 ((128 + cflag o n i : Nat) : Int) := by
          simp only [byteV, List.map_cons, List.getElem_cons_zero]
          rw [toNat_of _ hfl2]
        rw [hc0] at hc
        refine ⟨⟨by decide, by omega⟩, x, hx, _, hc, by omega, ⟨by decide, by omega⟩, x, hx, hwr, fun w17 h17 w18 h18 => ?_⟩
        rw [dorbit _ _ hi7 hfl] at h17
        obtain ⟨hos, hfs⟩ := hset (.int .u8 ((128 + (cflag o n i + 2 ^ i) : Nat) : Int))
        have hcd : cpd o n i = 1 := by unfold cpd; rw [if_neg hne]
        have hflag : cflag o n (i + 1) = cflag o n i + 2 ^ i := by rw [cflag, hcd, Nat.mul_one]
        have hos17 : Vc.Own w17 w.heap.size T_uint8 l (byteV (UInt8.ofNat (128 + cflag o n (i + 1)) :: cpbs o n 0 i)) := by
          rw [h17, hflag]
          have := hos
          have hfl3 : 128 + (cflag o n i + 2 ^ i) < 256 := by have := cflag_lt o n (i + 1); have : 2 ^ (i + 1) ≤ 2 ^ 7 := Nat.pow_le_pow_right (by decide) (by omega); omega
          simp only [byteV, List.map_cons, List.set_cons_zero] at this ⊢
          rw [toNat_of _ hfl3]
          exact this
        have hf17 : Fr (fun _ => False) w w17 := by
          rw [h17]
          exact (hf6.trans' (.drew _ d13)).trans hfs fun q hq ⟨y, hy, e⟩ => by have := (ho6.blk hy).1; omega
        rw [wrap_u8 (by omega) (by omega)] at h18
        obtain ⟨w19, l20, hr, ho19, hf19, hs19⟩ := append_one' elByte hos17 (v := .int .u8 ((cpb o n i : Nat) : Int)) rfl (by rw [byteV_length, List.length_cons]; unfold maxLen; omega) (by rw [byteV_length, List.length_cons]; omega) hf17.size h18
        refine ⟨w19, l20, hr, ⟨i + 1, rfl, by omega, ?_, hf17.trans hf19 fun q hq ⟨y, hy, e⟩ => by have := (hos17.blk hy).1; omega⟩, by dsimp only; omega⟩
        rw [byteV_snoc _ _ hcb, List.cons_append] at ho19
        rw [cpbs_snoc, show cpby o n i = [UInt8.ofNat (cpb o n i)] by unfold cpby; rw [if_neg hne]]
        exact ho19
      · have heq : cpb o n i = 0 := by simpa using heq
        have hcd : cpd o n i = 0 := by unfold cpd; rw [if_pos heq]
        rw [cflag, hcd, Nat.mul_zero, Nat.add_zero, cpbs_snoc, show cpby o n i = [] by unfold cpby; rw [if_pos heq], List.append_nil]
        exact ho6
  · have hge := of_decide_eq_false hge
    have : i = 7 := by omega
    subst this
    exact ⟨l, rfl, ho6, hf6⟩
end Go.Proofs.YtcnpekohkbjnnaaGreatDoor

/- The closure of delta.Make that writes what is still plain. Conditions: texts of at most some ten thousand bytes. -/
set_option linter.unusedVariables false
namespace Go.Proofs.YtcnpekohkbjnnaaGreatDoor
open Go Vc Go.Proofs

/-- What Make holds in memory: what is still plain (p), what has come out (q); the map (r). -/
structure MkS (w : World) (base p q r : Nat) (lp lo : Sl) (ps os : List UInt8) : Prop where
  hp : w.heap[p]? = some (.cells #[.slice lp.a lp.len lp.cap] T_S_uint8 (0, 0))
  hq : w.heap[q]? = some (.cells #[.slice lo.a lo.len lo.cap] T_S_uint8 (0, 0))
  op : OwnO w base T_uint8 lp (byteV ps)
  oo : Vc.Own w base T_uint8 lo (byteV os)
  dis : ∀ x y, lp.a = some x → lo.a = some y → x.block ≠ y.block
  bp : ∀ x, lp.a = some x → x.block ≠ p ∧ x.block ≠ q ∧ x.block ≠ r
  bo : ∀ x, lo.a = some x → x.block ≠ p ∧ x.block ≠ q ∧ x.block ≠ r
  npq : p ≠ q
  npr : p ≠ r
  nqr : q ≠ r
  pb : base ≤ p
  qb : base ≤ q
  hr : r < w.heap.size
theorem MkS.keep {w w' : World} {base p q r : Nat} {lp lo : Sl} {ps os : List UInt8} (h : MkS w base p q r lp lo ps os) (hf : Fr (fun _ => False) w w') : MkS w' base p q r lp lo ps os :=
  ⟨hf.keep h.hp (by simp), hf.keep h.hq (by simp), h.op.keep hf (by simp), h.oo.keep hf (by simp), h.dis, h.bp, h.bo, h.npq, h.npr, h.nqr, h.pb, h.qb, Nat.lt_of_lt_of_le h.hr hf.size⟩
theorem MkS.cp {w : World} {base p q r : Nat} {lp lo : Sl} {ps os : List UInt8} (h : MkS w base p q r lp lo ps os) : w.cell? ⟨p, 0, none⟩ = some (.slice lp.a lp.len lp.cap) := by rw [cell_blk h.hp]; rfl
theorem MkS.cq {w : World} {base p q r : Nat} {lp lo : Sl} {ps os : List UInt8} (h : MkS w base p q r lp lo ps os) : w.cell? ⟨q, 0, none⟩ = some (.slice lo.a lo.len lo.cap) := by rw [cell_blk h.hq]; rfl
theorem since_ne {w : World} {l l' : Sl} (hs : Since w l l') {k : Nat} (hk : k < w.heap.size) (h : ∀ x, l.a = some x → x.block ≠ k) : ∀ x, l'.a = some x → x.block ≠ k := fun x hx e => by
  rcases hs x hx with ⟨y, hy, hb⟩ | hn
  · exact h y hy (by omega)
  · omega
/-- Something more has come out. -/
theorem MkS.out {w : World} {base p q r : Nat} {lp lo : Sl} {ps os : List UInt8} (h : MkS w base p q r lp lo ps os) {w' : World} {lo' : Sl} {os' : List UInt8} (ho : Vc.Own w' base T_uint8 lo' (byteV os')) (hf : Fr (At lo) w w') (hs : Since w lo lo') :
    Wr w' ⟨q, 0, none⟩ ∧ MkS (w'.setCell ⟨q, 0, none⟩ (.slice lo'.a lo'.len lo'.cap)) base p q r lp lo' ps os' ∧ Fr (fun k => At lo k ∨ k = q) w (w'.setCell ⟨q, 0, none⟩ (.slice lo'.a lo'.len lo'.cap)) := by
  have np : ¬ At lo p := fun ⟨y, hy, e⟩ => (h.bo y hy).1 e.symm
  have nq : ¬ At lo q := fun ⟨y, hy, e⟩ => (h.bo y hy).2.1 e.symm
  have hp' := hf.keep h.hp np
  have hq' := hf.keep h.hq nq
  have bl := lt_blk h.hp
  have bq := lt_blk h.hq
  have f2 : Fr (· = q) w' (w'.setCell ⟨q, 0, none⟩ (.slice lo'.a lo'.len lo'.cap)) := Fr.set (· = q) w' _ rfl
  have hb1 := since_ne hs bl fun x hx => (h.bo x hx).1
  have hb2 := since_ne hs bq fun x hx => (h.bo x hx).2.1
  have hb3 := since_ne hs h.hr fun x hx => (h.bo x hx).2.2
  have hpo := h.op.keep hf fun x hx ⟨y, hy, e⟩ => h.dis x y hx hy e
  refine ⟨wr_blk hq' (Nat.lt_succ_self 0), ⟨f2.keep hp' h.npq, by rw [set_blk hq']; rfl, hpo.keep f2 fun x hx => (h.bp x hx).2.1, ho.keep f2 hb2, fun x y hx hy e => ?_, h.bp, fun x hx => ⟨hb1 x hx, hb2 x hx, hb3 x hx⟩, h.npq, h.npr, h.nqr, h.pb, h.qb, ?_⟩, (hf.mono fun k _ hk => .inl hk).trans f2 fun k _ hk => .inr hk⟩
  · rcases hs y hy with ⟨z, hz, hb⟩ | hn
    · exact h.dis x z hx hz (by omega)
    · have := (h.op.blk hx).2; omega
  · have := h.hr; have := hf.size; have := f2.size; omega
/-- Something more is plain. -/
theorem MkS.plain {w : World} {base p q r : Nat} {lp lo : Sl} {ps os : List UInt8} (h : MkS w base p q r lp lo ps os) {w' : World} {lp' : Sl} {ps' : List UInt8} (ho : OwnO w' base T_uint8 lp' (byteV ps')) (hf : Fr (At lp) w w') (hs : Since w lp lp') :
    Wr w' ⟨p, 0, none⟩ ∧ MkS (w'.setCell ⟨p, 0, none⟩ (.slice lp'.a lp'.len lp'.cap)) base p q r lp' lo ps' os ∧ Fr (fun k => At lp k ∨ k = p) w (w'.setCell ⟨p, 0, none⟩ (.slice lp'.a lp'.len lp'.cap)) := by
  have np : ¬ At lp p := fun ⟨y, hy, e⟩ => (h.bp y hy).1 e.symm
  have nq : ¬ At lp q := fun ⟨y, hy, e⟩ => (h.bp y hy).2.1 e.symm
  have hp' := hf.keep h.hp np
  have hq' := hf.keep h.hq nq
  have bl := lt_blk h.hp
  have bq := lt_blk h.hq
  have f2 : Fr (· = p) w' (w'.setCell ⟨p, 0, none⟩ (.slice lp'.a lp'.len lp'.cap)) := Fr.set (· = p) w' _ rfl
  have hb1 := since_ne hs bl fun x hx => (h.bp x hx).1
  have hb2 := since_ne hs bq fun x hx => (h.bp x hx).2.1
  have hb3 := since_ne hs h.hr fun x hx => (h.bp x hx).2.2
  have hoo := h.oo.keep hf fun x hx ⟨y, hy, e⟩ => h.dis y x hy hx e.symm
  refine ⟨wr_blk hp' (Nat.lt_succ_self 0), ⟨by rw [set_blk hp']; rfl, f2.keep hq' fun e => h.npq e.symm, ho.keep f2 hb1, hoo.keep f2 fun x hx => (h.bo x hx).1, fun x y hx hy e => ?_, fun x hx => ⟨hb1 x hx, hb2 x hx, hb3 x hx⟩, h.bo, h.npq, h.npr, h.nqr, h.pb, h.qb, ?_⟩, (hf.mono fun k _ hk => .inl hk).trans f2 fun k _ hk => .inr hk⟩
  · rcases hs x hx with ⟨z, hz, hb⟩ | hn
    · exact h.dis z y hz hy (by omega)
    · have := (h.oo.blk hy).2; omega
  · have := h.hr; have := hf.size; have := f2.size; omega
theorem sub_since {w : World} {l : Sl} {k : Nat} : Since w l ⟨subA l.a l.cap k 1, l.len - k, l.cap - k⟩ := fun y hy => by
  refine .inl ?_
  simp only [subA] at hy
  split at hy
  · exact ⟨y, hy, rfl⟩
  · obtain ⟨x, hx, rfl⟩ := Option.map_eq_some_iff.1 hy
    exact ⟨x, hx, (add_block _ _).symm⟩
/-- Its front is cut off. -/
theorem MkS.cut {w : World} {base p q r : Nat} {lp lo : Sl} {ps os : List UInt8} (h : MkS w base p q r lp lo ps os) {k : Nat} (hk : k ≤ lp.len) :
    Wr w ⟨p, 0, none⟩ ∧ MkS (w.setCell ⟨p, 0, none⟩ (.slice (subA lp.a lp.cap k 1) (lp.len - k) (lp.cap - k))) base p q r ⟨subA lp.a lp.cap k 1, lp.len - k, lp.cap - k⟩ lo (ps.drop k) os ∧
      Fr (fun k => At lp k ∨ k = p) w (w.setCell ⟨p, 0, none⟩ (.slice (subA lp.a lp.cap k 1) (lp.len - k) (lp.cap - k))) := by
  have := h.op.sub hk
  rw [← List.map_drop] at this
  exact h.plain this (.refl _ _) sub_since
def lenAt (w : World) (p : Nat) : Nat := match w.cell? ⟨p, 0, none⟩ with
  | some (.slice _ n _) => n
  | _ => 0
theorem lenAt_of {w : World} {base p q r : Nat} {lp lo : Sl} {ps os : List UInt8} (h : MkS w base p q r lp lo ps os) : lenAt w p = lp.len := by
  unfold lenAt
  rw [h.cp]
theorem OwnO.cap {w : World} {base : Nat} {e : TypeId} {l : Sl} {xs : List Value} (h : OwnO w base e l xs) : l.len ≤ l.cap := by
  rcases h.2 with ⟨_, h1, h2⟩ | ⟨g, o, cur, _, _, _, hl, _⟩
  · omega
  · exact hl
theorem flush_spec {w : World} {base p q r : Nat} {lp lo : Sl} {ps os : List UInt8} (h : MkS w base p q r lp lo ps os) (hps : ps.length ≤ 20000) (hos : os.length ≤ 200000) (hbase : base ≤ w.heap.size) (B : List UInt8) :
    Calls Tryz.prog F_delta_Make_1 #[.pointer (some ⟨p, 0, none⟩), .pointer (some ⟨q, 0, none⟩)] w fun e w' => e = .returned (.tuple #[]) ∧ ∃ (lp' lo' : Sl) (is : List Ins), MkS w' base p q r lp' lo' [] (os ++ is.flatMap encD) ∧ (∀ x ∈ is, okD B x) ∧
      is.flatMap (outD B) = ps ∧ (is.flatMap encD).length ≤ 2 * ps.length ∧ Fr (fun k => At lo k ∨ k = p ∨ k = q) w w' := by
  refine vc_delta_Make_1_ok (c0 := ⟨p, 0, none⟩) (c1 := ⟨q, 0, none⟩) (R := fun v w' => v = .tuple #[] ∧ ∃ (lp' lo' : Sl) (is : List Ins), MkS w' base p q r lp' lo' [] (os ++ is.flatMap encD) ∧ (∀ x ∈ is, okD B x) ∧
      is.flatMap (outD B) = ps ∧ (is.flatMap encD).length ≤ 2 * ps.length ∧ Fr (fun k => At lo k ∨ k = p ∨ k = q) w w') ?_ (fun v w' h => ⟨by rw [h.1], h.2⟩)
  refine ⟨fun w' => ∃ (lp' lo' : Sl) (ps' : List UInt8) (is : List Ins), MkS w' base p q r lp' lo' ps' (os ++ is.flatMap encD) ∧ (∀ x ∈ is, okD B x) ∧ is.flatMap (outD B) ++ ps' = ps ∧ (is.flatMap encD).length + 2 * ps'.length ≤ 2 * ps.length ∧
      Since w lo lo' ∧ Since w lp lp' ∧ Fr (fun k => At lo k ∨ At lp k ∨ k = p ∨ k = q) w w' ∧ Fr (fun k => At lo k ∨ k = p ∨ k = q) w w', fun w' => lenAt w' p,
    ⟨lp, lo, ps, [], by simpa using h, by simp, rfl, by simp, .refl _ _, .refl _ _, .refl _ _, .refl _ _⟩, ?_⟩
  rintro w3 ⟨lp', lo', ps', is, hM, hok, hout, hln, hsin, hsinp, _, hf⟩
  have hlen := hM.op.len
  rw [byteV_length] at hlen
  have hcap := OwnO.cap hM.op
  have hlo := hM.oo.len
  rw [byteV_length, List.length_append] at hlo
  have hs3 := hf.size
  refine ⟨lp', hM.cp, fun hgt => ?_, fun hle => ?_⟩
  · have hgt := of_decide_eq_true hgt
    obtain ⟨k, hk⟩ : ∃ k : Nat, k = min 127 lp'.len := ⟨_, rfl⟩
    have hkI : (if (127 : Int) < (lp'.len : Int) then (127 : Int) else (lp'.len : Int)) = (k : Int) := by split <;> omega
    refine ⟨lp', hM.cp, fun w6 d6 => ?_⟩
    have f6 : Fr (fun _ => False) w3 w6 := .drew _ d6
    have hM6 := hM.keep f6
    refine ⟨fun w' => w'.cell? ⟨p, 0, none⟩ = some (.slice lp'.a lp'.len lp'.cap) ∧ w'.cell? ⟨q, 0, none⟩ = some (.slice lo'.a lo'.len lo'.cap), ⟨hM6.cp, hM6.cq⟩, lo', fun w9 h9 => h9.2, lp', fun w11 h11 => h11.1, ?_⟩
    rw [hkI, Int.toNat_natCast]
    refine ⟨⟨by omega, by omega⟩, fun w12 h12 => ?_⟩
    rw [wrap_u8 (by omega) (by omega)] at h12
    have f12 : Fr (fun _ => False) w6 w12 := by rw [h12]; exact .alloc _ _ _
    have hM12 := hM6.keep f12
    have hb6 : base ≤ w6.heap.size := by have := f6.size; omega
    obtain ⟨w13, l14, hr13, ho13, hf13, hs13⟩ := append_one' elByte hM6.oo (v := .int .u8 (k : Int)) rfl (by rw [byteV_length, List.length_append]; unfold maxLen; omega) (by rw [byteV_length, List.length_append]; omega) hb6 h12
    have np : ¬ At lo' p := fun ⟨y, hy, e⟩ => (hM6.bo y hy).1 e.symm
    have nq : ¬ At lo' q := fun ⟨y, hy, e⟩ => (hM6.bo y hy).2.1 e.symm
    have hs6 := hf13.size
    refine ⟨⟨hM12.cp, hM12.cq⟩, w13, l14, hr13, ⟨hf13.cell hM6.cp np, hf13.cell hM6.cq nq⟩, ?_⟩
    have hop13 := hM6.op.keep hf13 fun x hx ⟨y, hy, e⟩ => hM6.dis x y hx hy e
    have hrd : Reads w13 (subA lp'.a lp'.cap 0 1) (byteV (ps'.take k)) := by
      have := (hop13.reads.sub (cap := lp'.cap) (by rw [byteV_length]; omega) 0).take k
      rw [List.drop_zero, ← List.map_take] at this
      exact this
    have hkl : (ps'.take k).length = k := by rw [List.length_take]; omega
    obtain ⟨w15, l16, hr15, ho15, hf15, hs15⟩ := append_all' elByte ho13 lp'.cap hrd (byteV_one _) (by rw [List.length_append, byteV_length, byteV_length, List.length_append, hkl]; simp only [List.length_cons, List.length_nil]; unfold maxLen; omega)
      (by rw [List.length_append, byteV_length, byteV_length, List.length_append, hkl]; simp only [List.length_cons, List.length_nil]; omega) (by omega) (m := k) (by rw [byteV_length, hkl])
    have hfr : Fr (At lo') w6 w15 := hf13.trans hf15 fun q' hq ⟨y, hy, e⟩ => by
      rcases hs13 y hy with ⟨z, hz, hb⟩ | hn
      · exact ⟨z, hz, by omega⟩
      · omega
    have hsi := hs13.trans hs15 hf13.size
    have np15 := hfr.cell hM6.cp np
    have nq15 := hfr.cell hM6.cq nq
    have hos' : byteV (os ++ is.flatMap encD) ++ [Value.int .u8 (k : Int)] ++ byteV (ps'.take k) = byteV (os ++ (is ++ [Ins.plain (ps'.take k)]).flatMap encD) := by
      rw [byteV_snoc _ _ (by omega), flat_snoc, encD, hkl]
      simp only [byteV, List.map_append, List.append_assoc, List.map_cons, List.map_nil, List.cons_append, List.nil_append]
    rw [hos'] at ho15
    obtain ⟨hwr, hM17, hf17⟩ := hM6.out ho15 hfr hsi
    refine ⟨w15, l16, hr15, ⟨np15, nq15⟩, hwr, fun w17 h17 => ?_⟩
    subst h17
    obtain ⟨hwr2, hM19, hf19⟩ := hM17.cut (k := k) (by omega)
    refine ⟨lp', hM17.cp, ⟨by omega, by omega⟩, hwr2, fun w19 h19 => ?_⟩
    subst h19
    have hfin : Fr (fun k => At lo k ∨ k = p ∨ k = q) w (((w15.setCell ⟨q, 0, none⟩ (.slice l16.a l16.len l16.cap))).setCell ⟨p, 0, none⟩ (.slice (subA lp'.a lp'.cap k 1) (lp'.len - k) (lp'.cap - k))) := by
      refine ((hf.trans f6 fun q' _ hq => hq.elim).trans hf17 fun q' hq hx => ?_).trans (Fr.set (· = p) _ (a := ⟨p, 0, none⟩) _ rfl) fun q' hq hx => .inr (.inl hx)
      rcases hx with ⟨y, hy, e⟩ | hx
      · rcases hsin y hy with ⟨z, hz, hb⟩ | hn
        · exact .inl ⟨z, hz, by omega⟩
        · omega
      · exact .inr (.inr hx)
    refine ⟨⟨_, l16, ps'.drop k, is ++ [Ins.plain (ps'.take k)], hM19, ok_snoc hok ⟨by omega, by omega⟩, ?_, ?_, hsin.trans hsi (by have := f6.size; omega), hsinp.trans (sub_since (w := w3)) hs3, hfin.mono fun q' _ hx => ?_, hfin⟩, ?_⟩
    · rw [flat_snoc, outD, List.append_assoc, List.take_append_drop]; exact hout
    · rw [flat_snoc, List.length_append, encD, List.length_cons, hkl, List.length_drop]; omega
    · rcases hx with hx | hx
      · exact .inl hx
      · exact .inr (.inr hx)
    · show lenAt _ p < lenAt w3 p
      rw [lenAt_of hM19, lenAt_of hM]
      dsimp only
      omega
  · have hle := of_decide_eq_false hle
    have hp0 : ps' = [] := List.eq_nil_of_length_eq_zero (by omega)
    subst hp0
    rw [List.append_nil] at hout
    exact ⟨rfl, lp', lo', is, hM, hok, hout, by rw [List.length_nil] at hln; omega, hf⟩
end Go.Proofs.YtcnpekohkbjnnaaGreatDoor

/- delta.Make: what it writes makes the text of its base. Conditions: texts below 16384 bytes. -/
set_option linter.unusedVariables false
namespace Go.Proofs.YtcnpekohkbjnnaaGreatDoor
open Go Vc Go.Proofs

theorem same_part {x0 x1 : ByteArray} {o i m : Nat} (ho : o + m ≤ x0.size) (hi : i + m ≤ x1.size) (h : ∀ j, j < m → byt x0 (o + j) = byt x1 (i + j)) : (x0.data.toList.drop o).take m = (x1.data.toList.drop i).take m := by
  refine List.ext_getElem? fun j => ?_
  rw [List.getElem?_take, List.getElem?_take]
  split
  · rename_i hj
    rw [List.getElem?_drop, List.getElem?_drop, bs_get (by omega), bs_get (by omega), h j hj]
  · rfl
set_option maxHeartbeats 1600000 in
theorem make_spec (x0 x1 : ByteArray) (h0 : x0.size < 16384) (h1 : x1.size < 16384) (w : World) : Calls Tryz.prog F_delta_Make #[.string x0, .string x1] w fun e w' =>
    ∃ (d : ByteArray) (is : List Ins), e = .returned (.string d) ∧ IsDel x0.data.toList x1.data.toList d.data.toList is ∧ d.size ≤ 4 + 2 * x1.size ∧ Fr (fun _ => False) w w' := by
  refine vc_delta_Make_ok (R := fun v w' => ∃ (d : ByteArray) (is : List Ins), v = .string d ∧ IsDel x0.data.toList x1.data.toList d.data.toList is ∧ d.size ≤ 4 + 2 * x1.size ∧ Fr (fun _ => False) w w') ?_ (fun v w' ⟨d, is, h1, h2⟩ => ⟨d, is, by rw [h1], h2⟩)
  obtain ⟨B, hB⟩ : ∃ B, x0.data.toList = B := ⟨_, rfl⟩
  obtain ⟨T, hT⟩ : ∃ T, x1.data.toList = T := ⟨_, rfl⟩
  rw [hB, hT]
  have hBl : B.length = x0.size := by rw [← hB, bs_len]
  have hTl : T.length = x1.size := by rw [← hT, bs_len]
  have hl0 := sizedL_len x0.size
  have hl1 := sizedL_len x1.size
  refine (sized_spec x0.size h0 w).mono ?_
  rintro e w2 ⟨l3, rfl, o3, f2⟩
  refine ⟨l3, rfl, (sized_spec x1.size h1 w2).mono ?_⟩
  rintro e w5 ⟨l6, rfl, o6, f5⟩
  have hl6 := o6.len
  rw [byteV_length] at hl6
  obtain ⟨w7, l8, hr7, o7, f7, s7⟩ := append_all' elByte (o3.keep f5 (by simp)) l6.cap o6.reads (byteV_one _) (by rw [byteV_length, byteV_length]; unfold maxLen; omega) (by rw [byteV_length, byteV_length]; omega) (f2.trans' f5).size (m := l6.len) (by rw [byteV_length]; omega)
  obtain ⟨hdr, hhdr⟩ : ∃ hdr, sizedL x0.size ++ sizedL x1.size = hdr := ⟨_, rfl⟩
  have hhl : hdr.length ≤ 4 := by rw [← hhdr, List.length_append]; omega
  rw [← List.map_append, hhdr] at o7
  have g7 : Fr (fun _ => False) w w7 := (f2.trans' f5).trans f7 fun q hq ⟨y, hy, e⟩ => by have := (o3.blk hy).1; omega
  refine ⟨l6, rfl, w7, l8, hr7, fun w9 h9 => ?_⟩
  have f9 : Fr (fun _ => False) w7 w9 := by rw [h9]; exact .alloc _ _ _
  have hq9 : w9.heap[w7.heap.size]? = some (.cells #[.slice none 0 0] T_S_uint8 (0, 0)) := by rw [h9]; exact alloc_new _ _
  have s9 : w9.heap.size = w7.heap.size + 1 := by rw [h9]; simp
  clear h9
  refine ⟨wr_blk hq9 (Nat.lt_succ_self 0), fun w10 h10 w11 h11 => ?_⟩
  have hq10 : w10.heap[w7.heap.size]? = some (.cells #[.slice l8.a l8.len l8.cap] T_S_uint8 (0, 0)) := by rw [h10, set_blk hq9]; rfl
  have f10 : Fr (· = w7.heap.size) w9 w10 := by rw [h10]; exact Fr.set (· = w7.heap.size) w9 (a := ⟨w7.heap.size, 0, none⟩) _ rfl
  have s10 : w10.heap.size = w9.heap.size := by rw [h10]; simp
  have f11 : Fr (fun _ => False) w10 w11 := by rw [h11]; exact .alloc _ _ _
  have hm11 : MapOf w11 w10.heap.size [] := by rw [h11]; exact MapOf.new
  have s11 : w11.heap.size = w10.heap.size + 1 := by rw [h11]; simp
  clear h10 h11
  have f7_11 : Fr (fun _ => False) w7 w11 := (f9.trans f10 fun q hq e => by omega).trans' f11
  have hq11 := f11.keep hq10 (by simp)
  have hbl8 : ∀ x, l8.a = some x → w.heap.size ≤ x.block ∧ x.block < w7.heap.size := fun x hx => o7.blk hx
  have o11 := o7.keep f7_11 (by simp)
  have g11 := g7.trans' f7_11
  have hwq := g7.size
  obtain ⟨q, hqe⟩ : ∃ q, w7.heap.size = q := ⟨_, rfl⟩
  obtain ⟨r, hre⟩ : ∃ r, w10.heap.size = r := ⟨_, rfl⟩
  rw [hqe] at hq11 hbl8
  rw [hre] at hm11
  rw [hqe, hre]
  have hqr : r = q + 1 := by omega
  have s11r : w11.heap.size = r + 1 := by omega
  clear hq9 f9 s9 hq10 f10 s10 f11 s11 f7_11 o7 f7 s7 hr7 hre
  refine ⟨fun m w' => ∃ (k : Nat) (L : List (ByteArray × Value)), m = k ∧ k ≤ x0.size ∧ MapOf w' r L ∧ (∀ x ∈ L, ∃ v : Nat, x.2 = .int .i64 (v : Int) ∧ v ≤ x0.size) ∧ Fr (· = r) w11 w', fun m _ => x0.size - m.toNat,
    ⟨0, [], rfl, Nat.zero_le _, hm11, by simp, .refl _ _⟩, ?_⟩
  rintro m w15 ⟨k, L, rfl, hk, hm15, hL, f15⟩
  have e4 : IntKind.i64.wrap ((k : Int) + 4) = ((k + 4 : Nat) : Int) := by rw [wrap_i64 (by omega) (by omega)]; omega
  have e1 : IntKind.i64.wrap ((k : Int) + 1) = ((k + 1 : Nat) : Int) := by rw [wrap_i64 (by omega) (by omega)]; omega
  have look : ∀ {w' : World} {L : List (ByteArray × Value)}, MapOf w' r L → (∀ x ∈ L, ∃ v : Nat, x.2 = .int .i64 (v : Int) ∧ v ≤ x0.size) → ∀ key : ByteArray,
      ∃ (v : Nat) (b : Bool), (Instr.lookup T_map_string_int (.map (some r)) (.string key) true).run Tryz.prog w' = .ok (.tuple #[.int .i64 (v : Int), .bool b]) w' ∧ v ≤ x0.size := fun {w' L} hm hL key => by
    have := map_lookup (P := Tryz.prog) (mt := T_map_string_int) (kt := T_string) (et := T_int) (by kernel_rfl) (by kernel_rfl) (z := .int .i64 0) (w := w') (by kernel_rfl) hm key true
    cases hlk : mlook L key with
    | none =>
      rw [hlk] at this
      exact ⟨0, false, this, Nat.zero_le _⟩
    | some v =>
      obtain ⟨u, hu, hle⟩ := hL _ (mlook_mem hlk)
      simp only at hu
      rw [hlk, hu] at this
      exact ⟨u, true, this, hle⟩
  refine ⟨fun hle => ?_, fun hgt w20 h20 => ?_⟩
  · have hle := of_decide_eq_true hle
    rw [e4] at hle ⊢
    rw [e1]
    obtain ⟨v, b, hr, hv⟩ := look hm15 hL (x0.extract (Int.toNat (k : Int)) (Int.toNat ((k + 4 : Nat) : Int)))
    refine ⟨⟨by omega, by omega, by omega⟩, w15, v, b, hr, fun hb => ⟨⟨by omega, by omega, by omega⟩, ?_⟩, fun hb => ⟨⟨k + 1, L, rfl, by omega, hm15, hL, f15⟩, by dsimp only; omega⟩⟩
    obtain ⟨w19, hr19, hm19, f19⟩ := map_update (P := Tryz.prog) (mt := T_map_string_int) (kt := T_string) (et := T_int) (by kernel_rfl) (by kernel_rfl) hm15 (x0.extract (Int.toNat (k : Int)) (Int.toNat ((k + 4 : Nat) : Int))) (.int .i64 (k : Int))
    exact ⟨w19, hr19, ⟨k + 1, _, rfl, by omega, hm19, mupd_all (p := fun x => ∃ v : Nat, x.2 = .int .i64 (v : Int) ∧ v ≤ x0.size) ⟨k, rfl, by omega⟩ _ hL, f15.trans' f19⟩, by dsimp only; omega⟩
  clear e4 e1 hgt
  have f20 : Fr (fun _ => False) w15 w20 := by rw [h20]; exact .alloc _ _ _
  have hp20 : w20.heap[w15.heap.size]? = some (.cells #[.slice none 0 0] T_S_uint8 (0, 0)) := by rw [h20]; exact alloc_new _ _
  clear h20
  have s15 := f15.size
  have hm20 := hm15.keep f20 (by simp)
  have g20 : Fr (fun _ => False) w w20 := (g11.trans f15 fun q' hq e => by omega).trans' f20
  have hM20 : MkS w20 w.heap.size w15.heap.size q r ⟨none, 0, 0⟩ l8 [] hdr :=
    ⟨hp20, f20.keep (f15.keep hq11 (by omega)) (by simp), .of (Vc.Own.nil _ _ _), (o11.keep f15 fun x hx e => by have := hbl8 x hx; omega).keep f20 (by simp), fun x y hx => by simp at hx, fun x hx => by simp at hx, fun x hx => by have := hbl8 x hx; omega, by omega, by omega, by omega, by omega, by omega, by have := f20.size; omega⟩
  generalize w15.heap.size = p at hp20 hM20 ⊢
  clear hp20 hm15 f15 f20 s15 hm11 hq11 o11 hbl8 s11r hk
  refine ⟨fun m w' => ∃ (i : Nat) (lp lo : Sl) (ps : List UInt8) (is : List Ins), m = i ∧ i ≤ x1.size ∧ MkS w' w.heap.size p q r lp lo ps (hdr ++ is.flatMap encD) ∧ (∀ x ∈ is, okD B x) ∧ is.flatMap (outD B) ++ ps = T.take i ∧
      (hdr ++ is.flatMap encD).length + 2 * ps.length ≤ 4 + 2 * i ∧ MapOf w' r L ∧ Fr (fun _ => False) w w', fun m _ => x1.size - m.toNat,
    ⟨0, ⟨none, 0, 0⟩, l8, [], [], rfl, Nat.zero_le _, by simpa using hM20, by simp, rfl, by simp; omega, hm20, g20⟩, ?_⟩
  clear hM20 hm20 g20
  rintro m w24 ⟨i, lp, lo, ps, is, rfl, hi, hM, hok, hout, hln, hm24, g24⟩
  have hbase := g24.size
  refine ⟨fun hlt => ?_, fun hge => ?_⟩
  · have hlt := of_decide_eq_true hlt
    have hix : i < x1.size := by omega
    have e4 : IntKind.i64.wrap ((i : Int) + 4) = ((i + 4 : Nat) : Int) := by rw [wrap_i64 (by omega) (by omega)]; omega
    have e1 : IntKind.i64.wrap ((i : Int) + 1) = ((i + 1 : Nat) : Int) := by rw [wrap_i64 (by omega) (by omega)]; omega
    rw [e4, e1]
    refine ⟨fun v b w' => (∃ o : Nat, v = o ∧ o ≤ x0.size) ∧ w' = w24, ⟨fun hle => ?_, fun hgt => ⟨⟨0, rfl, Nat.zero_le _⟩, rfl⟩⟩, ?_⟩
    · have hle := of_decide_eq_true hle
      obtain ⟨v, b, hr, hv⟩ := look hm24 hL (x1.extract (Int.toNat (i : Int)) (Int.toNat ((i + 4 : Nat) : Int)))
      exact ⟨⟨by omega, by omega, by omega⟩, w24, v, b, hr, ⟨v, rfl, hv⟩, rfl⟩
    rintro v b w31 ⟨⟨o, rfl, ho⟩, hw⟩
    replace hw := hw.symm
    subst hw
    refine ⟨fun v w' => ∃ m : Nat, v = m ∧ i + m ≤ x1.size ∧ (0 < m → o + m ≤ x0.size) ∧ (∀ j, j < m → byt x0 (o + j) = byt x1 (i + j)) ∧ Fr (fun _ => False) w24 w', ⟨fun v w' => ∃ m : Nat, v = m ∧ i + m ≤ x1.size ∧ (0 < m → o + m ≤ x0.size) ∧ (∀ j, j < m → byt x0 (o + j) = byt x1 (i + j)) ∧ Fr (fun _ => False) w24 w', fun v _ => x1.size - v.toNat,
      ⟨0, rfl, by omega, fun h => by omega, fun j hj => by omega, .refl _ _⟩, ?_⟩, ?_⟩
    · rintro v w36 ⟨m, rfl, hm1, hm0, heq, f36⟩
      have stay : ∀ {w' : World}, Drew w36 w' → ∃ m' : Nat, (m : Int) = m' ∧ i + m' ≤ x1.size ∧ (0 < m' → o + m' ≤ x0.size) ∧ (∀ j, j < m' → byt x0 (o + j) = byt x1 (i + j)) ∧ Fr (fun _ => False) w24 w' := fun d => ⟨m, rfl, hm1, hm0, heq, f36.trans' (.drew _ d)⟩
      have ea : IntKind.i64.wrap ((o : Int) + (m : Int)) = ((o + m : Nat) : Int) := by rw [wrap_i64 (by omega) (by omega)]; omega
      have eb : IntKind.i64.wrap ((i : Int) + (m : Int)) = ((i + m : Nat) : Int) := by rw [wrap_i64 (by omega) (by omega)]; omega
      have ec : IntKind.i64.wrap ((m : Int) + 1) = ((m + 1 : Nat) : Int) := by rw [wrap_i64 (by omega) (by omega)]; omega
      rw [ea, eb, ec, byteAt_nat, byteAt_nat]
      refine ⟨fun hb => ⟨fun h6 => ⟨fun ha => ⟨fun hc => ?_, fun hc w38 d38 => stay d38⟩, fun ha w39 d39 => stay d39⟩, fun h6 w40 d40 => stay d40⟩, fun hb w41 d41 => stay d41⟩
      have ha := of_decide_eq_true ha
      have hc := of_decide_eq_true hc
      refine ⟨⟨by omega, by omega⟩, ⟨by omega, by omega⟩, fun w37 d37 => ⟨fun he => ⟨⟨m + 1, rfl, by omega, fun _ => by omega, fun j hj => ?_, f36.trans' (.drew _ d37)⟩, by dsimp only; omega⟩, fun he => stay d37⟩⟩
      by_cases hjm : j = m
      · have he : ((byt x0 (o + m) : Nat) : Int) = ((byt x1 (i + m) : Nat) : Int) := eq_of_beq he
        rw [hjm]; omega
      · exact heq j (by omega)
    · rintro v w43 ⟨m, rfl, hm1, hm0, heq, f43⟩
      have hM43 := hM.keep f43
      have hm43 := hm24.keep f43 (by simp)
      have g43 := g24.trans' f43
      refine ⟨fun hm4 w44 d44 => ?_, fun hm4 => ?_⟩
      · have f44 : Fr (fun _ => False) w43 w44 := .drew _ d44
        have hM44 := hM43.keep f44
        have hlp := hM44.op.len
        rw [byteV_length] at hlp
        rw [List.length_append] at hln
        refine ⟨fun w' => w'.cell? ⟨p, 0, none⟩ = some (.slice lp.a lp.len lp.cap), hM44.cp, lp, fun w47 h47 => h47, ⟨by omega, by omega⟩, fun w48 h48 => ?_⟩
        rw [byteAt_nat] at h48
        have hg44 : w.heap.size ≤ w44.heap.size := (g43.trans' f44).size
        obtain ⟨w49, l50, hr49, ho49, f49, s49⟩ := append_one_o elByte hM44.op (v := .int .u8 ((byt x1 i : Nat) : Int)) rfl (by rw [byteV_length]; unfold maxLen; omega) (by rw [byteV_length]; omega) hg44 h48
        have f48 : Fr (fun _ => False) w44 w48 := by rw [h48]; exact .alloc _ _ _
        rw [byteV_snoc _ _ (byt_lt _ _)] at ho49
        obtain ⟨hwr, hM51, f51⟩ := hM44.plain ho49 f49 s49
        have hcp49 := f49.cell hM44.cp fun ⟨y, hy, e⟩ => (hM44.bp y hy).1 e.symm
        refine ⟨f48.cell hM44.cp (by simp), w49, l50, hr49, hcp49, hwr, fun w51 h51 => ?_⟩
        subst h51
        refine ⟨⟨i + 1, l50, lo, ps ++ [UInt8.ofNat (byt x1 i)], is, rfl, by omega, hM51, hok, ?_, ?_, (hm43.keep f44 (by simp)).keep f51 fun hx => ?_, (g43.trans' f44).trans f51 fun q' hq hx => ?_⟩, by dsimp only; omega⟩
        · rw [← List.append_assoc, hout, List.take_add_one, ← hT, bs_get hix]; rfl
        · rw [List.length_append, List.length_append, List.length_cons, List.length_nil]; omega
        · rcases hx with ⟨y, hy, e⟩ | hx
          · exact (hM44.bp y hy).2.2 e.symm
          · exact hM44.npr hx.symm
        · rcases hx with ⟨y, hy, e⟩ | hx
          · have := (hM44.op.blk hy).1; omega
          · have := hM44.pb; omega
      · have hm4 := of_decide_eq_false hm4
        have hps : ps.length ≤ 20000 := by have := congrArg List.length hout; rw [List.length_append, List.length_take] at this; omega
        refine (flush_spec hM43 hps (by omega) g43.size B).mono ?_
        rintro e w53 ⟨rfl, lp2, lo2, is2, hM53, hok2, hout2, hln2, f53⟩
        refine ⟨rfl, fun w54 d54 => ?_⟩
        have f54 : Fr (fun _ => False) w53 w54 := .drew _ d54
        have hM54 := hM53.keep f54
        have g53 : Fr (fun _ => False) w w53 := g43.trans f53 fun q' hq hx => by
          rcases hx with ⟨y, hy, e⟩ | hx | hx
          · have := (hM43.oo.blk hy).1; omega
          · have := hM43.pb; omega
          · have := hM43.qb; omega
        have hm53 := hm43.keep f53 fun hx => by
          rcases hx with ⟨y, hy, e⟩ | hx | hx
          · exact (hM43.bo y hy).2.2 e.symm
          · exact hM43.npr hx.symm
          · exact hM43.nqr hx.symm
        have ho1 : o + m ≤ x0.size := hm0 (by omega)
        refine ⟨fun w' => w'.cell? ⟨q, 0, none⟩ = some (.slice lo2.a lo2.len lo2.cap), hM54.cq, lo2, fun w57 h57 => h57, (copyOf_spec o m (by omega) (by omega) w54).mono ?_⟩
        rintro e w59 ⟨l60, rfl, o60, f59⟩
        have hM59 := hM54.keep f59
        have hl60 := o60.len
        rw [byteV_length] at hl60
        have hel : (encD (.copy o m)).length ≤ 8 := by
          unfold encD
          rw [List.length_cons]
          have := cpbs_len o m 0 7
          omega
        have hll : (hdr ++ is.flatMap encD ++ is2.flatMap encD).length ≤ 4 + 2 * i := by rw [List.length_append]; omega
        have g59 := (g53.trans' f54).trans' f59
        obtain ⟨w61, l62, hr61, o61, f61, s61⟩ := append_all' elByte hM59.oo l60.cap o60.reads (byteV_one _) (by rw [byteV_length, byteV_length]; unfold maxLen; omega) (by rw [byteV_length, byteV_length]; omega) g59.size (m := l60.len) (by rw [byteV_length]; omega)
        rw [← List.map_append] at o61
        have hbe : hdr ++ is.flatMap encD ++ is2.flatMap encD ++ encD (.copy o m) = hdr ++ (is ++ is2 ++ [Ins.copy o m]).flatMap encD := by
          rw [flat_snoc, List.flatMap_append, List.append_assoc, List.append_assoc, List.append_assoc]
        rw [hbe] at o61
        obtain ⟨hwr, hM63, f63⟩ := hM59.out o61 f61 s61
        refine ⟨l60, rfl, hM59.cq, w61, l62, hr61, f61.cell hM59.cq fun ⟨y, hy, e⟩ => (hM59.bo y hy).2.1 e.symm, hwr, fun w63 h63 => ?_⟩
        subst h63
        have ei : IntKind.i64.wrap ((i : Int) + (m : Int)) = ((i + m : Nat) : Int) := by rw [wrap_i64 (by omega) (by omega)]; omega
        rw [ei]
        refine ⟨⟨i + m, lp2, l62, [], is ++ is2 ++ [Ins.copy o m], rfl, hm1, hM63, ok_snoc (fun y hy => ?_) ⟨by omega, by omega, by omega⟩, ?_, ?_, ((hm53.keep f54 (by simp)).keep f59 (by simp)).keep f63 fun hx => ?_, g59.trans f63 fun q' hq hx => ?_⟩, by dsimp only; omega⟩
        · rcases List.mem_append.1 hy with hy | hy
          · exact hok y hy
          · exact hok2 y hy
        · rw [List.append_nil, flat_snoc, List.flatMap_append, hout2, hout, outD, List.take_add, ← hB, ← hT, same_part ho1 hm1 heq]
        · rw [← hbe, List.length_append, List.length_nil]; omega
        · rcases hx with ⟨y, hy, e⟩ | hx
          · exact (hM59.bo y hy).2.2 e.symm
          · exact hM59.nqr hx.symm
        · rcases hx with ⟨y, hy, e⟩ | hx
          · have := (hM59.oo.blk hy).1; omega
          · have := hM59.qb; omega
  · have hge := of_decide_eq_false hge
    have hi2 : i = x1.size := by omega
    have hps : ps.length ≤ 20000 := by have := congrArg List.length hout; rw [List.length_append, List.length_take] at this; omega
    refine (flush_spec hM hps (by omega) g24.size B).mono ?_
    rintro e w65 ⟨rfl, lp2, lo2, is2, hM65, hok2, hout2, hln2, f65⟩
    have g65 : Fr (fun _ => False) w w65 := g24.trans f65 fun q' hq hx => by
      rcases hx with ⟨y, hy, e⟩ | hx | hx
      · have := (hM.oo.blk hy).1; omega
      · have := hM.pb; omega
      · have := hM.qb; omega
    have hTi : T.take i = T := by rw [hi2, ← hTl, List.take_length]
    refine ⟨rfl, (sized_spec x0.size h0 w65).mono ?_⟩
    rintro e w67 ⟨l68, rfl, o68, f67⟩
    refine ⟨l68, rfl, (sized_spec x1.size h1 w67).mono ?_⟩
    rintro e w70 ⟨l71, rfl, o71, f70⟩
    have hl71 := o71.len
    rw [byteV_length] at hl71
    obtain ⟨w72, l73, hr72, o72, f72, s72⟩ := append_all' elByte (o68.keep f70 (by simp)) l71.cap o71.reads (byteV_one _) (by rw [byteV_length, byteV_length]; unfold maxLen; omega) (by rw [byteV_length, byteV_length]; omega) (f67.trans' f70).size (m := l71.len) (by rw [byteV_length]; omega)
    rw [← List.map_append, hhdr] at o72
    have f65_72 : Fr (fun _ => False) w65 w72 := (f67.trans' f70).trans f72 fun q' hq ⟨y, hy, e⟩ => by have := (o68.blk hy).1; omega
    refine ⟨l71, rfl, w72, l73, hr72, fun s l w' => ∃ (j : Nat) (is' : List Ins), s.data.toList = T.drop j ∧ j ≤ x1.size ∧ Vc.Own w' w65.heap.size T_uint8 l (byteV (hdr ++ is'.flatMap encD)) ∧ (∀ x ∈ is', okD B x) ∧ is'.flatMap (outD B) = T.take j ∧
        (hdr ++ is'.flatMap encD).length ≤ 4 + 2 * j ∧ Fr (fun _ => False) w65 w', fun s _ _ => s.size, ⟨0, [], by rw [hT]; rfl, Nat.zero_le _, by simpa using o72, by simp, rfl, by simpa using hhl, f65_72⟩, ?_⟩
    rintro s l w78 ⟨j, is', hs, hj, o78, hok', hout', hln', f78⟩
    have hsz : s.size = x1.size - j := by rw [← bs_len, hs, List.length_drop, hTl]
    have hl77 := o78.len
    rw [byteV_length] at hl77
    refine ⟨fun hgt w79 d79 => ?_, fun hle => ?_⟩
    · have hgt := of_decide_eq_true hgt
      obtain ⟨k, hk⟩ : ∃ k : Nat, k = min 127 s.size := ⟨_, rfl⟩
      have hkI : (if (127 : Int) < (s.size : Int) then (127 : Int) else (s.size : Int)) = (k : Int) := by split <;> omega
      rw [hkI, Int.toNat_natCast]
      refine ⟨fun _ => True, trivial, ⟨by omega, by omega⟩, fun w81 h81 => ⟨trivial, ?_⟩⟩
      rw [wrap_u8 (by omega) (by omega)] at h81
      have g79 : w65.heap.size ≤ w79.heap.size := (f78.trans' (.drew _ d79)).size
      obtain ⟨w82, l83, hr82, o82, f82, s82⟩ := append_one' elByte (o78.drew d79) (v := .int .u8 (k : Int)) rfl (by rw [byteV_length]; unfold maxLen; omega) (by rw [byteV_length]; omega) g79 h81
      rw [byteV_snoc _ _ (by omega)] at o82
      have hek : (s.extract 0 k).data.toList = (T.drop j).take k := by rw [bs_head, hs]
      have hekl : ((T.drop j).take k).length = k := by rw [List.length_take, List.length_drop]; omega
      have heks : (s.extract 0 k).size = k := by rw [← bs_len, hek, hekl]
      obtain ⟨w84, l85, hr84, o84, f84, s84⟩ := append_str (u := T_string) elByte (by kernel_rfl) o82 (s.extract 0 k) (by rw [byteV_length, List.length_append, heks, List.length_cons, List.length_nil]; omega) (Nat.le_trans g79 f82.size)
      refine ⟨w82, l83, hr82, trivial, w84, l85, hr84, trivial, ⟨by omega, by omega⟩, ⟨j + k, is' ++ [Ins.plain ((T.drop j).take k)], ?_, by omega, ?_, ok_snoc hok' ⟨by omega, by omega⟩, ?_, ?_, ?_⟩, ?_⟩
      · rw [bs_tail, hs, List.drop_drop]
      · rw [hek, ← List.map_append] at o84
        rw [flat_snoc, encD, hekl]
        rw [List.append_assoc, List.append_assoc] at o84
        exact o84
      · rw [flat_snoc, outD, hout', List.take_add]
      · rw [flat_snoc, ← List.append_assoc, List.length_append, encD, List.length_cons, hekl]; omega
      · refine ((f78.trans' (.drew _ d79)).trans f82 fun q' hq ⟨y, hy, e⟩ => by have := (o78.blk hy).1; omega).trans f84 fun q' hq ⟨y, hy, e⟩ => by have := (o82.blk hy).1; omega
      · have : (s.extract k s.size).size = s.size - k := by rw [← bs_len, bs_tail, List.length_drop, bs_len]
        dsimp only
        omega
    · have hle := of_decide_eq_false hle
      have hj2 : j = x1.size := by omega
      have hTj : T.take j = T := by rw [hj2, ← hTl, List.take_length]
      have hM78 := hM65.keep f78
      have hl86 := hM78.oo.len
      rw [byteV_length] at hl86
      refine ⟨lo2, hM78.cq, fun hlt => ?_, fun hlt => ?_⟩
      · refine ⟨w78, _, bytes_str (e := T_uint8) (by kernel_rfl) (by kernel_rfl) (by kernel_rfl) l.cap o78.reads (by omega), _, is', rfl, ⟨hok', by rw [hout', hTj], ?_⟩, ?_, g65.trans' f78⟩
        · rw [bs_mk, hBl, hTl, ← List.append_assoc, hhdr]
        · rw [bs_mksize]; omega
      · have hlt := of_decide_eq_false hlt
        refine ⟨lo2, hM78.cq, w78, _, bytes_str (e := T_uint8) (by kernel_rfl) (by kernel_rfl) (by kernel_rfl) lo2.cap hM78.oo.reads (by omega), _, is ++ is2, rfl, ⟨fun y hy => ?_, by rw [List.flatMap_append, hout2, hout, hTi], ?_⟩, ?_, g65.trans' f78⟩
        · rcases List.mem_append.1 hy with hy | hy
          · exact hok y hy
          · exact hok2 y hy
        · rw [bs_mk, hBl, hTl, ← List.append_assoc, hhdr, List.flatMap_append, List.append_assoc]
        · rw [bs_mksize]; omega
end Go.Proofs.YtcnpekohkbjnnaaGreatDoor

/- Functions that defer one closure behind some first statements: their formula, and that it is enough. No condition: for all programs. -/
set_option linter.unusedVariables false
namespace Vc
open Go

/-- A region that makes a closure and defers its call. -/
def deferOf : Code → Option (List Oper × Oper × Operand)
  | .region _ ops false => match ops.toList with
    | [o1, ⟨none, .defer ⟨.value x, args, _⟩, _, _, _, none⟩] => match args.toList with
      | [] => some (ops.toList, o1, x)
      | _ => none
    | _ => none
  | _ => none
theorem deferOf_spec {c : Code} {l : List Oper} {o1 : Oper} {x : Operand} (h : deferOf c = some (l, o1, x)) :
    ∃ id ops o2 args tys, c = .region id ops false ∧ l = ops.toList ∧ ops.toList = [o1, o2] ∧ o2.dst = none ∧ o2.op = .defer ⟨.value x, args, tys⟩ ∧ args.toList = [] ∧ o2.guard = none := by
  unfold deferOf at h
  split at h
  · rename_i id ops
    split at h
    · rename_i o1' x' args tys ty pos after hl
      split at h
      · rename_i ha
        simp only [Option.some.injEq, Prod.mk.injEq] at h
        obtain ⟨rfl, rfl, rfl⟩ := h
        exact ⟨id, ops, _, args, tys, rfl, rfl, hl, rfl, rfl, ha, rfl⟩
      · cases h
    · cases h
  · cases h
section
variable (P : Program) (ty : Nat → Sh) (N : Nat) (ann : Ann)
/-- The formula of such a function's body; K knows what is deferred. -/
def WD : Code → Env → World → (Option (FuncId × Array Value) → Ex → Env → World → Prop) → Prop
  | .seq x y, e, w, K => match deferOf x with
    | some (ops, o1, z) => wOps P ty N .full ops [o1] e w fun e' w' => match has e' z with
      | false => False
      | true => match pureRun P (Deferred.ofValue (vl e' z) #[]) with
        | some d => match d.target with
          | .fn _ _ => match pureRun P (invoke d.target d.args) with
            | some (.enter f args) => W P ty N ann y e' w' fun x e'' w'' => K (some (f, args)) x e'' w''
            | _ => False
          | _ => False
        | none => False
    | none => W P ty N ann x e w fun x' e' w' => match x' with
      | .n => WD y e' w' K
      | x' => K none x' e' w'
  | _, _, _, _ => False
end
theorem WD_sound {P : Program} {ty : Nat → Sh} {N : Nat} {ann : Ann} (hm : P.follows .mixedOrders = true) : ∀ (c : Code) (e : Env) (w : World) (K : Option (FuncId × Array Value) → Ex → Env → World → Prop), WD P ty N ann c e w K →
    ∀ (a : Act) (Q : Exit → Act → World → Prop), Sub [] N e a → (∀ x e' w' a', K none x e' w' → Sub [] N e' a' → Q x.exit a' w') →
    (∀ f args d x e' w' a', K (some (f, args)) x e' w' → pureRun P (invoke d.target d.args) = some (.enter f args) → (∃ fv cap, d.target = .fn fv cap) → Sub [d] N e' a' → Q x.exit a' w') → c.wp P Q a w
  | .seq x y, e, w, K, h, a, Q, hs, hk, hd => by
    simp only [WD] at h
    split at h
    · rename_i l o1 z hdo
      obtain ⟨id, ops, o2, args, tys, rfl, rfl, hl, hdst, hop, hargs, hg⟩ := deferOf_spec hdo
      refine wp_seq (wp_region_list ?_)
      have step2 : ∀ (e' : Env) (w' : World) (a' : Act), Sub [] N e' a' → (match has e' z with
          | false => False
          | true => match pureRun P (Deferred.ofValue (vl e' z) #[]) with
            | some d => match d.target with
              | .fn _ _ => match pureRun P (invoke d.target d.args) with
                | some (.enter f args) => W P ty N ann y e' w' fun x e'' w'' => K (some (f, args)) x e'' w''
                | _ => False
              | _ => False
            | none => False) → wpList P ops (Exit.then (y.wp P Q) Q) [o2] a' w' := by
        intro e' w' a' hs' h'
        have hwant : Region.wanted o2 (yielded ops a'.tmps) = true := by simp [Region.wanted, hg]
        unfold wpList
        rw [if_pos hwant]
        refine .inl ?_
        split at h'
        · exact h'.elim
        rename_i hhas
        split at h'
        · rename_i d hpd
          split at h'
          · rename_i fv cap htar
            split at h'
            · rename_i f fargs hpi
              have hev : a'.eval z = vl e' z := hs'.vl hhas
              have hrun : (execOp a'.eval o2).run P w' = .ok (.defer d) w' := by
                have hr := pureRun_spec hpd w'
                have ha0 : args = #[] := by cases args; simp_all
                simp [execOp, hop, resolve, ha0, hev, hr, Result.andThen]
              unfold Oper.wp
              rw [hrun, Oper.upon_defer, hdst]
              unfold wpList
              have hsd : Sub [d] N e' { a' with defers := d :: a'.defers } := ⟨hs'.size, by rw [hs'.defers], hs'.at_⟩
              exact W_sound hm y e' w' _ h' _ Q hsd fun x e'' w'' a'' g1 _ g3 => hd f fargs d x e'' w'' a'' g1 hpi ⟨fv, cap, htar⟩ g3
            · exact h'.elim
          · exact h'.elim
        · exact h'.elim
      rw [hl]
      rw [hl] at h
      refine wGuard_open h hs (fun e1 he hs1 hw h => ?_) (fun e1 he hs1 hf hw h => ?_)
      · rw [← hl] at hw
        have hw : Region.wanted o1 (yielded ops a.tmps) = true := by simpa using hw
        unfold wpList; rw [if_pos hw]
        exact .inl (wStep_sound h hs1 fun v w' a' hh hs' => step2 _ w' a' hs' hh)
      · rw [← hl] at hw
        have hw : Region.wanted o1 (yielded ops a.tmps) = false := by simpa using hw
        unfold wpList; rw [if_neg (by simp [hw])]
        exact step2 _ w _ (hs1.put (v := (undef, false)) hf) h
    · refine wp_seq (W_sound hm x e w _ h a _ hs fun x e' w' a' h1 h2 h3 => ?_)
      cases x with
      | n => exact WD_sound hm y e' w' K h1 a' Q h3 hk hd
      | x i => exact hk (.x i) _ _ _ h1 h3
      | g i => exact hk (.g i) _ _ _ h1 h3
      | r => exact hk .r _ _ _ h1 h3
  | .skip, e, w, K, h, _, _, _, _, _ => h.elim
  | .region .., e, w, K, h, _, _, _, _, _ => h.elim
  | .cond .., e, w, K, h, _, _, _, _, _ => h.elim
  | .block .., e, w, K, h, _, _, _, _, _ => h.elim
  | .loop .., e, w, K, h, _, _, _, _, _ => h.elim
  | .exit .., e, w, K, h, _, _, _, _, _ => h.elim
  | .label .., e, w, K, h, _, _, _, _, _ => h.elim
  | .goto .., e, w, K, h, _, _, _, _, _ => h.elim
  | .ret, e, w, K, h, _, _, _, _, _ => h.elim
  | .rangeFunc .., e, w, K, h, _, _, _, _, _ => h.elim
  | .refuse .., e, w, K, h, _, _, _, _, _ => h.elim
  | .scope .., e, w, K, h, _, _, _, _, _ => h.elim
section
variable (P : Program) (ty : Nat → Sh) (ann : Ann)
/-- What the deferred closure is to do where the function returns: return itself, and leave behind what the function hands back. -/
def BodyD (fn : Func) (c : Code) (args : List (Value × Bool)) (w : World) (R : Value → World → Prop) : Prop :=
  WD P ty fn.ntmps ann c (envOf args 0) w fun D x e w' =>
    (match x with
    | .n | .r => match D with
      | none => answer P ty fn R e w'
      | some (f, fargs) => CallsD P f fargs .returning w' fun en u w'' => (∃ v, en = .returned v) ∧ u = .returning ∧ answer P ty fn R e w''
    | _ => False)
end
/-- THE FORMULA IS ENOUGH. -/
theorem calls_of_bodyD {P : Program} {ty : Nat → Sh} {ann : Ann} {f : FuncId} {fn : Func} {c : Code} {vs : List (Value × Bool)} {w : World} {R : Value → World → Prop} {R' : Ending → World → Prop}
    (hm : P.follows .mixedOrders = true) (hf : P.funcs[f]? = some fn) (hb : fn.body = some c) (hn : Nat.ble vs.length fn.ntmps = true)
    (h : BodyD P ty ann fn c vs w R) (hR : ∀ v w', R v w' → R' (.returned v) w') : Calls P f (firsts vs).toArray w R' := by
  have hlen : ∀ l : List (Value × Bool), (firsts l).length = l.length := fun l => by induction l with
    | nil => rfl
    | cons v r ih => simp [firsts, ih]
  have hn' : vs.length ≤ fn.ntmps := Nat.le_of_ble_eq_true hn
  have out : ∀ (D : List Deferred) (e : Env) (a : Act) (w' : World), Sub D fn.ntmps e a → answer P ty fn R e w' → ∃ v, (results fn a.tmps).run P w' = .ok v w' ∧ R' (.returned v) w' := fun D e a w' hs h1 => by
    obtain ⟨vs, hR1, hl, hv⟩ := ans_out hs _ _ h1
    refine ⟨tupled vs, ?_, hR _ _ hR1⟩
    have hmap := run_mapM (P := P) (w := w') hl hv
    have hres : results fn a.tmps = (fn.results.mapM (resAt a.tmps)) >>= fun vs => pure (if h : vs.size = 1 then vs[0] else .tuple vs) := by
      unfold results; congr 1
    rw [hres, Array.mapM_eq_mapM_toList]
    simp only [Sem.run_bind, Sem.run_map, hmap]
    match vs with
    | [] => rfl
    | [v] => rfl
    | v :: u :: r => rfl
  have hsub : Sub [] fn.ntmps (envOf vs 0) { tmps := (firsts vs).toArray ++ Array.replicate (fn.ntmps - (firsts vs).toArray.size) undef, defers := [] } := by
    refine ⟨by simp [hlen]; omega, rfl, fun t v hv => ?_⟩
    obtain ⟨_, h2⟩ := get_envOf vs 0 t v hv
    have h2' : (firsts vs)[t]? = some v.1 := by simpa using h2
    have hlt := (List.getElem?_eq_some_iff.1 h2').1
    simp only
    rw [Array.getElem?_append_left (by simpa using hlt)]
    simpa using h2'
  refine calls_of_wp_defers hf hb (WD_sound hm c _ w _ h _ _ hsub (fun x e' w' a' h1 h3 => ?_) (fun g args d x e' w' a' h1 hi ⟨fv, cap, ht⟩ h3 => ?_))
  · have key : answer P ty fn R e' w' → Leaves P fn a'.tmps R' a'.defers .returning w' := fun h1 => by
      rw [h3.defers]
      exact out _ _ _ _ h3 h1
    cases x with
    | n => exact key h1
    | r => exact key h1
    | x i => exact h1.elim
    | g i => exact h1.elim
  · have key : (CallsD P g args .returning w' fun en u w'' => (∃ v, en = .returned v) ∧ u = .returning ∧ answer P ty fn R e' w'') → Leaves P fn a'.tmps R' a'.defers .returning w' := fun h1 => by
      rw [h3.defers]
      obtain ⟨dt, da⟩ := d
      simp only at ht
      subst ht
      refine leaves_cons (by simp) (pureRun_spec hi w') (h1.mono fun en u w'' ⟨⟨v, hv⟩, hu, ha⟩ => ?_)
      subst hv hu
      exact out _ _ _ _ h3 ha
    cases x with
    | n => exact key h1
    | r => exact key h1
    | x i => exact h1.elim
    | g i => exact h1.elim
end Vc

/- The closure that a function defers, walked where nothing panics: operations that ask nothing of the world, and recover. No condition: for all programs. -/
set_option linter.unusedVariables false
namespace Vc
open Go
section
variable {P : Program} {ops : Array Oper} {Q : Exit → Act → List Frame → World → Prop}
/-- An operation that asks nothing of the world. -/
def stepS (P : Program) (ops : Array Oper) (i : Nat) (a : Act) : Option Act := match ops[i]? with
  | none => none
  | some o => match Region.wanted o (yielded ops a.tmps) with
    | false => none
    | true => match pureRun P (execOp a.eval o) with
      | some (.value v) => some (a.put o.dst v)
      | _ => none
def stepsS (P : Program) (ops : Array Oper) : List Nat → Act → Option Act
  | [], a => some a
  | i :: r, a => match stepS P ops i a with
    | some a' => stepsS P ops r a'
    | none => none
theorem stepS_spec {i : Nat} {a a' : Act} (h : stepS P ops i a = some a') {rest : List Nat} {cs : List Frame} {w : World} (hq : wpOpsS P ops Q rest a' cs w) : wpOpsS P ops Q (i :: rest) a cs w := by
  unfold stepS at h
  unfold wpOpsS
  split at h
  · cases h
  rename_i o ho
  simp only [ho]
  split at h
  · cases h
  rename_i hw
  rw [if_pos hw]
  split at h
  · rename_i v hv
    cases h
    rw [pureRun_spec hv w]
    exact hq
  · cases h
theorem stepsS_spec : ∀ {l : List Nat} {a a' : Act} (h : stepsS P ops l a = some a') {cs : List Frame} {w : World} (hq : Q .normal a' cs w), wpOpsS P ops Q l a cs w
  | [], a, a', h, cs, w, hq => by cases h; exact hq
  | i :: r, a, a', h, cs, w, hq => by
    simp only [stepsS] at h
    split at h
    · rename_i b hb
      exact stepS_spec hb (stepsS_spec h hq)
    · cases h
/-- recover. -/
theorem recS_spec {i : Nat} {o : Oper} {ct : Array TypeId} (hi : ops[i]? = some o) (ho : o.op = .call ⟨.builtin .recover, #[], ct⟩) (hg : o.guard = none) {rest : List Nat} {a a' : Act} {cs cs' : List Frame} {w : World}
    (h : (match recoverD cs with | some (v, cs'') => a' = a.put o.dst v ∧ cs' = cs'' | none => a' = a.put o.dst .nilIface ∧ cs' = cs)) (hq : wpOpsS P ops Q rest a' cs' w) : wpOpsS P ops Q (i :: rest) a cs w := by
  unfold wpOpsS
  simp only [hi]
  rw [if_pos (by simp [Region.wanted, hg])]
  have hr : (execOp a.eval o).run P w = .ok .recover w := by
    simp [execOp, ho, resolve]
    rfl
  rw [hr]
  simp only
  cases hc : recoverD cs with
  | none =>
    simp only [hc] at h
    obtain ⟨rfl, rfl⟩ := h
    exact hq
  | some p =>
    obtain ⟨v, cs''⟩ := p
    simp only [hc] at h
    obtain ⟨rfl, rfl⟩ := h
    exact hq
end
end Vc

/- Formulas of 5 Go functions of this seat (written by a program of the author's, vcgen.py), and that each is enough for the call. No condition. -/
set_option linter.unusedVariables false
namespace Go.Proofs.YtcnpekohkbjnnaaGreatDoor
open Go Vc Go.Proofs
set_option maxRecDepth 100000
/-- (*delta.reader).byte -/
def vc_delta_reader_byte (x0 : Nat) (w : World) (R : Value → World → Prop) : Prop :=
  ∃ I1 : World → Prop, ((∃ n2 : Int, (World.cell? w (Addr.mk x0 1 none) = some (Value.int IntKind.i64 n2) ∧
    ∃ s3 : ByteArray, (World.cell? w (Addr.mk x0 0 none) = some (Value.string s3) ∧
     ∀ w4 : World,
     (Drew w w4 →
       ((((n2 == (↑(ByteArray.size s3) : Int)) = true →
          False)) ∧
        ((n2 == (↑(ByteArray.size s3) : Int)) = false →
          I1 w4)))))) ∧
   ∀ w5 : World,
   (I1 w5 →
     ∃ n6 : Int, (World.cell? w5 (Addr.mk x0 1 none) = some (Value.int IntKind.i64 n6) ∧
      (Wr w5 (Addr.mk x0 1 none) ∧
       ∀ w7 : World,
       (w7 = World.setCell w5 (Addr.mk x0 1 none) (Value.int IntKind.i64 (IntKind.wrap IntKind.i64 (n6 + 1))) →
         ∃ s8 : ByteArray, (World.cell? w7 (Addr.mk x0 0 none) = some (Value.string s8) ∧
          ∃ n9 : Int, (World.cell? w7 (Addr.mk x0 1 none) = some (Value.int IntKind.i64 n9) ∧
           ((0 ≤ IntKind.wrap IntKind.i64 (n9 - 1) ∧
             IntKind.wrap IntKind.i64 (n9 - 1) < (↑(ByteArray.size s8) : Int)) ∧
            ∀ w10 : World,
            (Drew w7 w10 →
              R (Value.int IntKind.i64 (IntKind.wrap IntKind.i64 (byteAt s8 (IntKind.wrap IntKind.i64 (n9 - 1))))) w10)))))))))
theorem vc_delta_reader_byte_ok {x0 : Nat} {w : World} {R : Value → World → Prop} {R' : Ending → World → Prop} (h : vc_delta_reader_byte x0 w R) (hR : ∀ v w', R v w' → R' (.returned v) w') :
    Calls Tryz.prog 30 #[.pointer (some ⟨x0, 0, none⟩)] w R' :=
  calls_of_body (vs := [(.pointer (some ⟨x0, 0, none⟩), true)]) (ty := ty) (ann := ⟨[(3, [])], [], [(1, .quiet), (4, .quiet)], []⟩) (c := Tryz.f30.body.getD .skip) (by kernel_rfl) Tryz.func30 (by kernel_rfl) (by kernel_rfl) (Eq.mp (by kernel_rfl) h) hR
/-- (*delta.reader).size -/
def vc_delta_reader_size (x0 : Nat) (w : World) (R : Value → World → Prop) : Prop :=
  ∃ I1 : Int → Int → World → Prop, ∃ I2 : Int → Int → World → Nat, (I1 0 0 w ∧
   ∀ n3 : Int,
   ∀ n4 : Int,
   ∀ w5 : World,
   (I1 n3 n4 w5 →
     Calls Tryz.prog (30 : Nat) (Array.mk [Value.pointer (some (Addr.mk x0 0 none))]) (w5) (fun e6 w7 =>
       ∃ n8 : Int, (e6 = Ending.returned (Value.int IntKind.i64 n8) ∧
        (((decide (n4 > 28) = true →
           False)) ∧
         (decide (n4 > 28) = false →
           (0 ≤ n4 ∧
            (((decide (n8 < 128) = true →
               R (Value.int IntKind.i64 (IntKind.wrap IntKind.i64 (↑(BitVec.toNat (BitVec.ofInt 64 n3 ||| BitVec.ofInt 64 (IntKind.wrap IntKind.i64 (IntKind.wrap IntKind.i64 (↑(BitVec.toNat (BitVec.ofInt 64 n8 &&& BitVec.ofInt 64 127)) : Int) * 2 ^ min (Int.toNat n4) 64)))) : Int))) w7)) ∧
             (decide (n8 < 128) = false →
               (I1 (IntKind.wrap IntKind.i64 (↑(BitVec.toNat (BitVec.ofInt 64 n3 ||| BitVec.ofInt 64 (IntKind.wrap IntKind.i64 (IntKind.wrap IntKind.i64 (↑(BitVec.toNat (BitVec.ofInt 64 n8 &&& BitVec.ofInt 64 127)) : Int) * 2 ^ min (Int.toNat n4) 64)))) : Int)) (IntKind.wrap IntKind.i64 (n4 + 7)) w7 ∧
                I2 (IntKind.wrap IntKind.i64 (↑(BitVec.toNat (BitVec.ofInt 64 n3 ||| BitVec.ofInt 64 (IntKind.wrap IntKind.i64 (IntKind.wrap IntKind.i64 (↑(BitVec.toNat (BitVec.ofInt 64 n8 &&& BitVec.ofInt 64 127)) : Int) * 2 ^ min (Int.toNat n4) 64)))) : Int)) (IntKind.wrap IntKind.i64 (n4 + 7)) w7 < I2 n3 n4 w5))))))))))
theorem vc_delta_reader_size_ok {x0 : Nat} {w : World} {R : Value → World → Prop} {R' : Ending → World → Prop} (h : vc_delta_reader_size x0 w R) (hR : ∀ v w', R v w' → R' (.returned v) w') :
    Calls Tryz.prog 57 #[.pointer (some ⟨x0, 0, none⟩)] w R' :=
  calls_of_body (vs := [(.pointer (some ⟨x0, 0, none⟩), true)]) (ty := ty) (ann := ⟨[], [(2, [(3, .int .i64), (4, .int .i64)])], [], []⟩) (c := Tryz.f57.body.getD .skip) (by kernel_rfl) Tryz.func57 (by kernel_rfl) (by kernel_rfl) (Eq.mp (by kernel_rfl) h) hR
/-- (*delta.reader).copied -/
def vc_delta_reader_copied (x0 : Nat) (x1 : Int) (w : World) (R : Value → World → Prop) : Prop :=
  ∃ I1 : Int → Int → Int → World → Prop, ∃ I2 : Int → Int → Int → World → Nat, (I1 0 0 0 w ∧
   ∀ n3 : Int,
   ∀ n4 : Int,
   ∀ n5 : Int,
   ∀ w6 : World,
   (I1 n3 n4 n5 w6 →
     (((decide (n5 < 7) = true →
        (0 ≤ n5 ∧
         ((((IntKind.wrap IntKind.i64 (↑(BitVec.toNat (BitVec.ofInt 64 (Int.fdiv x1 (2 ^ min (Int.toNat n5) 64)) &&& BitVec.ofInt 64 1)) : Int) == 0) = true →
            (I1 n3 n4 (IntKind.wrap IntKind.i64 (n5 + 1)) w6 ∧
             I2 n3 n4 (IntKind.wrap IntKind.i64 (n5 + 1)) w6 < I2 n3 n4 n5 w6))) ∧
          ((IntKind.wrap IntKind.i64 (↑(BitVec.toNat (BitVec.ofInt 64 (Int.fdiv x1 (2 ^ min (Int.toNat n5) 64)) &&& BitVec.ofInt 64 1)) : Int) == 0) = false →
            Calls Tryz.prog (30 : Nat) (Array.mk [Value.pointer (some (Addr.mk x0 0 none))]) (w6) (fun e7 w8 =>
              ∃ n9 : Int, (e7 = Ending.returned (Value.int IntKind.i64 n9) ∧
               (((decide (n5 < 4) = true →
                  (0 ≤ IntKind.wrap IntKind.i64 (8 * n5) ∧
                   (I1 (IntKind.wrap IntKind.i64 (↑(BitVec.toNat (BitVec.ofInt 64 n3 ||| BitVec.ofInt 64 (IntKind.wrap IntKind.i64 (n9 * 2 ^ min (Int.toNat (IntKind.wrap IntKind.i64 (8 * n5))) 64)))) : Int)) n4 (IntKind.wrap IntKind.i64 (n5 + 1)) w8 ∧
                    I2 (IntKind.wrap IntKind.i64 (↑(BitVec.toNat (BitVec.ofInt 64 n3 ||| BitVec.ofInt 64 (IntKind.wrap IntKind.i64 (n9 * 2 ^ min (Int.toNat (IntKind.wrap IntKind.i64 (8 * n5))) 64)))) : Int)) n4 (IntKind.wrap IntKind.i64 (n5 + 1)) w8 < I2 n3 n4 n5 w6)))) ∧
                (decide (n5 < 4) = false →
                  (0 ≤ IntKind.wrap IntKind.i64 (8 * IntKind.wrap IntKind.i64 (n5 - 4)) ∧
                   (I1 n3 (IntKind.wrap IntKind.i64 (↑(BitVec.toNat (BitVec.ofInt 64 n4 ||| BitVec.ofInt 64 (IntKind.wrap IntKind.i64 (n9 * 2 ^ min (Int.toNat (IntKind.wrap IntKind.i64 (8 * IntKind.wrap IntKind.i64 (n5 - 4)))) 64)))) : Int)) (IntKind.wrap IntKind.i64 (n5 + 1)) w8 ∧
                    I2 n3 (IntKind.wrap IntKind.i64 (↑(BitVec.toNat (BitVec.ofInt 64 n4 ||| BitVec.ofInt 64 (IntKind.wrap IntKind.i64 (n9 * 2 ^ min (Int.toNat (IntKind.wrap IntKind.i64 (8 * IntKind.wrap IntKind.i64 (n5 - 4)))) 64)))) : Int)) (IntKind.wrap IntKind.i64 (n5 + 1)) w8 < I2 n3 n4 n5 w6))))))))))) ∧
      (decide (n5 < 7) = false →
        ((((n4 == 0) = true →
           R (Value.tuple (Array.mk [Value.int IntKind.i64 n3, Value.int IntKind.i64 65536])) w6)) ∧
         ((n4 == 0) = false →
           R (Value.tuple (Array.mk [Value.int IntKind.i64 n3, Value.int IntKind.i64 n4])) w6))))))
theorem vc_delta_reader_copied_ok {x0 : Nat} {x1 : Int} {w : World} {R : Value → World → Prop} {R' : Ending → World → Prop} (h : vc_delta_reader_copied x0 x1 w R) (hR : ∀ v w', R v w' → R' (.returned v) w') :
    Calls Tryz.prog 31 #[.pointer (some ⟨x0, 0, none⟩), .int .i64 x1] w R' :=
  calls_of_body (vs := [(.pointer (some ⟨x0, 0, none⟩), true), (.int .i64 x1, false)]) (ty := ty) (ann := ⟨[], [(3, [(6, .int .i64), (7, .int .i64), (10, .int .i64)])], [], []⟩) (c := Tryz.f31.body.getD .skip) (by kernel_rfl) Tryz.func31 (by kernel_rfl) (by kernel_rfl) (Eq.mp (by kernel_rfl) h) hR
/-- delta.Sizes -/
def vc_delta_Sizes (x0 : ByteArray) (w : World) (R : Value → World → Prop) : Prop :=
  ∀ w1 : World,
  (w1 = World.alloc w (Obj.cells (Array.mk [Value.int IntKind.i64 0]) 3) →
    ∀ w2 : World,
    (w2 = World.alloc w1 (Obj.cells (Array.mk [Value.int IntKind.i64 0]) 3) →
      ∀ w3 : World,
      (w3 = World.alloc w2 (Obj.cells (Array.mk [Value.int IntKind.i64 0]) 3) →
        ∀ w4 : World,
        (w4 = World.alloc w3 (Obj.cells (Array.mk [Value.int IntKind.i64 0]) 26) →
          ∀ w5 : World,
          (w5 = World.alloc w4 (Obj.cells (Array.mk [Value.string x0, Value.int IntKind.i64 0]) 65) →
            Calls Tryz.prog (57 : Nat) (Array.mk [Value.pointer (some (Addr.mk (Array.size (World.heap w4)) 0 none))]) (w5) (fun e6 w7 =>
              ∃ n8 : Int, (e6 = Ending.returned (Value.int IntKind.i64 n8) ∧
               Calls Tryz.prog (57 : Nat) (Array.mk [Value.pointer (some (Addr.mk (Array.size (World.heap w4)) 0 none))]) (w7) (fun e9 w10 =>
                 ∃ n11 : Int, (e9 = Ending.returned (Value.int IntKind.i64 n11) ∧
                  (Wr w10 (Addr.mk (Array.size (World.heap w)) 0 none) ∧
                   ∀ w12 : World,
                   (w12 = World.setCell w10 (Addr.mk (Array.size (World.heap w)) 0 none) (Value.int IntKind.i64 n8) →
                     (Wr w12 (Addr.mk (Array.size (World.heap w1)) 0 none) ∧
                      ∀ w13 : World,
                      (w13 = World.setCell w12 (Addr.mk (Array.size (World.heap w1)) 0 none) (Value.int IntKind.i64 n11) →
                        ∀ w14 : World,
                        (Drew w13 w14 →
                          ∃ I15 : World → Prop, (I15 w14 ∧
                           ∃ n16 : Int, ((∀ w17 : World,
                            (I15 w17 →
                              World.cell? w17 (Addr.mk (Array.size (World.heap w)) 0 none) = some (Value.int IntKind.i64 n16))) ∧
                            ∃ n18 : Int, ((∀ w19 : World,
                             (I15 w19 →
                               World.cell? w19 (Addr.mk (Array.size (World.heap w1)) 0 none) = some (Value.int IntKind.i64 n18))) ∧
                             ∃ n20 : Int, ((∀ w21 : World,
                              (I15 w21 →
                                World.cell? w21 (Addr.mk (Array.size (World.heap w4)) 1 none) = some (Value.int IntKind.i64 n20))) ∧
                              (Wr w14 (Addr.mk (Array.size (World.heap w)) 0 none) ∧
                               ∀ w22 : World,
                               (w22 = World.setCell w14 (Addr.mk (Array.size (World.heap w)) 0 none) (Value.int IntKind.i64 n16) →
                                 (I15 w22 ∧
                                  (Wr w22 (Addr.mk (Array.size (World.heap w1)) 0 none) ∧
                                   ∀ w23 : World,
                                   (w23 = World.setCell w22 (Addr.mk (Array.size (World.heap w1)) 0 none) (Value.int IntKind.i64 n18) →
                                     (I15 w23 ∧
                                      (Wr w23 (Addr.mk (Array.size (World.heap w2)) 0 none) ∧
                                       ∀ w24 : World,
                                       (w24 = World.setCell w23 (Addr.mk (Array.size (World.heap w2)) 0 none) (Value.int IntKind.i64 n20) →
                                         (I15 w24 ∧
                                          (Wr w24 (Addr.mk (Array.size (World.heap w3)) 0 none) ∧
                                           ∀ w25 : World,
                                           (w25 = World.setCell w24 (Addr.mk (Array.size (World.heap w3)) 0 none) (Value.int IntKind.i64 0) →
                                             CallsD Tryz.prog (56 : Nat) (Array.mk [Value.pointer (some (Addr.mk (Array.size (World.heap w)) 0 none)), Value.pointer (some (Addr.mk (Array.size (World.heap w1)) 0 none)), Value.pointer (some (Addr.mk (Array.size (World.heap w2)) 0 none)), Value.pointer (some (Addr.mk (Array.size (World.heap w3)) 0 none))]) (FrameMode.returning) (w25) (fun e26 z27 w28 =>
                                               ((∃ v29 : Value, e26 = Ending.returned v29) ∧
                                                (z27 = FrameMode.returning ∧
                                                 ∃ n30 : Int, (Sem.run Tryz.prog (loadVar 3 (Addr.mk (Array.size (World.heap w)) 0 none)) w28 = Result.ok (Value.int IntKind.i64 n30) w28 ∧
                                                  ∃ n31 : Int, (Sem.run Tryz.prog (loadVar 3 (Addr.mk (Array.size (World.heap w1)) 0 none)) w28 = Result.ok (Value.int IntKind.i64 n31) w28 ∧
                                                   ∃ n32 : Int, (Sem.run Tryz.prog (loadVar 3 (Addr.mk (Array.size (World.heap w2)) 0 none)) w28 = Result.ok (Value.int IntKind.i64 n32) w28 ∧
                                                    ∃ n33 : Int, (Sem.run Tryz.prog (loadVar 26 (Addr.mk (Array.size (World.heap w3)) 0 none)) w28 = Result.ok (Value.int IntKind.i64 n33) w28 ∧
                                                     R (Value.tuple (Array.mk [Value.int IntKind.i64 n30, Value.int IntKind.i64 n31, Value.int IntKind.i64 n32, Value.int IntKind.i64 n33])) w28))))))))))))))))))))))))))))))))))))
theorem vc_delta_Sizes_ok {x0 : ByteArray} {w : World} {R : Value → World → Prop} {R' : Ending → World → Prop} (h : vc_delta_Sizes x0 w R) (hR : ∀ v w', R v w' → R' (.returned v) w') :
    Calls Tryz.prog 28 #[.string x0] w R' :=
  calls_of_bodyD (vs := [(.string x0, false)]) (ty := ty) (ann := ⟨[], [], [(4, .held [(0, true), (1, true), (2, true), (3, true), (4, true), (5, true), (6, false), (7, false), (8, false), (9, false)])], []⟩) (c := Tryz.f28.body.getD .skip) (by kernel_rfl) Tryz.func28 (by kernel_rfl) (by kernel_rfl) (Eq.mp (by kernel_rfl) h) hR
/-- delta.Apply -/
def vc_delta_Apply (x0 : ByteArray) (x1 : ByteArray) (x2 : Int) (w : World) (R : Value → World → Prop) : Prop :=
  ∀ w1 : World,
  (w1 = World.alloc w (Obj.cells (Array.mk [Value.string (ByteArray.mk (Array.mk []))]) 9) →
    ∀ w2 : World,
    (w2 = World.alloc w1 (Obj.cells (Array.mk [Value.int IntKind.i64 0]) 26) →
      Calls Tryz.prog (28 : Nat) (Array.mk [Value.string x1]) (w2) (fun e3 w4 =>
        ∃ n5 : Int, ∃ n6 : Int, ∃ n7 : Int, ∃ n8 : Int, (e3 = Ending.returned (Value.tuple (Array.mk [Value.int IntKind.i64 n5, Value.int IntKind.i64 n6, Value.int IntKind.i64 n7, Value.int IntKind.i64 n8])) ∧
         (Wr w4 (Addr.mk (Array.size (World.heap w1)) 0 none) ∧
          ∀ w9 : World,
          (w9 = World.setCell w4 (Addr.mk (Array.size (World.heap w1)) 0 none) (Value.int IntKind.i64 n8) →
            ∃ n10 : Int, (World.cell? w9 (Addr.mk (Array.size (World.heap w1)) 0 none) = some (Value.int IntKind.i64 n10) ∧
             ((((n10 != 0) = true →
                ∀ w11 : World,
                (Drew w9 w11 →
                  ∃ I12 : World → Prop, (I12 w11 ∧
                   ∃ n13 : Int, ((∀ w14 : World,
                    (I12 w14 →
                      World.cell? w14 (Addr.mk (Array.size (World.heap w1)) 0 none) = some (Value.int IntKind.i64 n13))) ∧
                    (Wr w11 (Addr.mk (Array.size (World.heap w)) 0 none) ∧
                     ∀ w15 : World,
                     (w15 = World.setCell w11 (Addr.mk (Array.size (World.heap w)) 0 none) (Value.string (ByteArray.mk (Array.mk []))) →
                       (I12 w15 ∧
                        (Wr w15 (Addr.mk (Array.size (World.heap w1)) 0 none) ∧
                         ∀ w16 : World,
                         (w16 = World.setCell w15 (Addr.mk (Array.size (World.heap w1)) 0 none) (Value.int IntKind.i64 n13) →
                           ∃ s17 : ByteArray, (Sem.run Tryz.prog (loadVar 9 (Addr.mk (Array.size (World.heap w)) 0 none)) w16 = Result.ok (Value.string s17) w16 ∧
                            ∃ n18 : Int, (Sem.run Tryz.prog (loadVar 26 (Addr.mk (Array.size (World.heap w1)) 0 none)) w16 = Result.ok (Value.int IntKind.i64 n18) w16 ∧
                             R (Value.tuple (Array.mk [Value.string s17, Value.int IntKind.i64 n18])) w16)))))))))))) ∧
              ((n10 != 0) = false →
                ((((n5 != (↑(ByteArray.size x0) : Int)) = true →
                   (Wr w9 (Addr.mk (Array.size (World.heap w)) 0 none) ∧
                    ∀ w19 : World,
                    (w19 = World.setCell w9 (Addr.mk (Array.size (World.heap w)) 0 none) (Value.string (ByteArray.mk (Array.mk []))) →
                      (Wr w19 (Addr.mk (Array.size (World.heap w1)) 0 none) ∧
                       ∀ w20 : World,
                       (w20 = World.setCell w19 (Addr.mk (Array.size (World.heap w1)) 0 none) (Value.int IntKind.i64 4) →
                         ∃ s21 : ByteArray, (Sem.run Tryz.prog (loadVar 9 (Addr.mk (Array.size (World.heap w)) 0 none)) w20 = Result.ok (Value.string s21) w20 ∧
                          ∃ n22 : Int, (Sem.run Tryz.prog (loadVar 26 (Addr.mk (Array.size (World.heap w1)) 0 none)) w20 = Result.ok (Value.int IntKind.i64 n22) w20 ∧
                           R (Value.tuple (Array.mk [Value.string s21, Value.int IntKind.i64 n22])) w20)))))))) ∧
                 ((n5 != (↑(ByteArray.size x0) : Int)) = false →
                   (((decide (n6 > x2) = true →
                      (Wr w9 (Addr.mk (Array.size (World.heap w)) 0 none) ∧
                       ∀ w23 : World,
                       (w23 = World.setCell w9 (Addr.mk (Array.size (World.heap w)) 0 none) (Value.string (ByteArray.mk (Array.mk []))) →
                         (Wr w23 (Addr.mk (Array.size (World.heap w1)) 0 none) ∧
                          ∀ w24 : World,
                          (w24 = World.setCell w23 (Addr.mk (Array.size (World.heap w1)) 0 none) (Value.int IntKind.i64 2) →
                            ∃ s25 : ByteArray, (Sem.run Tryz.prog (loadVar 9 (Addr.mk (Array.size (World.heap w)) 0 none)) w24 = Result.ok (Value.string s25) w24 ∧
                             ∃ n26 : Int, (Sem.run Tryz.prog (loadVar 26 (Addr.mk (Array.size (World.heap w1)) 0 none)) w24 = Result.ok (Value.int IntKind.i64 n26) w24 ∧
                              R (Value.tuple (Array.mk [Value.string s25, Value.int IntKind.i64 n26])) w24)))))))) ∧
                    (decide (n6 > x2) = false →
                      ∀ w27 : World,
                      (w27 = World.alloc w9 (Obj.cells (Array.mk [Value.string x1, Value.int IntKind.i64 n7]) 65) →
                        ∃ I28 : Sl → World → Prop, ∃ I29 : Sl → World → Nat, (I28 (Sl.mk none 0 0) w27 ∧
                         ∀ l30 : Sl,
                         ∀ w31 : World,
                         (I28 l30 w31 →
                           ∃ n32 : Int, (World.cell? w31 (Addr.mk (Array.size (World.heap w9)) 1 none) = some (Value.int IntKind.i64 n32) ∧
                            (((decide (n32 < (↑(ByteArray.size x1) : Int)) = true →
                               Calls Tryz.prog (30 : Nat) (Array.mk [Value.pointer (some (Addr.mk (Array.size (World.heap w9)) 0 none))]) (w31) (fun e33 w34 =>
                                 ∃ n35 : Int, (e33 = Ending.returned (Value.int IntKind.i64 n35) ∧
                                  ∃ I36 : ByteArray → World → Prop, (((((n35 == 0) = true →
                                      (Wr w34 (Addr.mk (Array.size (World.heap w)) 0 none) ∧
                                       ∀ w37 : World,
                                       (w37 = World.setCell w34 (Addr.mk (Array.size (World.heap w)) 0 none) (Value.string (ByteArray.mk (Array.mk []))) →
                                         (Wr w37 (Addr.mk (Array.size (World.heap w1)) 0 none) ∧
                                          ∀ w38 : World,
                                          (w38 = World.setCell w37 (Addr.mk (Array.size (World.heap w1)) 0 none) (Value.int IntKind.i64 3) →
                                            CallsD Tryz.prog (29 : Nat) (Array.mk [Value.pointer (some (Addr.mk (Array.size (World.heap w)) 0 none)), Value.pointer (some (Addr.mk (Array.size (World.heap w1)) 0 none))]) (FrameMode.returning) (w38) (fun e39 z40 w41 =>
                                              ((∃ v42 : Value, e39 = Ending.returned v42) ∧
                                               (z40 = FrameMode.returning ∧
                                                ∃ s43 : ByteArray, (Sem.run Tryz.prog (loadVar 9 (Addr.mk (Array.size (World.heap w)) 0 none)) w41 = Result.ok (Value.string s43) w41 ∧
                                                 ∃ n44 : Int, (Sem.run Tryz.prog (loadVar 26 (Addr.mk (Array.size (World.heap w1)) 0 none)) w41 = Result.ok (Value.int IntKind.i64 n44) w41 ∧
                                                  R (Value.tuple (Array.mk [Value.string s43, Value.int IntKind.i64 n44])) w41))))))))))) ∧
                                    ((n35 == 0) = false →
                                      (((decide (n35 < 128) = true →
                                         ∃ n45 : Int, (World.cell? w34 (Addr.mk (Array.size (World.heap w9)) 1 none) = some (Value.int IntKind.i64 n45) ∧
                                          (((decide (IntKind.wrap IntKind.i64 ((↑(ByteArray.size x1) : Int) - n45) < n35) = true →
                                             (Wr w34 (Addr.mk (Array.size (World.heap w)) 0 none) ∧
                                              ∀ w46 : World,
                                              (w46 = World.setCell w34 (Addr.mk (Array.size (World.heap w)) 0 none) (Value.string (ByteArray.mk (Array.mk []))) →
                                                (Wr w46 (Addr.mk (Array.size (World.heap w1)) 0 none) ∧
                                                 ∀ w47 : World,
                                                 (w47 = World.setCell w46 (Addr.mk (Array.size (World.heap w1)) 0 none) (Value.int IntKind.i64 6) →
                                                   CallsD Tryz.prog (29 : Nat) (Array.mk [Value.pointer (some (Addr.mk (Array.size (World.heap w)) 0 none)), Value.pointer (some (Addr.mk (Array.size (World.heap w1)) 0 none))]) (FrameMode.returning) (w47) (fun e48 z49 w50 =>
                                                     ((∃ v51 : Value, e48 = Ending.returned v51) ∧
                                                      (z49 = FrameMode.returning ∧
                                                       ∃ s52 : ByteArray, (Sem.run Tryz.prog (loadVar 9 (Addr.mk (Array.size (World.heap w)) 0 none)) w50 = Result.ok (Value.string s52) w50 ∧
                                                        ∃ n53 : Int, (Sem.run Tryz.prog (loadVar 26 (Addr.mk (Array.size (World.heap w1)) 0 none)) w50 = Result.ok (Value.int IntKind.i64 n53) w50 ∧
                                                         R (Value.tuple (Array.mk [Value.string s52, Value.int IntKind.i64 n53])) w50))))))))))) ∧
                                           (decide (IntKind.wrap IntKind.i64 ((↑(ByteArray.size x1) : Int) - n45) < n35) = false →
                                             ∃ n54 : Int, (World.cell? w34 (Addr.mk (Array.size (World.heap w9)) 1 none) = some (Value.int IntKind.i64 n54) ∧
                                              ∃ n55 : Int, (World.cell? w34 (Addr.mk (Array.size (World.heap w9)) 1 none) = some (Value.int IntKind.i64 n55) ∧
                                               ((0 ≤ n54 ∧
                                                 (n54 ≤ IntKind.wrap IntKind.i64 (n55 + n35) ∧
                                                  IntKind.wrap IntKind.i64 (n55 + n35) ≤ (↑(ByteArray.size x1) : Int))) ∧
                                                ∀ w56 : World,
                                                (Drew w34 w56 →
                                                  ∃ n57 : Int, (World.cell? w56 (Addr.mk (Array.size (World.heap w9)) 1 none) = some (Value.int IntKind.i64 n57) ∧
                                                   (Wr w56 (Addr.mk (Array.size (World.heap w9)) 1 none) ∧
                                                    ∀ w58 : World,
                                                    (w58 = World.setCell w56 (Addr.mk (Array.size (World.heap w9)) 1 none) (Value.int IntKind.i64 (IntKind.wrap IntKind.i64 (n57 + n35))) →
                                                      I36 (ByteArray.extract x1 (Int.toNat n54) (Int.toNat (IntKind.wrap IntKind.i64 (n55 + n35)))) w58)))))))))))) ∧
                                       (decide (n35 < 128) = false →
                                         Calls Tryz.prog (31 : Nat) (Array.mk [Value.pointer (some (Addr.mk (Array.size (World.heap w9)) 0 none)), Value.int IntKind.i64 n35]) (w34) (fun e59 w60 =>
                                           ∃ n61 : Int, ∃ n62 : Int, (e59 = Ending.returned (Value.tuple (Array.mk [Value.int IntKind.i64 n61, Value.int IntKind.i64 n62])) ∧
                                            (((decide (n62 > (↑(ByteArray.size x0) : Int)) = true →
                                               (Wr w60 (Addr.mk (Array.size (World.heap w)) 0 none) ∧
                                                ∀ w63 : World,
                                                (w63 = World.setCell w60 (Addr.mk (Array.size (World.heap w)) 0 none) (Value.string (ByteArray.mk (Array.mk []))) →
                                                  (Wr w63 (Addr.mk (Array.size (World.heap w1)) 0 none) ∧
                                                   ∀ w64 : World,
                                                   (w64 = World.setCell w63 (Addr.mk (Array.size (World.heap w1)) 0 none) (Value.int IntKind.i64 3) →
                                                     CallsD Tryz.prog (29 : Nat) (Array.mk [Value.pointer (some (Addr.mk (Array.size (World.heap w)) 0 none)), Value.pointer (some (Addr.mk (Array.size (World.heap w1)) 0 none))]) (FrameMode.returning) (w64) (fun e65 z66 w67 =>
                                                       ((∃ v68 : Value, e65 = Ending.returned v68) ∧
                                                        (z66 = FrameMode.returning ∧
                                                         ∃ s69 : ByteArray, (Sem.run Tryz.prog (loadVar 9 (Addr.mk (Array.size (World.heap w)) 0 none)) w67 = Result.ok (Value.string s69) w67 ∧
                                                          ∃ n70 : Int, (Sem.run Tryz.prog (loadVar 26 (Addr.mk (Array.size (World.heap w1)) 0 none)) w67 = Result.ok (Value.int IntKind.i64 n70) w67 ∧
                                                           R (Value.tuple (Array.mk [Value.string s69, Value.int IntKind.i64 n70])) w67))))))))))) ∧
                                             (decide (n62 > (↑(ByteArray.size x0) : Int)) = false →
                                               (((decide (n61 > IntKind.wrap IntKind.i64 ((↑(ByteArray.size x0) : Int) - n62)) = true →
                                                  (Wr w60 (Addr.mk (Array.size (World.heap w)) 0 none) ∧
                                                   ∀ w71 : World,
                                                   (w71 = World.setCell w60 (Addr.mk (Array.size (World.heap w)) 0 none) (Value.string (ByteArray.mk (Array.mk []))) →
                                                     (Wr w71 (Addr.mk (Array.size (World.heap w1)) 0 none) ∧
                                                      ∀ w72 : World,
                                                      (w72 = World.setCell w71 (Addr.mk (Array.size (World.heap w1)) 0 none) (Value.int IntKind.i64 3) →
                                                        CallsD Tryz.prog (29 : Nat) (Array.mk [Value.pointer (some (Addr.mk (Array.size (World.heap w)) 0 none)), Value.pointer (some (Addr.mk (Array.size (World.heap w1)) 0 none))]) (FrameMode.returning) (w72) (fun e73 z74 w75 =>
                                                          ((∃ v76 : Value, e73 = Ending.returned v76) ∧
                                                           (z74 = FrameMode.returning ∧
                                                            ∃ s77 : ByteArray, (Sem.run Tryz.prog (loadVar 9 (Addr.mk (Array.size (World.heap w)) 0 none)) w75 = Result.ok (Value.string s77) w75 ∧
                                                             ∃ n78 : Int, (Sem.run Tryz.prog (loadVar 26 (Addr.mk (Array.size (World.heap w1)) 0 none)) w75 = Result.ok (Value.int IntKind.i64 n78) w75 ∧
                                                              R (Value.tuple (Array.mk [Value.string s77, Value.int IntKind.i64 n78])) w75))))))))))) ∧
                                                (decide (n61 > IntKind.wrap IntKind.i64 ((↑(ByteArray.size x0) : Int) - n62)) = false →
                                                  ((0 ≤ n61 ∧
                                                    (n61 ≤ IntKind.wrap IntKind.i64 (n61 + n62) ∧
                                                     IntKind.wrap IntKind.i64 (n61 + n62) ≤ (↑(ByteArray.size x0) : Int))) ∧
                                                   I36 (ByteArray.extract x0 (Int.toNat n61) (Int.toNat (IntKind.wrap IntKind.i64 (n61 + n62)))) w60))))))))))) ∧
                                   ∀ s79 : ByteArray,
                                   ∀ w80 : World,
                                   (I36 s79 w80 →
                                     (((decide ((↑(ByteArray.size s79) : Int) > IntKind.wrap IntKind.i64 (n6 - (↑l30.2 : Int))) = true →
                                        (Wr w80 (Addr.mk (Array.size (World.heap w)) 0 none) ∧
                                         ∀ w81 : World,
                                         (w81 = World.setCell w80 (Addr.mk (Array.size (World.heap w)) 0 none) (Value.string (ByteArray.mk (Array.mk []))) →
                                           (Wr w81 (Addr.mk (Array.size (World.heap w1)) 0 none) ∧
                                            ∀ w82 : World,
                                            (w82 = World.setCell w81 (Addr.mk (Array.size (World.heap w1)) 0 none) (Value.int IntKind.i64 3) →
                                              CallsD Tryz.prog (29 : Nat) (Array.mk [Value.pointer (some (Addr.mk (Array.size (World.heap w)) 0 none)), Value.pointer (some (Addr.mk (Array.size (World.heap w1)) 0 none))]) (FrameMode.returning) (w82) (fun e83 z84 w85 =>
                                                ((∃ v86 : Value, e83 = Ending.returned v86) ∧
                                                 (z84 = FrameMode.returning ∧
                                                  ∃ s87 : ByteArray, (Sem.run Tryz.prog (loadVar 9 (Addr.mk (Array.size (World.heap w)) 0 none)) w85 = Result.ok (Value.string s87) w85 ∧
                                                   ∃ n88 : Int, (Sem.run Tryz.prog (loadVar 26 (Addr.mk (Array.size (World.heap w1)) 0 none)) w85 = Result.ok (Value.int IntKind.i64 n88) w85 ∧
                                                    R (Value.tuple (Array.mk [Value.string s87, Value.int IntKind.i64 n88])) w85))))))))))) ∧
                                      (decide ((↑(ByteArray.size s79) : Int) > IntKind.wrap IntKind.i64 (n6 - (↑l30.2 : Int))) = false →
                                        ∃ w89 : World, ∃ l90 : Sl, (Sem.run Tryz.prog (Builtin.append_ (Array.mk [43, 9]) 43 (Array.mk [Value.slice l30.1 l30.2 l30.3, Value.string s79])) w80 = Result.ok (Value.slice l90.1 l90.2 l90.3) w89 ∧
                                         (I28 (Sl.mk l90.1 l90.2 l90.3) w89 ∧
                                          I29 (Sl.mk l90.1 l90.2 l90.3) w89 < I29 l30 w31)))))))))) ∧
                             (decide (n32 < (↑(ByteArray.size x1) : Int)) = false →
                               (((decide ((↑l30.2 : Int) < n6) = true →
                                  (Wr w31 (Addr.mk (Array.size (World.heap w)) 0 none) ∧
                                   ∀ w91 : World,
                                   (w91 = World.setCell w31 (Addr.mk (Array.size (World.heap w)) 0 none) (Value.string (ByteArray.mk (Array.mk []))) →
                                     (Wr w91 (Addr.mk (Array.size (World.heap w1)) 0 none) ∧
                                      ∀ w92 : World,
                                      (w92 = World.setCell w91 (Addr.mk (Array.size (World.heap w1)) 0 none) (Value.int IntKind.i64 6) →
                                        CallsD Tryz.prog (29 : Nat) (Array.mk [Value.pointer (some (Addr.mk (Array.size (World.heap w)) 0 none)), Value.pointer (some (Addr.mk (Array.size (World.heap w1)) 0 none))]) (FrameMode.returning) (w92) (fun e93 z94 w95 =>
                                          ((∃ v96 : Value, e93 = Ending.returned v96) ∧
                                           (z94 = FrameMode.returning ∧
                                            ∃ s97 : ByteArray, (Sem.run Tryz.prog (loadVar 9 (Addr.mk (Array.size (World.heap w)) 0 none)) w95 = Result.ok (Value.string s97) w95 ∧
                                             ∃ n98 : Int, (Sem.run Tryz.prog (loadVar 26 (Addr.mk (Array.size (World.heap w1)) 0 none)) w95 = Result.ok (Value.int IntKind.i64 n98) w95 ∧
                                              R (Value.tuple (Array.mk [Value.string s97, Value.int IntKind.i64 n98])) w95))))))))))) ∧
                                (decide ((↑l30.2 : Int) < n6) = false →
                                  ∃ w99 : World, ∃ s100 : ByteArray, (Sem.run Tryz.prog (convert 43 9 (Value.slice l30.1 l30.2 l30.3)) w31 = Result.ok (Value.string s100) w99 ∧
                                   (Wr w99 (Addr.mk (Array.size (World.heap w)) 0 none) ∧
                                    ∀ w101 : World,
                                    (w101 = World.setCell w99 (Addr.mk (Array.size (World.heap w)) 0 none) (Value.string s100) →
                                      (Wr w101 (Addr.mk (Array.size (World.heap w1)) 0 none) ∧
                                       ∀ w102 : World,
                                       (w102 = World.setCell w101 (Addr.mk (Array.size (World.heap w1)) 0 none) (Value.int IntKind.i64 0) →
                                         CallsD Tryz.prog (29 : Nat) (Array.mk [Value.pointer (some (Addr.mk (Array.size (World.heap w)) 0 none)), Value.pointer (some (Addr.mk (Array.size (World.heap w1)) 0 none))]) (FrameMode.returning) (w102) (fun e103 z104 w105 =>
                                           ((∃ v106 : Value, e103 = Ending.returned v106) ∧
                                            (z104 = FrameMode.returning ∧
                                             ∃ s107 : ByteArray, (Sem.run Tryz.prog (loadVar 9 (Addr.mk (Array.size (World.heap w)) 0 none)) w105 = Result.ok (Value.string s107) w105 ∧
                                              ∃ n108 : Int, (Sem.run Tryz.prog (loadVar 26 (Addr.mk (Array.size (World.heap w1)) 0 none)) w105 = Result.ok (Value.int IntKind.i64 n108) w105 ∧
                                               R (Value.tuple (Array.mk [Value.string s107, Value.int IntKind.i64 n108])) w105)))))))))))))))))))))))))))))))
theorem vc_delta_Apply_ok {x0 : ByteArray} {x1 : ByteArray} {x2 : Int} {w : World} {R : Value → World → Prop} {R' : Ending → World → Prop} (h : vc_delta_Apply x0 x1 x2 w R) (hR : ∀ v w', R v w' → R' (.returned v) w') :
    Calls Tryz.prog 11 #[.string x0, .string x1, .int .i64 x2] w R' :=
  calls_of_bodyD (vs := [(.string x0, false), (.string x1, false), (.int .i64 x2, false)]) (ty := ty) (ann := ⟨[(25, [(13, .str)])], [(11, [(12, .slice)])], [(3, .held [(0, true), (1, false), (2, false)]), (23, .quiet)], []⟩) (c := Tryz.f11.body.getD .skip) (by kernel_rfl) Tryz.func11 (by kernel_rfl) (by kernel_rfl) (Eq.mp (by kernel_rfl) h) hR
end Go.Proofs.YtcnpekohkbjnnaaGreatDoor

/- The package delta's reader, where what it reads is right: byte, size, copied; Sizes; Apply. Conditions: what is read is a delta. -/
set_option linter.unusedVariables false
namespace Go.Proofs.YtcnpekohkbjnnaaGreatDoor
open Go Vc Go.Proofs

/-- The reader at place k of s: the rest is r. -/
def RdB (w : World) (B : Nat) (s : ByteArray) (r : List UInt8) (k : Nat) : Prop := w.heap[B]? = some (.cells #[.string s, .int .i64 (k : Int)] T_delta_reader (0, 0)) ∧ s.data.toList.drop k = r ∧ k ≤ s.size
theorem RdB.keep {w w' : World} {B : Nat} {s : ByteArray} {r : List UInt8} {k : Nat} (h : RdB w B s r k) {X : Nat → Prop} (hf : Fr X w w') (hx : ¬ X B) : RdB w' B s r k := ⟨hf.keep h.1 hx, h.2⟩
theorem RdB.size {w : World} {B : Nat} {s : ByteArray} {r : List UInt8} {k : Nat} (h : RdB w B s r k) : k + r.length = s.size := by
  have := congrArg List.length h.2.1
  rw [List.length_drop, bs_len] at this
  have := h.2.2
  omega
theorem RdB.c0 {w : World} {B : Nat} {s : ByteArray} {r : List UInt8} {k : Nat} (h : RdB w B s r k) : w.cell? ⟨B, 0, none⟩ = some (.string s) := by rw [cell_blk h.1]; rfl
theorem RdB.c1 {w : World} {B : Nat} {s : ByteArray} {r : List UInt8} {k : Nat} (h : RdB w B s r k) : w.cell? ⟨B, 1, none⟩ = some (.int .i64 (k : Int)) := by rw [cell_blk h.1]; rfl
/-- Its place is moved. -/
theorem RdB.move {w : World} {B : Nat} {s : ByteArray} {t r : List UInt8} {k : Nat} (h : RdB w B s (t ++ r) k) {n : Nat} (hn : t.length = n) : Wr w ⟨B, 1, none⟩ ∧ RdB (w.setCell ⟨B, 1, none⟩ (.int .i64 ((k + n : Nat) : Int))) B s r (k + n) ∧ Fr (· = B) w (w.setCell ⟨B, 1, none⟩ (.int .i64 ((k + n : Nat) : Int))) := by
  have hsz := h.size
  rw [List.length_append] at hsz
  refine ⟨wr_blk h.1 (Nat.lt_succ_self 1), ⟨by rw [set_blk h.1]; rfl, ?_, by omega⟩, Fr.set (· = B) w _ rfl⟩
  rw [← List.drop_drop, h.2.1, ← hn, List.drop_left]
theorem dbyte_spec {w : World} {B : Nat} {s : ByteArray} {c : UInt8} {r : List UInt8} {k : Nat} (h : RdB w B s (c :: r) k) (hs : s.size ≤ 4611686018427387904) :
    Calls Tryz.prog F_delta_reader_byte #[.pointer (some ⟨B, 0, none⟩)] w fun e w' => e = .returned (.int .i64 (c.toNat : Int)) ∧ RdB w' B s r (k + 1) ∧ Fr (· = B) w w' := by
  refine vc_delta_reader_byte_ok (R := fun v w' => v = .int .i64 (c.toNat : Int) ∧ RdB w' B s r (k + 1) ∧ Fr (· = B) w w') ?_ (fun v w' h => ⟨by rw [h.1], h.2⟩)
  have hsz := h.size
  rw [List.length_cons] at hsz
  refine ⟨fun w' => RdB w' B s (c :: r) k ∧ Fr (fun _ => False) w w', ⟨_, h.c1, s, h.c0, fun w4 d4 => ⟨fun he => ?_, fun _ => ⟨h.keep (.drew (fun _ => False) d4) (by simp), .drew _ d4⟩⟩⟩, ?_⟩
  · have : (k : Int) = (s.size : Int) := eq_of_beq he
    omega
  rintro w5 ⟨h5, f5⟩
  have e1 : IntKind.i64.wrap ((k : Int) + 1) = ((k + 1 : Nat) : Int) := by rw [wrap_i64 (by omega) (by omega)]; omega
  obtain ⟨hwr, h7, f7⟩ := (show RdB w5 B s ([c] ++ r) k from h5).move (n := 1) rfl
  refine ⟨_, h5.c1, hwr, fun w7 hw7 => ?_⟩
  rw [e1] at hw7
  subst hw7
  have e2 : IntKind.i64.wrap (((k + 1 : Nat) : Int) - 1) = ((k : Nat) : Int) := by rw [wrap_i64 (by omega) (by omega)]; omega
  refine ⟨s, h7.c0, _, h7.c1, ?_⟩
  rw [e2, byteAt_nat]
  have hbk : byt s k = c.toNat := by
    have hg : s.data.toList[k]? = some c := by
      have := congrArg (fun l : List UInt8 => l[0]?) h.2.1
      simpa [List.getElem?_drop] using this
    exact (bs_get? hg).2
  have hcl := UInt8.toNat_lt c
  refine ⟨⟨by omega, by omega⟩, fun w10 d10 => ⟨?_, h7.keep (.drew (fun _ => False) d10) (by simp), ((f5.mono fun _ _ h => h.elim).trans' f7).trans' (.drew _ d10)⟩⟩
  rw [hbk, wrap_i64 (by omega) (by omega)]
theorem dor (a c s : Nat) (ha : a < 2 ^ s) (hs : s ≤ 40) (hc : c < 256) : IntKind.i64.wrap (((BitVec.ofInt 64 (a : Int) ||| BitVec.ofInt 64 (IntKind.i64.wrap ((c : Int) * 2 ^ min s 64))).toNat : Nat) : Int) = ((a + c * 2 ^ s : Nat) : Int) := by
  have hp : 2 ^ s ≤ 2 ^ 40 := Nat.pow_le_pow_right (by decide) hs
  have hcp : c * 2 ^ s ≤ 255 * 2 ^ 40 := Nat.mul_le_mul (by omega) hp
  have e : (2 : Int) ^ min s 64 = ((2 ^ s : Nat) : Int) := by rw [show min s 64 = s by omega, Int.natCast_pow]; rfl
  have hor : a ||| c * 2 ^ s = a + c * 2 ^ s := by
    rw [Nat.or_comm, Nat.mul_comm c, ← Nat.two_pow_add_eq_or_of_lt ha, Nat.add_comm]
  have e2 : (c : Int) * ((2 ^ s : Nat) : Int) = ((c * 2 ^ s : Nat) : Int) := by rw [Int.natCast_mul]
  generalize hP : 2 ^ s = P at *
  rw [e, e2]
  generalize hQ : c * P = Q at *
  rw [show IntKind.i64.wrap ((Q : Nat) : Int) = ((Q : Nat) : Int) from wrap_i64 (by omega) (by omega), or_nat 64 _ _ (by omega) (by omega), hor, wrap_i64 (by omega) (by omega)]
theorem dand127 (c : Nat) (hc : c < 256) : IntKind.i64.wrap (((BitVec.ofInt 64 (c : Int) &&& BitVec.ofInt 64 127).toNat : Nat) : Int) = ((c % 128 : Nat) : Int) := by
  rw [show (127 : Int) = ((127 : Nat) : Int) from rfl, and_nat 64 _ _ (by omega) (by omega), show (127 : Nat) = 2 ^ 7 - 1 from rfl, Nat.and_two_pow_sub_one_eq_mod, wrap_i64 (by omega) (by omega)]
theorem dsize_spec {w : World} {B : Nat} {s : ByteArray} {n : Nat} (hn : n < 16384) {r : List UInt8} {k : Nat} (h : RdB w B s (sizedL n ++ r) k) (hs : s.size ≤ 4611686018427387904) :
    Calls Tryz.prog F_delta_reader_size #[.pointer (some ⟨B, 0, none⟩)] w fun e w' => e = .returned (.int .i64 (n : Int)) ∧ RdB w' B s r (k + (sizedL n).length) ∧ Fr (· = B) w w' := by
  refine vc_delta_reader_size_ok (R := fun v w' => v = .int .i64 (n : Int) ∧ RdB w' B s r (k + (sizedL n).length) ∧ Fr (· = B) w w') ?_ (fun v w' h => ⟨by rw [h.1], h.2⟩)
  refine ⟨fun a sh w' => (a = 0 ∧ sh = 0 ∧ RdB w' B s (sizedL n ++ r) k ∧ Fr (· = B) w w') ∨ (128 ≤ n ∧ a = ((n % 128 : Nat) : Int) ∧ sh = 7 ∧ RdB w' B s (UInt8.ofNat (n / 2 ^ 7) :: r) (k + 1) ∧ Fr (· = B) w w'), fun _ sh _ => 14 - sh.toNat, .inl ⟨rfl, rfl, h, .refl _ _⟩, ?_⟩
  rintro a sh w5 (⟨rfl, rfl, h5, f5⟩ | ⟨hn1, rfl, rfl, h5, f5⟩)
  · by_cases hn1 : n < 128
    · have hl : sizedL n = [UInt8.ofNat n] := by unfold sizedL; rw [if_pos hn1]
      rw [hl] at h5 ⊢
      refine (dbyte_spec h5 hs).mono ?_
      rintro e w7 ⟨rfl, h7, f7⟩
      refine ⟨_, rfl, ?_⟩
      rw [toNat_of _ (by omega), dand127 n (by omega)]
      have := dor 0 (n % 128) 0 (by decide) (by omega) (by omega)
      refine ⟨fun hb => (by cases hb), fun _ => ⟨by decide, fun _ => ⟨?_, h7, f5.trans' f7⟩, fun hb => ?_⟩⟩
      · have e0 : IntKind.i64.wrap (((BitVec.ofInt 64 0 ||| BitVec.ofInt 64 (IntKind.i64.wrap (((n % 128 : Nat) : Int) * 2 ^ min (Int.toNat 0) 64))).toNat : Nat) : Int) = ((0 + n % 128 * 2 ^ 0 : Nat) : Int) := this
        rw [e0, Nat.pow_zero, Nat.mul_one, Nat.zero_add, Nat.mod_eq_of_lt hn1]
      · have := of_decide_eq_false hb; omega
    · rw [sizedL_big (by omega)] at h5 ⊢
      refine (dbyte_spec h5 hs).mono ?_
      rintro e w7 ⟨rfl, h7, f7⟩
      refine ⟨_, rfl, ?_⟩
      rw [toNat_of _ (by omega), dand127 (n % 128 + 128) (by omega)]
      have := dor 0 ((n % 128 + 128) % 128) 0 (by decide) (by omega) (by omega)
      refine ⟨fun hb => (by cases hb), fun _ => ⟨by decide, fun hb => ?_, fun _ => ?_⟩⟩
      · have := of_decide_eq_true hb; omega
      · have e0 : IntKind.i64.wrap (((BitVec.ofInt 64 0 ||| BitVec.ofInt 64 (IntKind.i64.wrap ((((n % 128 + 128) % 128 : Nat) : Int) * 2 ^ min (Int.toNat 0) 64))).toNat : Nat) : Int) = ((0 + (n % 128 + 128) % 128 * 2 ^ 0 : Nat) : Int) := this
        rw [e0, Nat.pow_zero, Nat.mul_one, Nat.zero_add, show (n % 128 + 128) % 128 = n % 128 by omega]
        exact ⟨.inr ⟨by omega, rfl, rfl, h7, f5.trans' f7⟩, (by decide : 14 - (IntKind.i64.wrap (0 + 7)).toNat < 14 - Int.toNat 0)⟩
  · refine (dbyte_spec h5 hs).mono ?_
    rintro e w7 ⟨rfl, h7, f7⟩
    have hq : n / 2 ^ 7 < 128 := by omega
    refine ⟨_, rfl, ?_⟩
    rw [toNat_of _ (by omega), dand127 (n / 2 ^ 7) (by omega)]
    have := dor (n % 128) (n / 2 ^ 7 % 128) 7 (by omega) (by omega) (by omega)
    refine ⟨fun hb => (by cases hb), fun _ => ⟨by decide, fun _ => ⟨?_, ?_, f5.trans' f7⟩, fun hb => ?_⟩⟩
    · have e0 : IntKind.i64.wrap (((BitVec.ofInt 64 ((n % 128 : Nat) : Int) ||| BitVec.ofInt 64 (IntKind.i64.wrap (((n / 2 ^ 7 % 128 : Nat) : Int) * 2 ^ min (Int.toNat 7) 64))).toNat : Nat) : Int) = ((n % 128 + n / 2 ^ 7 % 128 * 2 ^ 7 : Nat) : Int) := this
      rw [e0, show n % 128 + n / 2 ^ 7 % 128 * 2 ^ 7 = n by omega]
    · rw [sizedL_big hn1]
      exact h7
    · have := of_decide_eq_false hb; omega
theorem dbit1 (c i : Nat) (hc : c < 256) (hi : i < 7) : IntKind.i64.wrap (((BitVec.ofInt 64 (Int.fdiv (c : Int) (2 ^ min i 64)) &&& BitVec.ofInt 64 1).toNat : Nat) : Int) = ((c / 2 ^ i % 2 : Nat) : Int) := by
  have hle : c / 2 ^ i ≤ c := Nat.div_le_self _ _
  rw [dshr c i (by omega), show (1 : Int) = ((1 : Nat) : Int) from rfl, and_nat 64 _ _ (by omega) (by omega), show (1 : Nat) = 2 ^ 1 - 1 from rfl, Nat.and_two_pow_sub_one_eq_mod, wrap_i64 (by omega) (by omega)]
theorem dcopied_spec {w : World} {B : Nat} {s : ByteArray} {o n : Nat} (ho : o < 4294967296) (hn : n < 65536) (hn0 : 0 < n) {r : List UInt8} {k : Nat} (h : RdB w B s (cpbs o n 0 7 ++ r) k) (hs : s.size ≤ 4611686018427387904) :
    Calls Tryz.prog F_delta_reader_copied #[.pointer (some ⟨B, 0, none⟩), .int .i64 ((128 + cflag o n 7 : Nat) : Int)] w fun e w' => e = .returned (.tuple #[.int .i64 (o : Int), .int .i64 (n : Int)]) ∧ RdB w' B s r (k + (cpbs o n 0 7).length) ∧ Fr (· = B) w w' := by
  refine vc_delta_reader_copied_ok (R := fun v w' => v = .tuple #[.int .i64 (o : Int), .int .i64 (n : Int)] ∧ RdB w' B s r (k + (cpbs o n 0 7).length) ∧ Fr (· = B) w w') ?_ (fun v w' h => ⟨by rw [h.1], h.2⟩)
  have hcf : 128 + cflag o n 7 < 256 := by have := cflag_lt o n 7; omega
  refine ⟨fun a b m w' => ∃ (i kk : Nat), m = i ∧ i ≤ 7 ∧ a = ((coN o i : Nat) : Int) ∧ b = ((cnN n i : Nat) : Int) ∧ kk + (cpbs o n i (7 - i)).length = k + (cpbs o n 0 7).length ∧ RdB w' B s (cpbs o n i (7 - i) ++ r) kk ∧ Fr (· = B) w w', fun _ _ m _ => 7 - m.toNat,
    ⟨0, k, rfl, by decide, by unfold coN; rw [show min 0 4 = 0 from rfl, Nat.pow_zero, Nat.mod_one]; rfl, by unfold cnN; rw [show 0 - 4 = 0 from rfl, Nat.pow_zero, Nat.mod_one]; rfl, rfl, h, .refl _ _⟩, ?_⟩
  rintro a b m w6 ⟨i, kk, rfl, hi, rfl, rfl, hkk, h6, f6⟩
  refine ⟨fun hlt => ?_, fun hge => ?_⟩
  · have hlt := of_decide_eq_true hlt
    have hi7 : i < 7 := by omega
    have e1 : IntKind.i64.wrap ((i : Int) + 1) = ((i + 1 : Nat) : Int) := by rw [wrap_i64 (by omega) (by omega)]; omega
    rw [e1, Int.toNat_natCast, dbit1 _ _ hcf hi7, flag_bit o n i hi7]
    have hcons : cpbs o n i (7 - i) = cpby o n i ++ cpbs o n (i + 1) (7 - (i + 1)) := by
      rw [show 7 - i = (7 - (i + 1)) + 1 by omega, cpbs_cons]
    have hcb := cpb_lt o n i
    refine ⟨by omega, fun h0 => ?_, fun h1 => ?_⟩
    · have hz : cpb o n i = 0 := by
        have h0 : ((cpd o n i : Nat) : Int) = 0 := by simpa using h0
        unfold cpd at h0
        split at h0
        · assumption
        · cases h0
      have hby : cpby o n i = [] := by unfold cpby; rw [if_pos hz]
      rw [hcons, hby, List.nil_append] at h6 hkk
      have hst : coN o (i + 1) = coN o i ∧ cnN n (i + 1) = cnN n i := by
        by_cases h4 : i < 4
        · obtain ⟨k1, _, k3⟩ := coN_step o n i h4
          rw [k1, k3, hz]; simp
        · obtain ⟨k1, _, k3⟩ := cnN_step o n i h4
          rw [k1, k3, hz]; simp
      exact ⟨⟨i + 1, kk, rfl, by omega, by rw [hst.1], by rw [hst.2], hkk, h6, f6⟩, by dsimp only; omega⟩
    · have hz : cpb o n i ≠ 0 := by
        intro hz
        unfold cpd at h1
        rw [if_pos hz] at h1
        cases h1
      have hby : cpby o n i = [UInt8.ofNat (cpb o n i)] := by unfold cpby; rw [if_neg hz]
      rw [hcons, hby] at h6 hkk
      rw [List.length_append, List.length_cons, List.length_nil] at hkk
      refine (dbyte_spec (show RdB w6 B s (UInt8.ofNat (cpb o n i) :: (cpbs o n (i + 1) (7 - (i + 1)) ++ r)) kk from h6) hs).mono ?_
      rintro e w8 ⟨rfl, h8, f8⟩
      rw [toNat_of _ hcb]
      refine ⟨_, rfl, fun h4 => ?_, fun h4 => ?_⟩
      · have h4 := of_decide_eq_true h4
        have e8 : IntKind.i64.wrap (8 * (i : Int)) = ((8 * i : Nat) : Int) := by rw [wrap_i64 (by omega) (by omega)]; omega
        obtain ⟨k1, k2, k3⟩ := coN_step o n i (by omega)
        rw [e8, Int.toNat_natCast, dor _ _ _ k2 (by omega) hcb]
        exact ⟨by omega, ⟨i + 1, kk + 1, rfl, by omega, by rw [k1], by rw [k3], by omega, h8, f6.trans' f8⟩, by dsimp only; omega⟩
      · have h4 := of_decide_eq_false h4
        have e4 : IntKind.i64.wrap ((i : Int) - 4) = ((i - 4 : Nat) : Int) := by rw [wrap_i64 (by omega) (by omega)]; omega
        have e9 : IntKind.i64.wrap (8 * ((i - 4 : Nat) : Int)) = ((8 * (i - 4) : Nat) : Int) := by rw [wrap_i64 (by omega) (by omega)]; omega
        obtain ⟨k1, k2, k3⟩ := cnN_step o n i (by omega)
        rw [e4, e9, Int.toNat_natCast, dor _ _ _ k2 (by omega) hcb]
        exact ⟨by omega, ⟨i + 1, kk + 1, rfl, by omega, by rw [k3], by rw [k1], by omega, h8, f6.trans' f8⟩, by dsimp only; omega⟩
  · have hge := of_decide_eq_false hge
    have : i = 7 := by omega
    subst this
    obtain ⟨k1, k2⟩ := cpb_le o n 7 ho hn
    rw [k1, k2]
    have h60 : cpbs o n 7 (7 - 7) = [] := rfl
    rw [h60, List.length_nil] at hkk
    rw [h60, List.nil_append] at h6
    have hk2 : kk = k + (cpbs o n 0 7).length := by omega
    rw [hk2] at h6
    refine ⟨fun hb => ?_, fun _ => ⟨rfl, h6, f6⟩⟩
    have : (n : Int) = 0 := by simpa using hb
    omega
theorem dload_one {w : World} {a : Addr} {T : TypeId} {v : Value} (hu : pureRun Tryz.prog (isAgg T) = some false) (hc : w.cell? a = some v) : (loadVar T a).run Tryz.prog w = .ok v w := by
  unfold loadVar
  rw [Sem.run_bind, pureRun_spec hu w]
  simp [Result.andThen, hc]
set_option maxRecDepth 100000 in
theorem sizes_idle (p q r s : Addr) (w : World) :
    CallsD Tryz.prog F_delta_Sizes_1 #[.pointer (some p), .pointer (some q), .pointer (some r), .pointer (some s)] .returning w fun e u w' => e = .returned (.tuple #[]) ∧ u = .returning ∧ w' = w := by
  refine callsD_of_wpS Tryz.func56 rfl fun c₀ cs hu => ?_
  have hz : ({ c₀ with mode := .returning } : Frame) = c₀ := by cases c₀; simp only at hu; subst hu; rfl
  refine wpS_seq (wpS_region ?_)
  show wpOpsS _ _ _ [0, 1, 2, 3, 4, 5, 6] _ _ _
  refine recS_spec (a' := ⟨#[.pointer (some p), .pointer (some q), .pointer (some r), .pointer (some s), undef, undef, undef, .nilIface, undef, undef, undef, undef, undef], []⟩) (cs' := c₀ :: cs) rfl rfl rfl ?_ ?_
  · rw [show recoverD (c₀ :: cs) = none by unfold recoverD; simp only [hu]]
    exact ⟨by kernel_rfl, rfl⟩
  refine stepsS_spec (a' := ⟨#[.pointer (some p), .pointer (some q), .pointer (some r), .pointer (some s), .int .i64 0, .bool false, .tuple #[.int .i64 0, .bool false], .nilIface, .tuple #[.int .i64 0, .bool false], .int .i64 0, .bool false, undef, undef], []⟩) (by kernel_rfl) ?_
  refine wpS_seq (wpS_region ?_)
  show wpOpsS _ _ _ [0] _ _ _
  refine stepsS_spec (a' := ⟨#[.pointer (some p), .pointer (some q), .pointer (some r), .pointer (some s), .int .i64 0, .bool false, .tuple #[.int .i64 0, .bool false], .nilIface, .tuple #[.int .i64 0, .bool false], .int .i64 0, .bool false, .bool false, undef], []⟩) (by kernel_rfl) ?_
  refine wpS_cond (t := false) (by kernel_rfl) ?_
  refine wpS_of_wp (wp_skip ?_)
  exact ⟨rfl, .returning, by rw [hz], .tuple #[], by kernel_rfl, rfl, rfl, rfl⟩
set_option maxRecDepth 100000 in
theorem apply_idle (p q : Addr) (w : World) :
    CallsD Tryz.prog F_delta_Apply_1 #[.pointer (some p), .pointer (some q)] .returning w fun e u w' => e = .returned (.tuple #[]) ∧ u = .returning ∧ w' = w := by
  refine callsD_of_wpS Tryz.func29 rfl fun c₀ cs hu => ?_
  have hz : ({ c₀ with mode := .returning } : Frame) = c₀ := by cases c₀; simp only at hu; subst hu; rfl
  refine wpS_seq (wpS_region ?_)
  show wpOpsS _ _ _ [0, 1, 2, 3, 4, 5, 6] _ _ _
  refine recS_spec (a' := ⟨#[.pointer (some p), .pointer (some q), undef, undef, undef, .nilIface, undef, undef, undef, undef, undef], []⟩) (cs' := c₀ :: cs) rfl rfl rfl ?_ ?_
  · rw [show recoverD (c₀ :: cs) = none by unfold recoverD; simp only [hu]]
    exact ⟨by kernel_rfl, rfl⟩
  refine stepsS_spec (a' := ⟨#[.pointer (some p), .pointer (some q), .int .i64 0, .bool false, .tuple #[.int .i64 0, .bool false], .nilIface, .tuple #[.int .i64 0, .bool false], .int .i64 0, .bool false, undef, undef], []⟩) (by kernel_rfl) ?_
  refine wpS_seq (wpS_region ?_)
  show wpOpsS _ _ _ [0] _ _ _
  refine stepsS_spec (a' := ⟨#[.pointer (some p), .pointer (some q), .int .i64 0, .bool false, .tuple #[.int .i64 0, .bool false], .nilIface, .tuple #[.int .i64 0, .bool false], .int .i64 0, .bool false, .bool false, undef], []⟩) (by kernel_rfl) ?_
  refine wpS_cond (t := false) (by kernel_rfl) ?_
  refine wpS_of_wp (wp_skip ?_)
  exact ⟨rfl, .returning, by rw [hz], .tuple #[], by kernel_rfl, rfl, rfl, rfl⟩
/-- One cell is set. -/
theorem one_set {w : World} {b : Nat} {v : Value} {T : TypeId} (h : w.heap[b]? = some (.cells #[v] T (0, 0))) (u : Value) : Wr w ⟨b, 0, none⟩ ∧ (w.setCell ⟨b, 0, none⟩ u).heap[b]? = some (.cells #[u] T (0, 0)) ∧ Fr (· = b) w (w.setCell ⟨b, 0, none⟩ u) :=
  ⟨wr_blk h (Nat.lt_succ_self 0), by rw [set_blk h]; rfl, Fr.set (· = b) w _ rfl⟩
theorem one_cell {w : World} {b : Nat} {v : Value} {T : TypeId} (h : w.heap[b]? = some (.cells #[v] T (0, 0))) : w.cell? ⟨b, 0, none⟩ = some v := by rw [cell_blk h]; rfl
theorem sizes_spec (d : ByteArray) {n0 n1 : Nat} (h0 : n0 < 16384) (h1 : n1 < 16384) {body : List UInt8} (hd : d.data.toList = sizedL n0 ++ (sizedL n1 ++ body)) (hs : d.size ≤ 4611686018427387904) (w : World) :
    Calls Tryz.prog F_delta_Sizes #[.string d] w fun e w' => e = .returned (.tuple #[.int .i64 (n0 : Int), .int .i64 (n1 : Int), .int .i64 (((sizedL n0).length + (sizedL n1).length : Nat) : Int), .int .i64 0]) ∧ Fr (fun _ => False) w w' := by
  refine vc_delta_Sizes_ok (R := fun v w' => v = .tuple #[.int .i64 (n0 : Int), .int .i64 (n1 : Int), .int .i64 (((sizedL n0).length + (sizedL n1).length : Nat) : Int), .int .i64 0] ∧ Fr (fun _ => False) w w') ?_ (fun v w' h => ⟨by rw [h.1], h.2⟩)
  intro w1 hw1 w2 hw2 w3 hw3 w4 hw4 w5 hw5
  have f1 : Fr (fun _ => False) w w1 := by rw [hw1]; exact .alloc _ _ _
  have f2 : Fr (fun _ => False) w1 w2 := by rw [hw2]; exact .alloc _ _ _
  have f3 : Fr (fun _ => False) w2 w3 := by rw [hw3]; exact .alloc _ _ _
  have f4 : Fr (fun _ => False) w3 w4 := by rw [hw4]; exact .alloc _ _ _
  have f5 : Fr (fun _ => False) w4 w5 := by rw [hw5]; exact .alloc _ _ _
  have s1 : w1.heap.size = w.heap.size + 1 := by rw [hw1]; simp
  have s2 : w2.heap.size = w.heap.size + 2 := by rw [hw2]; simp [s1]
  have s3 : w3.heap.size = w.heap.size + 3 := by rw [hw3]; simp [s2]
  have s4 : w4.heap.size = w.heap.size + 4 := by rw [hw4]; simp [s3]
  have a5 : w5.heap[w.heap.size]? = some (.cells #[.int .i64 0] T_int (0, 0)) := f5.keep (f4.keep (f3.keep (f2.keep (by rw [hw1]; exact alloc_new _ _) (by simp)) (by simp)) (by simp)) (by simp)
  have b5 : w5.heap[w1.heap.size]? = some (.cells #[.int .i64 0] T_int (0, 0)) := f5.keep (f4.keep (f3.keep (by rw [hw2]; exact alloc_new _ _) (by simp)) (by simp)) (by simp)
  have c5 : w5.heap[w2.heap.size]? = some (.cells #[.int .i64 0] T_int (0, 0)) := f5.keep (f4.keep (by rw [hw3]; exact alloc_new _ _) (by simp)) (by simp)
  have e5 : w5.heap[w3.heap.size]? = some (.cells #[.int .i64 0] T_api_Errno (0, 0)) := f5.keep (by rw [hw4]; exact alloc_new _ _) (by simp)
  have r5 : RdB w5 w4.heap.size d (sizedL n0 ++ (sizedL n1 ++ body)) 0 := ⟨by rw [hw5]; exact alloc_new _ _, by rw [List.drop_zero]; exact hd, Nat.zero_le _⟩
  have g5 := (((f1.trans' f2).trans' f3).trans' f4).trans' f5
  clear hw1 hw2 hw3 hw4 hw5 f1 f2 f3 f4 f5
  rw [s1] at b5 ⊢
  rw [s2] at c5 ⊢
  rw [s3] at e5 ⊢
  rw [s4] at r5 ⊢
  clear s1 s2 s3 s4
  generalize hA : w.heap.size = A at *
  refine (dsize_spec h0 r5 hs).mono ?_
  rintro e w7 ⟨rfl, r7, f7⟩
  refine ⟨_, rfl, (dsize_spec h1 r7 hs).mono ?_⟩
  rintro e w10 ⟨rfl, r10, f10⟩
  have f5_10 := f7.trans' f10
  have a10 := f5_10.keep a5 (by omega)
  have b10 := f5_10.keep b5 (by omega)
  have c10 := f5_10.keep c5 (by omega)
  have e10 := f5_10.keep e5 (by omega)
  rw [Nat.zero_add] at r10
  obtain ⟨wa, a12, f12⟩ := one_set a10 (.int .i64 (n0 : Int))
  refine ⟨_, rfl, wa, fun w12 h12 => ?_⟩
  subst h12
  obtain ⟨wb, b13, f13⟩ := one_set (f12.keep b10 (by omega)) (.int .i64 (n1 : Int))
  refine ⟨wb, fun w13 h13 w14 d14 => ?_⟩
  subst h13
  have f14 : Fr (fun _ => False) _ w14 := .drew _ d14
  have a14 := f14.keep (f13.keep a12 (by omega)) (by simp)
  have b14 := f14.keep b13 (by simp)
  have c14 := f14.keep (f13.keep (f12.keep c10 (by omega)) (by omega)) (by simp)
  have e14 := f14.keep (f13.keep (f12.keep e10 (by omega)) (by omega)) (by simp)
  have r14 := ((r10.keep f12 (by omega)).keep f13 (by omega)).keep f14 (by simp)
  refine ⟨fun w' => w'.cell? ⟨A, 0, none⟩ = some (.int .i64 (n0 : Int)) ∧ w'.cell? ⟨A + 1, 0, none⟩ = some (.int .i64 (n1 : Int)) ∧ w'.cell? ⟨A + 4, 1, none⟩ = some (.int .i64 (((sizedL n0).length + (sizedL n1).length : Nat) : Int)),
    ⟨one_cell a14, one_cell b14, r14.c1⟩, _, fun w17 h => h.1, _, fun w19 h => h.2.1, _, fun w21 h => h.2.2, ?_⟩
  obtain ⟨wa2, a22, f22⟩ := one_set a14 (.int .i64 (n0 : Int))
  refine ⟨wa2, fun w22 h22 => ?_⟩
  subst h22
  have b22 := f22.keep b14 (by omega)
  have c22 := f22.keep c14 (by omega)
  have e22 := f22.keep e14 (by omega)
  have r22 := r14.keep f22 (by omega)
  obtain ⟨wb2, b23, f23⟩ := one_set b22 (.int .i64 (n1 : Int))
  refine ⟨⟨one_cell a22, one_cell b22, r22.c1⟩, wb2, fun w23 h23 => ?_⟩
  subst h23
  have a23 := f23.keep a22 (by omega)
  have r23 := r22.keep f23 (by omega)
  obtain ⟨wc2, c24, f24⟩ := one_set (f23.keep c22 (by omega)) (.int .i64 (((sizedL n0).length + (sizedL n1).length : Nat) : Int))
  refine ⟨⟨one_cell a23, one_cell b23, r23.c1⟩, wc2, fun w24 h24 => ?_⟩
  subst h24
  have a24 := f24.keep a23 (by omega)
  have b24 := f24.keep b23 (by omega)
  have r24 := r23.keep f24 (by omega)
  obtain ⟨we2, e25, f25⟩ := one_set (f24.keep (f23.keep e22 (by omega)) (by omega)) (.int .i64 0)
  refine ⟨⟨one_cell a24, one_cell b24, r24.c1⟩, we2, fun w25 h25 => ?_⟩
  subst h25
  refine (sizes_idle _ _ _ _ _).mono ?_
  rintro e u w28 ⟨rfl, rfl, rfl⟩
  refine ⟨⟨_, rfl⟩, rfl, _, dload_one (by kernel_rfl) (one_cell (f25.keep a24 (by omega))), _, dload_one (by kernel_rfl) (one_cell (f25.keep b24 (by omega))), _, dload_one (by kernel_rfl) (one_cell (f25.keep c24 (by omega))), _, dload_one (by kernel_rfl) (one_cell e25), rfl, ?_⟩
  exact (((((((g5.trans f5_10 fun q hq e => by omega).trans f12 fun q hq e => by omega).trans f13 fun q hq e => by omega).trans' f14).trans f22 fun q hq e => by omega).trans f23 fun q hq e => by omega).trans f24 fun q hq e => by omega).trans f25 fun q hq e => by omega
end Go.Proofs.YtcnpekohkbjnnaaGreatDoor

/- delta.Apply of a delta that makes the text of its base. Conditions: texts below 16384 bytes, at most as many as are allowed. -/
set_option linter.unusedVariables false
namespace Go.Proofs.YtcnpekohkbjnnaaGreatDoor
open Go Vc Go.Proofs

theorem encD_ne (x : Ins) : encD x ≠ [] := by cases x <;> exact List.cons_ne_nil _ _
theorem outD_pos {base : List UInt8} {x : Ins} (h : okD base x) : 1 ≤ (outD base x).length := by
  have := outD_len h
  cases x with
  | plain p => rw [this]; exact h.1
  | copy o n => rw [this]; have := h.1; dsimp only; omega
set_option maxHeartbeats 1600000 in
theorem apply_spec {base t d : ByteArray} {is : List Ins} (hd : IsDel base.data.toList t.data.toList d.data.toList is) (h0 : base.size < 16384) (h1 : t.size < 16384) (hs : d.size ≤ 4611686018427387904) {most : Int} (hm : (t.size : Int) ≤ most) (w : World) :
    Calls Tryz.prog F_delta_Apply #[.string base, .string d, .int .i64 most] w fun e w' => e = .returned (.tuple #[.string t, .int .i64 0]) ∧ Fr (fun _ => False) w w' := by
  refine vc_delta_Apply_ok (R := fun v w' => v = .tuple #[.string t, .int .i64 0] ∧ Fr (fun _ => False) w w') ?_ (fun v w' h => ⟨by rw [h.1], h.2⟩)
  obtain ⟨hok, hout, henc⟩ := hd
  obtain ⟨B, hB⟩ : ∃ B, base.data.toList = B := ⟨_, rfl⟩
  rw [hB] at hok hout henc
  have hBl : B.length = base.size := by rw [← hB, bs_len]
  rw [hBl, bs_len] at henc
  have htl : t.data.toList.length = t.size := bs_len t
  intro w1 hw1 w2 hw2
  have f1 : Fr (fun _ => False) w w1 := by rw [hw1]; exact .alloc _ _ _
  have f2 : Fr (fun _ => False) w1 w2 := by rw [hw2]; exact .alloc _ _ _
  have s1 : w1.heap.size = w.heap.size + 1 := by rw [hw1]; simp
  have a2 : w2.heap[w.heap.size]? = some (.cells #[.string ⟨#[]⟩] T_string (0, 0)) := f2.keep (by rw [hw1]; exact alloc_new _ _) (by simp)
  have b2 : w2.heap[w1.heap.size]? = some (.cells #[.int .i64 0] T_api_Errno (0, 0)) := by rw [hw2]; exact alloc_new _ _
  clear hw1 hw2
  rw [s1] at b2 ⊢
  generalize hA : w.heap.size = A at *
  refine (sizes_spec d h0 h1 henc hs w2).mono ?_
  rintro e w4 ⟨rfl, f4⟩
  have a4 := f4.keep a2 (by simp)
  have b4 := f4.keep b2 (by simp)
  obtain ⟨wb, b9, f9⟩ := one_set b4 (.int .i64 0)
  refine ⟨_, _, _, _, rfl, wb, fun w9 h9 => ?_⟩
  subst h9
  have a9 := f9.keep a4 (by omega)
  have hsA : A + 1 < w4.heap.size := lt_blk b4
  refine ⟨0, one_cell b9, fun h => (by cases h), fun _ => ⟨fun h => ?_, fun _ => ⟨fun h => ?_, fun _ w27 h27 => ?_⟩⟩⟩
  · simp at h
  · have := of_decide_eq_true h; omega
  have f27 : Fr (fun _ => False) (w4.setCell ⟨A + 1, 0, none⟩ (.int .i64 0)) w27 := by rw [h27]; exact .alloc _ _ _
  obtain ⟨C, hC⟩ : ∃ C, (w4.setCell ⟨A + 1, 0, none⟩ (.int .i64 0)).heap.size = C := ⟨_, rfl⟩
  have hCA : A + 1 < C := by rw [← hC]; simpa using hsA
  have hused : (sizedL base.size).length + (sizedL t.size).length ≤ d.size := by
    have := congrArg List.length henc
    rw [bs_len, List.length_append, List.length_append] at this
    omega
  have r27 : RdB w27 C d (is.flatMap encD) ((sizedL base.size).length + (sizedL t.size).length) := by
    refine ⟨by rw [← hC, h27]; exact alloc_new _ _, ?_, hused⟩
    rw [henc, ← List.drop_drop, List.drop_left, List.drop_left]
  have a27 := f27.keep a9 (by simp)
  have b27 := f27.keep b9 (by simp)
  have s27 : w27.heap.size = C + 1 := by rw [h27, ← hC]; simp
  have g27 : Fr (fun _ => False) w w27 := ((((f1.trans' f2).trans' f4).trans f9 fun q hq e => by omega)).trans' f27
  rw [hC]
  clear h27 hC f27 f9 f4 f1 f2 a9 b9 a4 b4 a2 b2 s1 hsA wb
  refine ⟨fun l w' => ∃ (is1 is2 : List Ins) (k : Nat), is = is1 ++ is2 ∧ RdB w' C d (is2.flatMap encD) k ∧ Vc.Own w' (C + 1) T_uint8 l (byteV (is1.flatMap (outD B))) ∧ w'.heap[A]? = some (.cells #[.string ⟨#[]⟩] T_string (0, 0)) ∧ w'.heap[A + 1]? = some (.cells #[.int .i64 0] T_api_Errno (0, 0)) ∧ C + 1 ≤ w'.heap.size ∧ Fr (fun _ => False) w w',
    fun l _ => t.size - l.len, ⟨[], is, _, rfl, r27, Vc.Own.nil _ _ _, a27, b27, by omega, g27⟩, ?_⟩
  clear r27 a27 b27 s27 g27
  rintro l w31 ⟨is1, is2, k, hisp, r31, o31, a31, b31, s31, g31⟩
  have hlen := o31.len
  rw [byteV_length] at hlen
  have hall : (is1.flatMap (outD B)).length + (is2.flatMap (outD B)).length = t.size := by
    rw [← List.length_append, ← List.flatMap_append, ← hisp, hout, htl]
  have hrs := r31.size
  refine ⟨_, r31.c1, fun hlt => ?_, fun hge => ?_⟩
  · have hlt := of_decide_eq_true hlt
    match is2, hisp, r31, hall, hrs with
    | [], hisp, r31, hall, hrs =>
      rw [List.flatMap_nil, List.length_nil] at hrs
      omega
    | x :: is3, hisp, r31, hall, hrs =>
      have hokx : okD B x := hok x (by rw [hisp]; simp)
      have hpos := outD_pos hokx
      rw [List.flatMap_cons] at r31 hrs hall
      rw [List.length_append] at hrs hall
      have hpart : ∀ (s : ByteArray) (w80 : World), s.data.toList = outD B x → RdB w80 C d (is3.flatMap encD) (k + (encD x).length) → Fr (· = C) w31 w80 → ∀ {l' : Sl}, l' = l →
          ∃ (w89 : World) (l90 : Sl), (Builtin.append_ #[T_S_uint8, T_string] T_S_uint8 #[.slice l.a l.len l.cap, .string s]).run Tryz.prog w80 = .ok (.slice l90.a l90.len l90.cap) w89 ∧
            (∃ (is1 is2 : List Ins) (k : Nat), is = is1 ++ is2 ∧ RdB w89 C d (is2.flatMap encD) k ∧ Vc.Own w89 (C + 1) T_uint8 l90 (byteV (is1.flatMap (outD B))) ∧ w89.heap[A]? = some (.cells #[.string ⟨#[]⟩] T_string (0, 0)) ∧ w89.heap[A + 1]? = some (.cells #[.int .i64 0] T_api_Errno (0, 0)) ∧ C + 1 ≤ w89.heap.size ∧ Fr (fun _ => False) w w89) ∧ t.size - l90.len < t.size - l.len := by
        intro s w80 hsx r80 f80 l' _
        have o80 := o31.keep f80 fun y hy e => by have := (o31.blk hy).1; omega
        have hssz : s.size = (outD B x).length := by rw [← bs_len, hsx]
        have s80 := f80.size
        obtain ⟨w89, l90, hr, o89, f89, s89⟩ := append_str (u := T_string) elByte (by kernel_rfl) o80 s (by rw [byteV_length]; omega) (by omega)
        rw [hsx, ← List.map_append, ← flat_snoc] at o89
        have hl90 := o89.len
        rw [byteV_length, flat_snoc, List.length_append] at hl90
        have nb : ∀ q, q ≤ C → ¬ At l q := fun q hq ⟨y, hy, e⟩ => by have := (o31.blk hy).1; omega
        refine ⟨w89, l90, hr, ⟨is1 ++ [x], is3, k + (encD x).length, by rw [hisp]; simp, r80.keep f89 (nb C (Nat.le_refl _)), o89, f89.keep (f80.keep a31 (by omega)) (nb A (by omega)), f89.keep (f80.keep b31 (by omega)) (nb (A + 1) (by omega)), by have := f89.size; omega, (g31.trans f80 fun q hq e => by omega).trans f89 fun q hq hx => nb q (by omega) hx⟩, by omega⟩
      have hfin : ∀ (s : ByteArray) (w80 : World), s.data.toList = outD B x → RdB w80 C d (is3.flatMap encD) (k + (encD x).length) → Fr (· = C) w31 w80 → IntKind.i64.wrap ((t.size : Int) - (l.len : Int)) = ((t.size - l.len : Nat) : Int) ∧ ¬ ((s.size : Int) > ((t.size - l.len : Nat) : Int)) := fun s w80 hsx _ _ => by
        have hssz : s.size = (outD B x).length := by rw [← bs_len, hsx]
        exact ⟨by rw [wrap_i64 (by omega) (by omega)]; omega, by omega⟩
      cases x with
      | plain p =>
        obtain ⟨hp1, hp2⟩ := hokx
        have hencx : encD (.plain p) = UInt8.ofNat p.length :: p := rfl
        rw [hencx] at r31 hrs
        rw [List.length_cons] at hrs
        refine (dbyte_spec (show RdB w31 C d (UInt8.ofNat p.length :: (p ++ is3.flatMap encD)) k from r31) hs).mono ?_
        rintro e w34 ⟨rfl, r34, f34⟩
        rw [toNat_of _ (by omega)]
        obtain ⟨hwr, r58, f58⟩ := r34.move (n := p.length) rfl
        have e1 : IntKind.i64.wrap ((d.size : Int) - ((k + 1 : Nat) : Int)) = ((d.size - (k + 1) : Nat) : Int) := by rw [wrap_i64 (by omega) (by omega)]; omega
        have e2 : IntKind.i64.wrap (((k + 1 : Nat) : Int) + (p.length : Int)) = ((k + 1 + p.length : Nat) : Int) := by rw [wrap_i64 (by omega) (by omega)]; omega
        refine ⟨_, rfl, fun s w' => s.data.toList = outD B (.plain p) ∧ RdB w' C d (is3.flatMap encD) (k + (encD (.plain p)).length) ∧ Fr (· = C) w31 w', ⟨fun hz => ?_, fun _ => ⟨fun _ => ⟨_, r34.c1, fun hb => ?_, fun _ => ⟨_, r34.c1, _, r34.c1, ?_⟩⟩, fun hb => ?_⟩⟩, ?_⟩
        · have : (p.length : Int) = 0 := by simpa using hz
          omega
        · rw [e1] at hb
          have := of_decide_eq_true hb
          omega
        · rw [e2]
          refine ⟨⟨by omega, by omega, by omega⟩, fun w56 d56 => ?_⟩
          have f56 : Fr (fun _ => False) w34 w56 := .drew _ d56
          have r56 := r34.keep f56 (by simp)
          obtain ⟨hwr, r58, f58⟩ := r56.move (n := p.length) rfl
          refine ⟨_, r56.c1, hwr, fun w58 h58 => ?_⟩
          rw [e2] at h58
          subst h58
          refine ⟨?_, ?_, (f34.trans' (f56.mono fun _ _ h => h.elim)).trans' f58⟩
          · rw [Int.toNat_natCast, Int.toNat_natCast, bs_extract, r34.2.1, show k + 1 + p.length - (k + 1) = p.length by omega, List.take_left]; rfl
          · rw [hencx, List.length_cons, show k + (p.length + 1) = k + 1 + p.length by omega]; exact r58
        · have := of_decide_eq_false hb
          omega
        · rintro s w80 ⟨hsx, r80, f80⟩
          obtain ⟨ew, hng⟩ := hfin s w80 hsx r80 f80
          rw [ew]
          exact ⟨fun hb => absurd (of_decide_eq_true hb) hng, fun _ => hpart s w80 hsx r80 f80 rfl⟩
      | copy o n =>
        obtain ⟨hn4, hn6, hon⟩ := hokx
        have hcf : 128 + cflag o n 7 < 256 := by have := cflag_lt o n 7; omega
        have hencx : encD (.copy o n) = UInt8.ofNat (128 + cflag o n 7) :: cpbs o n 0 7 := rfl
        rw [hencx] at r31 hrs
        rw [List.length_cons] at hrs
        refine (dbyte_spec (show RdB w31 C d (UInt8.ofNat (128 + cflag o n 7) :: (cpbs o n 0 7 ++ is3.flatMap encD)) k from r31) hs).mono ?_
        rintro e w34 ⟨rfl, r34, f34⟩
        rw [toNat_of _ hcf]
        refine ⟨_, rfl, fun s w' => s.data.toList = outD B (.copy o n) ∧ RdB w' C d (is3.flatMap encD) (k + (encD (.copy o n)).length) ∧ Fr (· = C) w31 w', ⟨fun hz => ?_, fun _ => ⟨fun hb => ?_, fun _ => (dcopied_spec (by omega) hn6 (by omega) r34 hs).mono ?_⟩⟩, ?_⟩
        · have : ((128 + cflag o n 7 : Nat) : Int) = 0 := by simpa using hz
          omega
        · have := of_decide_eq_true hb
          omega
        · rintro e w60 ⟨rfl, r60, f60⟩
          have e1 : IntKind.i64.wrap ((base.size : Int) - (n : Int)) = ((base.size - n : Nat) : Int) := by rw [wrap_i64 (by omega) (by omega)]; omega
          have e2 : IntKind.i64.wrap ((o : Int) + (n : Int)) = ((o + n : Nat) : Int) := by rw [wrap_i64 (by omega) (by omega)]; omega
          refine ⟨_, _, rfl, fun hb => ?_, fun _ => ?_⟩
          · have := of_decide_eq_true hb
            omega
          rw [e1, e2]
          refine ⟨fun hb => ?_, fun _ => ⟨⟨by omega, by omega, by omega⟩, ?_, ?_, f34.trans' f60⟩⟩
          · have := of_decide_eq_true hb
            omega
          · rw [Int.toNat_natCast, Int.toNat_natCast, bs_extract, hB, show o + n - o = n by omega]; rfl
          · rw [hencx, List.length_cons, show k + ((cpbs o n 0 7).length + 1) = k + 1 + (cpbs o n 0 7).length by omega]; exact r60
        · rintro s w80 ⟨hsx, r80, f80⟩
          obtain ⟨ew, hng⟩ := hfin s w80 hsx r80 f80
          rw [ew]
          exact ⟨fun hb => absurd (of_decide_eq_true hb) hng, fun _ => hpart s w80 hsx r80 f80 rfl⟩
  · have hge := of_decide_eq_false hge
    have hl0 : (is2.flatMap encD).length = 0 := by omega
    have hi2 : is2 = [] := by
      cases is2 with
      | nil => rfl
      | cons x r =>
        rw [List.flatMap_cons, List.length_append] at hl0
        exact absurd (List.eq_nil_of_length_eq_zero (by omega)) (encD_ne x)
    subst hi2
    rw [List.append_nil] at hisp
    subst hisp
    rw [hout] at o31 hlen
    refine ⟨fun hb => ?_, fun _ => ⟨w31, t, ?_, ?_⟩⟩
    · have := of_decide_eq_true hb
      omega
    · have := bytes_str (P := Tryz.prog) (t := T_S_uint8) (e := T_uint8) (d := T_string) (by kernel_rfl) (by kernel_rfl) (by kernel_rfl) l.cap o31.reads (by omega : t.data.toList.length = l.len)
      rw [bs_self] at this
      exact this
    · obtain ⟨wa, a101, f101⟩ := one_set a31 (.string t)
      refine ⟨wa, fun w101 h101 => ?_⟩
      subst h101
      obtain ⟨wb, b102, f102⟩ := one_set (f101.keep b31 (by omega)) (.int .i64 0)
      refine ⟨wb, fun w102 h102 => ?_⟩
      subst h102
      refine (apply_idle _ _ _).mono ?_
      rintro e u w105 ⟨rfl, rfl, rfl⟩
      exact ⟨⟨_, rfl⟩, rfl, _, dload_one (by kernel_rfl) (one_cell (f102.keep a101 (by omega))), _, dload_one (by kernel_rfl) (one_cell b102), rfl, (g31.trans f101 fun q hq e => by omega).trans f102 fun q hq e => by omega⟩
end Go.Proofs.YtcnpekohkbjnnaaGreatDoor

/- Formulas of 1 Go functions of this seat (written by a program of the author's, vcgen.py), and that each is enough for the call. No condition. -/
set_option linter.unusedVariables false
namespace Go.Proofs.YtcnpekohkbjnnaaGreatDoor
open Go Vc Go.Proofs
set_option maxRecDepth 100000
/-- cartularylaw01.Few -/
def vc_cartularylaw01_Few (x0 : ByteArray) (x1 : Int) (w : World) (R : Value → World → Prop) : Prop :=
  (((decide ((↑(ByteArray.size x0) : Int) > x1) = true →
     ((0 ≤ x1 ∧
       x1 ≤ (↑(ByteArray.size x0) : Int)) ∧
      R (Value.string (ByteArray.extract x0 0 (Int.toNat x1))) w))) ∧
   (decide ((↑(ByteArray.size x0) : Int) > x1) = false →
     R (Value.string x0) w))
theorem vc_cartularylaw01_Few_ok {x0 : ByteArray} {x1 : Int} {w : World} {R : Value → World → Prop} {R' : Ending → World → Prop} (h : vc_cartularylaw01_Few x0 x1 w R) (hR : ∀ v w', R v w' → R' (.returned v) w') :
    Calls Tryz.prog 4 #[.string x0, .int .i64 x1] w R' :=
  calls_of_body (vs := [(.string x0, false), (.int .i64 x1, false)]) (ty := ty) (ann := ⟨[], [], [], []⟩) (c := Tryz.f4.body.getD .skip) (by kernel_rfl) Tryz.func4 (by kernel_rfl) (by kernel_rfl) (Eq.mp (by kernel_rfl) h) hR
end Go.Proofs.YtcnpekohkbjnnaaGreatDoor

/- The law's Few of a text. No condition. -/
set_option linter.unusedVariables false
namespace Go.Proofs.YtcnpekohkbjnnaaGreatDoor
open Go Vc Go.Proofs

theorem fewS_spec (s : ByteArray) (n : Nat) (w : World) : Calls Tryz.prog F_cartularylaw01_Few #[.string s, .int .i64 n] w fun e w' => e = .returned (.string (if s.size > n then s.extract 0 n else s)) ∧ w' = w := by
  refine vc_cartularylaw01_Few_ok (R := fun v w' => v = .string (if s.size > n then s.extract 0 n else s) ∧ w' = w) ?_ (fun v w' h => ⟨by rw [h.1], h.2⟩)
  refine ⟨fun h => ?_, fun h => ?_⟩
  · have h := of_decide_eq_true h
    rw [if_pos (by omega)]
    exact ⟨⟨by omega, by omega⟩, by simp, rfl⟩
  · have h := of_decide_eq_false h
    rw [if_neg (by omega)]
    exact ⟨rfl, rfl⟩
theorem fewS_len (s : ByteArray) (n : Nat) : (if s.size > n then s.extract 0 n else s).size ≤ n := by
  split
  · simp; omega
  · omega
end Go.Proofs.YtcnpekohkbjnnaaGreatDoor

/- Formulas of 1 Go functions of this seat (written by a program of the author's, vcgen.py), and that each is enough for the call. No condition. -/
set_option linter.unusedVariables false
namespace Go.Proofs.YtcnpekohkbjnnaaGreatDoor
open Go Vc Go.Proofs
set_option maxRecDepth 100000
/-- cartularytop.CartularyTold -/
def vc_cartularytop_CartularyTold (x0 : ByteArray) (x1 : ByteArray) (w : World) (R : Value → World → Prop) : Prop :=
  Calls Tryz.prog (4 : Nat) (Array.mk [Value.string x0, Value.int IntKind.i64 400]) (w) (fun e1 w2 =>
    ∃ s3 : ByteArray, (e1 = Ending.returned (Value.string s3) ∧
     Calls Tryz.prog (4 : Nat) (Array.mk [Value.string x1, Value.int IntKind.i64 400]) (w2) (fun e4 w5 =>
       ∃ s6 : ByteArray, (e4 = Ending.returned (Value.string s6) ∧
        Calls Tryz.prog (5 : Nat) (Array.mk [Value.string s3, Value.string s6]) (w5) (fun e7 w8 =>
          ∃ s9 : ByteArray, (e7 = Ending.returned (Value.string s9) ∧
           Calls Tryz.prog (6 : Nat) (Array.mk [Value.agg (Array.mk [Value.int IntKind.i64 3, Value.string s3])]) (w8) (fun e10 w11 =>
             ∃ s12 : ByteArray, ∃ s13 : ByteArray, ∃ n14 : Int, (e10 = Ending.returned (Value.tuple (Array.mk [Value.agg (Array.mk [Value.string s12, Value.string s13]), Value.int IntKind.i64 n14])) ∧
              ∀ w15 : World,
              (w15 = World.alloc w11 (Obj.cells (Array.mk [Value.string (ByteArray.mk (Array.mk [])), Value.string (ByteArray.mk (Array.mk []))]) 25) →
                ∃ w16 : World, (Sem.run Tryz.prog (storeVar 25 (Addr.mk (Array.size (World.heap w11)) 0 none) (Value.agg (Array.mk [Value.string s12, Value.string s13]))) w15 = Result.ok PUnit.unit w16 ∧
                 Calls Tryz.prog (6 : Nat) (Array.mk [Value.agg (Array.mk [Value.int IntKind.i64 4, Value.string s9])]) (w16) (fun e17 w18 =>
                   ∃ s19 : ByteArray, ∃ s20 : ByteArray, ∃ n21 : Int, (e17 = Ending.returned (Value.tuple (Array.mk [Value.agg (Array.mk [Value.string s19, Value.string s20]), Value.int IntKind.i64 n21])) ∧
                    ∀ w22 : World,
                    (w22 = World.alloc w18 (Obj.cells (Array.mk [Value.string (ByteArray.mk (Array.mk [])), Value.string (ByteArray.mk (Array.mk []))]) 25) →
                      ∃ w23 : World, (Sem.run Tryz.prog (storeVar 25 (Addr.mk (Array.size (World.heap w18)) 0 none) (Value.agg (Array.mk [Value.string s19, Value.string s20]))) w22 = Result.ok PUnit.unit w23 ∧
                       ((((n14 != 0) = true →
                          R (Value.bool false) w23)) ∧
                        ((n14 != 0) = false →
                          ((((n21 != 0) = true →
                             R (Value.bool false) w23)) ∧
                           ((n21 != 0) = false →
                             ∃ s24 : ByteArray, (World.cell? w23 (Addr.mk (Array.size (World.heap w11)) 0 none) = some (Value.string s24) ∧
                              ∃ s25 : ByteArray, (World.cell? w23 (Addr.mk (Array.size (World.heap w18)) 0 none) = some (Value.string s25) ∧
                               ((((ByteArray.toList s24 == ByteArray.toList s25) = true →
                                  ∃ s26 : ByteArray, (World.cell? w23 (Addr.mk (Array.size (World.heap w11)) 0 none) = some (Value.string s26) ∧
                                   R (Value.bool !ByteArray.toList s26 == ByteArray.toList (ByteArray.mk (Array.mk []))) w23))) ∧
                                ((ByteArray.toList s24 == ByteArray.toList s25) = false →
                                  ∃ s27 : ByteArray, ∃ s28 : ByteArray, (Sem.run Tryz.prog (loadVar 25 (Addr.mk (Array.size (World.heap w11)) 0 none)) w23 = Result.ok (Value.agg (Array.mk [Value.string s27, Value.string s28])) w23 ∧
                                   ∃ s29 : ByteArray, ∃ s30 : ByteArray, (Sem.run Tryz.prog (loadVar 25 (Addr.mk (Array.size (World.heap w18)) 0 none)) w23 = Result.ok (Value.agg (Array.mk [Value.string s29, Value.string s30])) w23 ∧
                                    ∀ w31 : World,
                                    (w31 = World.alloc w23 (Obj.cells (Array.mk [Value.string s27, Value.string s28, Value.string s29, Value.string s30]) 25) →
                                      Calls Tryz.prog (7 : Nat) (Array.mk [Value.slice (some (Addr.mk (Array.size (World.heap w23)) 0 none)) 2 2]) (w31) (fun e32 w33 =>
                                        ∃ p34 : Option Addr, ∃ n35 : Int, (e32 = Ending.returned (Value.tuple (Array.mk [Value.pointer p34, Value.int IntKind.i64 n35])) ∧
                                         ((((n35 != 0) = true →
                                            R (Value.bool false) w33)) ∧
                                          ((n35 != 0) = false →
                                            (((Option.isNone p34 = true →
                                               R (Value.bool false) w33)) ∧
                                             (Option.isNone p34 = false →
                                               Calls Tryz.prog (8 : Nat) (Array.mk [Value.pointer p34]) (w33) (fun e36 w37 =>
                                                 ∃ l38 : Sl, (e36 = Ending.returned (Value.slice l38.1 l38.2 l38.3) ∧
                                                  (((((↑l38.2 : Int) != 2) = true →
                                                     R (Value.bool false) w37)) ∧
                                                   (((↑l38.2 : Int) != 2) = false →
                                                     ∃ I39 : ByteArray → Int → World → Prop, ∃ I40 : ByteArray → Int → World → Nat, (I39 (ByteArray.mk (Array.mk [])) 0 w37 ∧
                                                      ∀ s41 : ByteArray,
                                                      ∀ n42 : Int,
                                                      ∀ w43 : World,
                                                      (I39 s41 n42 w43 →
                                                        (((decide (n42 < (↑l38.2 : Int)) = true →
                                                           ((0 ≤ n42 ∧
                                                             n42 < (↑l38.2 : Int)) ∧
                                                            ∃ a44 : Addr, (l38.1 = some a44 ∧
                                                             ∃ s45 : ByteArray, (World.cell? w43 (Addr.add a44 (Int.toNat n42 * 1)) = some (Value.string s45) ∧
                                                              Calls Tryz.prog (9 : Nat) (Array.mk [Value.pointer p34, Value.string s45]) (w43) (fun e46 w47 =>
                                                                ∃ n48 : Int, ∃ s49 : ByteArray, ∃ n50 : Int, (e46 = Ending.returned (Value.tuple (Array.mk [Value.agg (Array.mk [Value.int IntKind.i64 n48, Value.string s49]), Value.int IntKind.i64 n50])) ∧
                                                                 ∀ w51 : World,
                                                                 (w51 = World.alloc w47 (Obj.cells (Array.mk [Value.int IntKind.i64 0, Value.string (ByteArray.mk (Array.mk []))]) 30) →
                                                                   ∃ w52 : World, (Sem.run Tryz.prog (storeVar 30 (Addr.mk (Array.size (World.heap w47)) 0 none) (Value.agg (Array.mk [Value.int IntKind.i64 n48, Value.string s49]))) w51 = Result.ok PUnit.unit w52 ∧
                                                                    ((((n50 != 0) = true →
                                                                       R (Value.bool false) w52)) ∧
                                                                     ((n50 != 0) = false →
                                                                       ∃ n53 : Int, (World.cell? w52 (Addr.mk (Array.size (World.heap w47)) 0 none) = some (Value.int IntKind.i64 n53) ∧
                                                                        ((((n53 == 4) = true →
                                                                           ∃ s54 : ByteArray, (World.cell? w52 (Addr.mk (Array.size (World.heap w47)) 1 none) = some (Value.string s54) ∧
                                                                            (I39 s54 (IntKind.wrap IntKind.i64 (n42 + 1)) w52 ∧
                                                                             I40 s54 (IntKind.wrap IntKind.i64 (n42 + 1)) w52 < I40 s41 n42 w43)))) ∧
                                                                         ((n53 == 4) = false →
                                                                           (I39 s41 (IntKind.wrap IntKind.i64 (n42 + 1)) w52 ∧
                                                                            I40 s41 (IntKind.wrap IntKind.i64 (n42 + 1)) w52 < I40 s41 n42 w43))))))))))))))) ∧
                                                         (decide (n42 < (↑l38.2 : Int)) = false →
                                                           Calls Tryz.prog (10 : Nat) (Array.mk [Value.agg (Array.mk [Value.int IntKind.i64 3, Value.string s3])]) (w43) (fun e55 w56 =>
                                                             ∃ s57 : ByteArray, ∃ n58 : Int, (e55 = Ending.returned (Value.tuple (Array.mk [Value.string s57, Value.int IntKind.i64 n58])) ∧
                                                              Calls Tryz.prog (9 : Nat) (Array.mk [Value.pointer p34, Value.string s57]) (w56) (fun e59 w60 =>
                                                                ∃ n61 : Int, ∃ s62 : ByteArray, ∃ n63 : Int, (e59 = Ending.returned (Value.tuple (Array.mk [Value.agg (Array.mk [Value.int IntKind.i64 n61, Value.string s62]), Value.int IntKind.i64 n63])) ∧
                                                                 ∀ w64 : World,
                                                                 (w64 = World.alloc w60 (Obj.cells (Array.mk [Value.int IntKind.i64 0, Value.string (ByteArray.mk (Array.mk []))]) 30) →
                                                                   ∃ w65 : World, (Sem.run Tryz.prog (storeVar 30 (Addr.mk (Array.size (World.heap w60)) 0 none) (Value.agg (Array.mk [Value.int IntKind.i64 n61, Value.string s62]))) w64 = Result.ok PUnit.unit w65 ∧
                                                                    ∃ s66 : ByteArray, (World.cell? w65 (Addr.mk (Array.size (World.heap w60)) 1 none) = some (Value.string s66) ∧
                                                                     Calls Tryz.prog (11 : Nat) (Array.mk [Value.string s66, Value.string s41, Value.int IntKind.i64 (↑(ByteArray.size s6) : Int)]) (w65) (fun e67 w68 =>
                                                                       ∃ s69 : ByteArray, ∃ n70 : Int, (e67 = Ending.returned (Value.tuple (Array.mk [Value.string s69, Value.int IntKind.i64 n70])) ∧
                                                                        Calls Tryz.prog (10 : Nat) (Array.mk [Value.agg (Array.mk [Value.int IntKind.i64 3, Value.string s6])]) (w68) (fun e71 w72 =>
                                                                          ∃ s73 : ByteArray, ∃ n74 : Int, (e71 = Ending.returned (Value.tuple (Array.mk [Value.string s73, Value.int IntKind.i64 n74])) ∧
                                                                           ∃ n75 : Int, (World.cell? w72 (Addr.mk (Array.size (World.heap w60)) 0 none) = some (Value.int IntKind.i64 n75) ∧
                                                                            Calls Tryz.prog (10 : Nat) (Array.mk [Value.agg (Array.mk [Value.int IntKind.i64 n75, Value.string s69])]) (w72) (fun e76 w77 =>
                                                                              ∃ s78 : ByteArray, ∃ n79 : Int, (e76 = Ending.returned (Value.tuple (Array.mk [Value.string s78, Value.int IntKind.i64 n79])) ∧
                                                                               ((((n63 == 0) = true →
                                                                                  ((((n70 == 0) = true →
                                                                                     ((((ByteArray.toList s69 == ByteArray.toList s6) = true →
                                                                                        ((((ByteArray.toList s78 == ByteArray.toList s73) = true →
                                                                                           R (Value.bool ((↑(ByteArray.size s73) : Int) == 40)) w77)) ∧
                                                                                         ((ByteArray.toList s78 == ByteArray.toList s73) = false →
                                                                                           R (Value.bool false) w77)))) ∧
                                                                                      ((ByteArray.toList s69 == ByteArray.toList s6) = false →
                                                                                        R (Value.bool false) w77)))) ∧
                                                                                   ((n70 == 0) = false →
                                                                                     R (Value.bool false) w77)))) ∧
                                                                                ((n63 == 0) = false →
                                                                                  R (Value.bool false) w77)))))))))))))))))))))))))))))))))))))))))))))))))))))))
theorem vc_cartularytop_CartularyTold_ok {x0 : ByteArray} {x1 : ByteArray} {w : World} {R : Value → World → Prop} {R' : Ending → World → Prop} (h : vc_cartularytop_CartularyTold x0 x1 w R) (hR : ∀ v w', R v w' → R' (.returned v) w') :
    Calls Tryz.prog 3 #[.string x0, .string x1] w R' :=
  calls_of_body (vs := [(.string x0, false), (.string x1, false)]) (ty := ty) (ann := ⟨[], [(18, [(12, .str), (80, .int .i64)])], [], []⟩) (c := Tryz.f3.body.getD .skip) (by kernel_rfl) Tryz.func3 (by kernel_rfl) (by kernel_rfl) (Eq.mp (by kernel_rfl) h) hR
end Go.Proofs.YtcnpekohkbjnnaaGreatDoor

/- The law CartularyTold walked. Conditions: Itoa's table is as laid, the library's variable holds some number. -/
set_option linter.unusedVariables false
namespace Go.Proofs.YtcnpekohkbjnnaaGreatDoor
open Go Vc HexM ShaM Go.Proofs

theorem idS_len (k : Int) (d : ByteArray) : (idS k d).size = 40 := (isId_parts (idO k d)).1
/-- Two files of objects: their snap is in order. -/
theorem two_ok {f g : FileE} (hf : cleanB f.path = true) (hg : cleanB g.path = true) (hfs : f.path.size = 49) (hgs : g.path.size = 49) (hne : f.path ≠ g.path) : NewOK [f, g] := by
  have nb : ∀ {x y : FileE}, x.path.size = 49 → y.path.size = 49 → begB y.path (x.path ++ ⟨#[47]⟩) = false := fun {x y} hx hy => by
    unfold begB
    refine decide_eq_false fun h => ?_
    have := h.length_le
    rw [bs_len, bs_len, ByteArray.size_append] at this
    have h1 : (⟨#[47]⟩ : ByteArray).size = 1 := rfl
    omega
  refine ⟨fun i x hx => ?_, fun x hx => ?_⟩
  · match i, hx with
    | 0, hx =>
      simp only [List.getElem?_cons_zero, Option.some.injEq] at hx
      subst hx
      exact ⟨hf, fun y h => by omega⟩
    | 1, hx =>
      simp only [List.getElem?_cons_succ, List.getElem?_cons_zero, Option.some.injEq] at hx
      subst hx
      refine ⟨hg, fun y _ hy => ?_⟩
      simp only [Nat.sub_self, List.getElem?_cons_zero, Option.some.injEq] at hy
      subst hy
      exact hne
    | i + 2, hx => simp at hx
  · simp only [List.mem_cons, List.mem_nil_iff, or_false] at hx
    unfold underE
    rcases hx with rfl | rfl
    · rw [List.filter_cons_of_neg (by rw [nb hfs hfs]; simp), List.filter_cons_of_neg (by rw [nb hfs hgs]; simp)]; rfl
    · rw [List.filter_cons_of_neg (by rw [nb hgs hfs]; simp), List.filter_cons_of_neg (by rw [nb hgs hgs]; simp)]; rfl
theorem perm_two {f g : FileE} {ys : List FileE} (h : ys.Perm [f, g]) (hne : f.path ≠ g.path) : ys = [f, g] ∨ ys = [g, f] := by
  match ys, h.length_eq with
  | [u, v], _ =>
    have hu := h.subset (show u ∈ [u, v] by simp)
    have hv := h.subset (show v ∈ [u, v] by simp)
    have hf := h.symm.subset (show f ∈ [f, g] by simp)
    have hg := h.symm.subset (show g ∈ [f, g] by simp)
    simp only [List.mem_cons, List.mem_nil_iff, or_false] at hu hv hf hg
    rcases hu with rfl | rfl <;> rcases hv with rfl | rfl
    · rcases hg with rfl | rfl <;> exact absurd rfl hne
    · exact .inl rfl
    · exact .inr rfl
    · rcases hf with rfl | rfl <;> exact absurd rfl hne
set_option maxHeartbeats 1600000 in
theorem told_walk (a0 a1 : ByteArray) {W : World} (h10 : Tab10 W) (hml : MaxL W) : Calls Tryz.prog F_cartularytop_CartularyTold #[.string a0, .string a1] W fun e w' => e = .returned (.bool true) ∧ RowKit.Below W.heap.size W w' := by
  refine vc_cartularytop_CartularyTold_ok (R := fun v w' => v = .bool true ∧ Fr (fun _ => False) W w') ?_ (fun v w' h => ⟨by rw [h.1], (h.2.mono fun _ _ h => h.elim : Fr (fun k => W.heap.size ≤ k) W w').below (Nat.le_refl _)⟩)
  refine (fewS_spec a0 400 W).mono ?_
  rintro e w2 ⟨rfl, hw⟩
  replace hw := hw.symm
  subst hw
  refine ⟨_, rfl, (fewS_spec a1 400 W).mono ?_⟩
  rintro e w5 ⟨rfl, hw⟩
  replace hw := hw.symm
  subst hw
  have hb400 := fewS_len a0 400
  have ht400 := fewS_len a1 400
  generalize (if a0.size > 400 then a0.extract 0 400 else a0) = base at hb400 ⊢
  generalize (if a1.size > 400 then a1.extract 0 400 else a1) = t at ht400 ⊢
  refine ⟨_, rfl, (make_spec base t (by omega) (by omega) W).mono ?_⟩
  rintro e w8 ⟨d, is, rfl, hD, hds, f8⟩
  have k3 : isKind 3 := .inr (.inr (.inl rfl))
  have k4 : isKind 4 := .inr (.inr (.inr rfl))
  refine ⟨_, rfl, (lwrite_spec 3 k3 base (by omega) (h10.keep f8)).mono ?_⟩
  rintro e w11 ⟨rfl, hF1, f11⟩
  refine ⟨_, _, _, rfl, fun w15 h15 => ?_⟩
  have g11 := f8.trans' f11
  have f15 : Fr (fun _ => False) w11 w15 := by rw [h15]; exact .alloc _ _ _
  have hb15 : w15.heap[w11.heap.size]? = some (.cells #[.string ⟨#[]⟩, .string ⟨#[]⟩] T_api_File (0, 0)) := by rw [h15]; exact alloc_new _ _
  clear h15
  obtain ⟨w16, hr16, hb16, f16⟩ := boxF_store hb15 rfl (pathO (idS 3 base)) (fileO 3 base)
  have f11_16 : Fr (fun _ => False) w11 w16 := f15.trans f16 fun q hq e => by omega
  have g16 := g11.trans' f11_16
  refine ⟨w16, hr16, (lwrite_spec 4 k4 d (by omega) (h10.keep g16)).mono ?_⟩
  rintro e w18 ⟨rfl, hF2, f18⟩
  refine ⟨_, _, _, rfl, fun w22 h22 => ?_⟩
  have g18 := g16.trans' f18
  have f22 : Fr (fun _ => False) w18 w22 := by rw [h22]; exact .alloc _ _ _
  have hb22 : w22.heap[w18.heap.size]? = some (.cells #[.string ⟨#[]⟩, .string ⟨#[]⟩] T_api_File (0, 0)) := by rw [h22]; exact alloc_new _ _
  clear h22
  obtain ⟨w23, hr23, hb23, f23⟩ := boxF_store hb22 rfl (pathO (idS 4 d)) (fileO 4 d)
  have f18_23 : Fr (fun _ => False) w18 w23 := f22.trans f23 fun q hq e => by omega
  have g23 := g18.trans' f18_23
  have hb23a := (f18.trans' f18_23).keep hb16 (by simp)
  have hi1 := idO 3 base
  have hi2 := idO 4 d
  have hp1 := pathO_size (idS_len 3 base)
  have hp2 := pathO_size (idS_len 4 d)
  refine ⟨w23, hr23, fun h => (by cases h), fun _ => ⟨fun h => (by cases h), fun _ => ⟨_, by rw [cell_blk hb23a]; rfl, _, by rw [cell_blk hb23]; rfl, fun heq => ⟨_, by rw [cell_blk hb23a]; rfl, ?_, g23⟩, fun hne => ?_⟩⟩⟩
  · have : ¬ pathO (idS 3 base) = ⟨#[]⟩ := fun e => by
      rw [e] at hp1
      exact absurd hp1 (by decide)
    rw [bs_eq, decide_eq_false this]; rfl
  rw [bs_eq] at hne
  have hpne : pathO (idS 3 base) ≠ pathO (idS 4 d) := of_decide_eq_false hne
  refine ⟨_, _, boxF_load hb23a, _, _, boxF_load hb23, fun w31 h31 => ?_⟩
  have f31 : Fr (fun _ => False) w23 w31 := by rw [h31]; exact .alloc _ _ _
  obtain ⟨f, hf⟩ : ∃ f : FileE, f = ⟨pathO (idS 3 base), fileO 3 base⟩ := ⟨_, rfl⟩
  obtain ⟨g, hg⟩ : ∃ g : FileE, g = ⟨pathO (idS 4 d), fileO 4 d⟩ := ⟨_, rfl⟩
  have hreads : ReadsK encF 2 w31 (some ⟨w23.heap.size, 0, none⟩) [f, g] := fun i z hi => by
    have hc : ∀ j v, #[Value.string (pathO (idS 3 base)), .string (fileO 3 base), .string (pathO (idS 4 d)), .string (fileO 4 d)][j]? = some v → w31.cell? ⟨w23.heap.size, j, none⟩ = some v := fun j v hv => by
      rw [h31, cell_blk (alloc_new w23 _)]; exact hv
    match i, hi with
    | 0, hi =>
      simp only [List.getElem?_cons_zero, Option.some.injEq] at hi
      subst hi
      refine ⟨_, rfl, fun j u hv => ?_⟩
      rw [Nat.zero_mul, add_lit, add_lit]
      rw [hf] at hv
      match j, hv with
      | 0, hv => exact hc 0 u (by simpa [encF] using hv)
      | 1, hv => exact hc 1 u (by simpa [encF] using hv)
      | j + 2, hv => simp [encF] at hv
    | 1, hi =>
      simp only [List.getElem?_cons_succ, List.getElem?_cons_zero, Option.some.injEq] at hi
      subst hi
      refine ⟨_, rfl, fun j u hv => ?_⟩
      rw [Nat.one_mul, add_lit, add_lit]
      rw [hg] at hv
      match j, hv with
      | 0, hv => exact hc 2 u (by simpa [encF] using hv)
      | 1, hv => exact hc 3 u (by simpa [encF] using hv)
      | j + 2, hv => simp [encF] at hv
    | i + 2, hi => simp at hi
  clear h31
  have g31 := g23.trans' f31
  have hfs1 := fileO_size k3 (show base.size ≤ 65000 by omega) hF1
  have hfs2 := fileO_size k4 (show d.size ≤ 65000 by omega) hF2
  have htot : totalF [f, g] = (fileO 3 base).size + (fileO 4 d).size := by rw [hf, hg]; simp [totalF]
  have hfp : f.path = pathO (idS 3 base) := by rw [hf]
  have hgp : g.path = pathO (idS 4 d) := by rw [hg]
  have hfg : f.path ≠ g.path := by rw [hfp, hgp]; exact hpne
  refine (new_spec (n := 2) (c := 2) hreads rfl (by decide) (by rw [htot]; omega) (fun x hx => ?_) (fun W' => AnyF.slices_SortFunc_none sortLays none 0 _ W')).mono ?_
  · simp only [List.mem_cons, List.mem_nil_iff, or_false] at hx
    rcases hx with rfl | rfl
    · rw [hfp, hp1]; decide
    · rw [hgp, hp2]; decide
  rintro e w33 ⟨v, rfl, f33, hN⟩
  rcases hN with ⟨_, h⟩ | ⟨_, _, ys, hp, hris, hN⟩
  · rw [htot] at h
    rcases h with h | h
    · simp at h
    · omega
  have hyc := perm_two hp hfg
  have hok : NewOK ys := by
    rcases hyc with rfl | rfl
    · exact two_ok (by rw [hfp]; exact pathO_clean hi1) (by rw [hgp]; exact pathO_clean hi2) (by rw [hfp, hp1]) (by rw [hgp, hp2]) hfg
    · exact two_ok (by rw [hgp]; exact pathO_clean hi2) (by rw [hfp]; exact pathO_clean hi1) (by rw [hgp, hp2]) (by rw [hfp, hp1]) (Ne.symm hfg)
  rcases hN with ⟨hno, rfl⟩ | ⟨_, b, lf, rfl, _, hS⟩
  · exact absurd hok hno
  have g33 := g31.trans' f33
  have hg1 : getE ys (pathO (idS 3 base)) = (fileO 3 base, 0) := by
    unfold getE
    rcases hyc with rfl | rfl
    · rw [List.find?_cons_of_pos (by rw [hfp]; simp), hf]
    · rw [List.find?_cons_of_neg (by rw [hgp]; simpa using Ne.symm hpne), List.find?_cons_of_pos (by rw [hfp]; simp), hf]
  have hg2 : getE ys (pathO (idS 4 d)) = (fileO 4 d, 0) := by
    unfold getE
    rcases hyc with rfl | rfl
    · rw [List.find?_cons_of_neg (by rw [hfp]; simpa using hpne), List.find?_cons_of_pos (by rw [hgp]; simp), hg]
    · rw [List.find?_cons_of_pos (by rw [hgp]; simp), hg]
  obtain ⟨ids, hids, hil, him, hi2m⟩ : ∃ ids : List ByteArray, ys.map (·.path) = ids.map pathO ∧ ids.length = 2 ∧ (∀ id ∈ ids, id = idS 3 base ∨ id = idS 4 d) ∧ idS 4 d ∈ ids := by
    rcases hyc with rfl | rfl
    · exact ⟨[idS 3 base, idS 4 d], by simp [hfp, hgp], rfl, by simp, by simp⟩
    · exact ⟨[idS 4 d, idS 3 base], by simp [hfp, hgp], rfl, fun id h => by simp only [List.mem_cons, List.mem_nil_iff, or_false] at h; exact h.symm, by simp⟩
  refine ⟨some ⟨b, 0, none⟩, 0, rfl, fun h => (by cases h), fun _ => ⟨fun h => (by cases h), fun _ => (llist_spec hS hris hids (fun id h => ?_) (by omega) (hml.keep g33)).mono ?_⟩⟩
  · rcases him id h with rfl | rfl
    · exact hi1
    · exact hi2
  rintro e w37 ⟨l38, rfl, o38, f37⟩
  have hl38 : l38.len = 2 := by have := o38.len; simp only [strV, List.length_map] at this; omega
  have g37 := g33.trans' f37
  refine ⟨l38, rfl, fun h => ?_, fun _ => ⟨fun out m w' => ∃ k : Nat, m = k ∧ k ≤ 2 ∧ (idS 4 d ∈ ids.take k → out = d) ∧ Fr (fun _ => False) w37 w', fun _ m _ => 2 - m.toNat, ⟨0, rfl, by decide, fun h => by simp at h, .refl _ _⟩, ?_⟩⟩
  · rw [hl38] at h; cases h
  rintro out m w43 ⟨k, rfl, hk, hout, f43⟩
  have hS43 := hS.keep (f37.trans' f43)
  have g43 := g37.trans' f43
  refine ⟨fun hlt => ?_, fun hge => ?_⟩
  · have hlt := of_decide_eq_true hlt
    have hkl : k < ids.length := by omega
    have hik : ids[k]? = some ids[k] := List.getElem?_eq_getElem hkl
    have htk : ids.take (k + 1) = ids.take k ++ [ids[k]] := (List.take_append_getElem hkl).symm
    have himk := him _ (List.getElem_mem hkl)
    generalize ids[k] = id at hik htk himk
    obtain ⟨x, hx, hc⟩ := (o38.keep f43 (by simp)).reads k (.string id) (by simp [strV, hik])
    have e1 : IntKind.i64.wrap ((k : Int) + 1) = ((k + 1 : Nat) : Int) := by rw [wrap_i64 (by omega) (by omega)]; omega
    rw [e1, Int.toNat_natCast, Nat.mul_one]
    refine ⟨⟨by omega, by omega⟩, x, hx, id, hc, ?_⟩
    rcases himk with rfl | rfl
    · refine (lread_spec k3 (show base.size ≤ 65000 by omega) hF1 (h10.keep g43) hS43 hris hg1).mono ?_
      rintro e w47 ⟨rfl, f47⟩
      refine ⟨_, _, _, rfl, fun w51 h51 => ?_⟩
      have f51 : Fr (fun _ => False) w47 w51 := by rw [h51]; exact .alloc _ _ _
      have hb51 : w51.heap[w47.heap.size]? = some (.cells #[.int .i64 0, .string ⟨#[]⟩] T_api_Object (0, 0)) := by rw [h51]; exact alloc_new _ _
      clear h51
      obtain ⟨w52, hr52, hb52, f52⟩ := boxO_store hb51 rfl 3 base
      refine ⟨w52, hr52, fun h => (by cases h), fun _ => ⟨_, by rw [cell_blk hb52]; rfl, fun h => (by cases h), fun _ => ⟨⟨k + 1, rfl, by omega, fun hm => ?_, (f43.trans' f47).trans' (f51.trans f52 fun q hq e => by omega)⟩, by dsimp only; omega⟩⟩⟩
      rw [htk] at hm
      rcases List.mem_append.1 hm with hm | hm
      · exact hout hm
      · rw [List.mem_singleton] at hm
        exact absurd (by rw [hm]) (Ne.symm hpne)
    · refine (lread_spec k4 (show d.size ≤ 65000 by omega) hF2 (h10.keep g43) hS43 hris hg2).mono ?_
      rintro e w47 ⟨rfl, f47⟩
      refine ⟨_, _, _, rfl, fun w51 h51 => ?_⟩
      have f51 : Fr (fun _ => False) w47 w51 := by rw [h51]; exact .alloc _ _ _
      have hb51 : w51.heap[w47.heap.size]? = some (.cells #[.int .i64 0, .string ⟨#[]⟩] T_api_Object (0, 0)) := by rw [h51]; exact alloc_new _ _
      clear h51
      obtain ⟨w52, hr52, hb52, f52⟩ := boxO_store hb51 rfl 4 d
      exact ⟨w52, hr52, fun h => (by cases h), fun _ => ⟨_, by rw [cell_blk hb52]; rfl, fun _ => ⟨_, by rw [cell_blk hb52]; rfl, ⟨k + 1, rfl, by omega, fun _ => rfl, (f43.trans' f47).trans' (f51.trans f52 fun q hq e => by omega)⟩, by dsimp only; omega⟩, fun h => (by cases h)⟩⟩
  · have hge := of_decide_eq_false hge
    have hk2 : k = 2 := by omega
    subst hk2
    have hod : out = d := hout (by rw [List.take_of_length_le (by omega)]; exact hi2m)
    subst hod
    refine (oid_spec 3 base (by omega) (h10.keep g43)).mono ?_
    rintro e w56 ⟨⟨_, rfl⟩ | ⟨hno, rfl⟩, f56⟩
    rotate_left
    · exact absurd k3 hno
    have g56 := g43.trans' f56
    refine ⟨_, _, rfl, (lread_spec k3 (show base.size ≤ 65000 by omega) hF1 (h10.keep g56) (hS43.keep f56) hris hg1).mono ?_⟩
    rintro e w60 ⟨rfl, f60⟩
    refine ⟨_, _, _, rfl, fun w64 h64 => ?_⟩
    have f64 : Fr (fun _ => False) w60 w64 := by rw [h64]; exact .alloc _ _ _
    have hb64 : w64.heap[w60.heap.size]? = some (.cells #[.int .i64 0, .string ⟨#[]⟩] T_api_Object (0, 0)) := by rw [h64]; exact alloc_new _ _
    clear h64
    obtain ⟨w65, hr65, hb65, f65⟩ := boxO_store hb64 rfl 3 base
    have g65 := (g56.trans' f60).trans' (f64.trans f65 fun q hq e => by omega)
    refine ⟨w65, hr65, _, by rw [cell_blk hb65]; rfl, (apply_spec hD (by omega) (by omega) (by omega) (Int.le_refl _) w65).mono ?_⟩
    rintro e w68 ⟨rfl, f68⟩
    have g68 := g65.trans' f68
    refine ⟨_, _, rfl, (oid_spec 3 t (by omega) (h10.keep g68)).mono ?_⟩
    rintro e w72 ⟨⟨_, rfl⟩ | ⟨hno, rfl⟩, f72⟩
    rotate_left
    · exact absurd k3 hno
    have g72 := g68.trans' f72
    refine ⟨_, _, rfl, _, by rw [cell_blk ((f68.trans' f72).keep hb65 (by simp))]; rfl, (oid_spec 3 t (by omega) (h10.keep g72)).mono ?_⟩
    rintro e w77 ⟨⟨_, rfl⟩ | ⟨hno, rfl⟩, f77⟩
    rotate_left
    · exact absurd k3 hno
    have g77 := g72.trans' f77
    refine ⟨_, _, rfl, fun _ => ⟨fun _ => ⟨fun _ => ⟨fun _ => ⟨?_, g77⟩, fun h => ?_⟩, fun h => ?_⟩, fun h => (by cases h)⟩, fun h => (by cases h)⟩
    · rw [idS_len]; rfl
    · simp at h
    · simp at h
end Go.Proofs.YtcnpekohkbjnnaaGreatDoor

/- Slices of structs that came in, opened to cells. No condition: for all programs. -/
set_option linter.unusedVariables false
namespace Vc
open Go Go.ChangeShapes Go.WideShapes Go.Deep
section
variable {H : Type} {enc : TypeId × Value → H} {P : Program} {w : World} {base : Nat} {spare : Nat → Bool} {held : Bool}
/-- What the fields of an element say, its cells say. -/
def FieldsSay (enc : TypeId × Value → H) (P : Program) (w : World) (base : Nat) (spare : Nat → Bool) (held : Bool) (fs : Array Field) (Q : List Value → Prop) : Prop :=
  ∀ n (cs : List Value), cs.length = fs.size → (∀ (j : Nat) (f : Field) (v : Value), fs[j]? = some f → cs[j]? = some v → ∃ y, DataW.trod enc P w base spare held n f.type [v] = some y) → Q cs
theorem open_rows {t e : TypeId} {fs : Array Field} {fuel : Nat} {a : Option Addr} {len cap : Nat} {x : DataW H × List MemPlace} {Q : List Value → Prop} (ht : P.underlying t = some (.slice e)) (he : P.underlying e = some (.struct fs))
    (hone : oneCellFields P fs = true) (hC : P.cellsOf e = fs.size) (hQ : FieldsSay enc P w base spare held fs Q) (h : DataW.trod enc P w base spare held fuel t [.slice a len cap] = some x) : IsRows fs.size Q w a len := by
  intro i hi
  rcases open_slice ht h with ⟨h0, _⟩ | ⟨b, l, c, m, n, D, Pl, hcs, hb, hl, hm, hmm, hx, hi'⟩
  · simp only [List.cons.injEq, Value.slice.injEq] at h0; omega
  · simp only [List.cons.injEq, Value.slice.injEq, and_true] at hcs
    obtain ⟨rfl, rfl, rfl⟩ := hcs
    obtain ⟨cs, hc, htr⟩ := hi' i (by rw [hmm]; split <;> omega)
    obtain ⟨ys, n', _, _, hlen, hyl, hf⟩ := DataW.trod_struct he htr
    obtain ⟨_, hcl, hat⟩ := World.cells?_some hc
    rw [hC] at hcl hat
    refine ⟨b, cs, rfl, hcl, hQ n' cs hcl ?_, ?_⟩
    · intro j f v hj hv
      obtain ⟨ho, hk⟩ := hone_of hone j f hj
      have hjl : j < fs.size := (Array.getElem?_eq_some_iff.1 hj).1
      have h1 := hf j f hj
      have h2 : (cs.drop j).take 1 = [v] := by
        obtain ⟨hjl', hv'⟩ := List.getElem?_eq_some_iff.1 hv
        rw [List.drop_eq_getElem_cons hjl', hv']; rfl
      rw [ho, hk, h2, List.getElem?_eq_getElem (show j < ys.length by omega)] at h1
      exact ⟨_, h1⟩
    · intro j v hv
      have hjl := (List.getElem?_eq_some_iff.1 hv).1
      rw [← hv, ← hat j (by omega), add_add]
/-- As above, and what was read takes no more bytes than memory has. -/
def FieldsSayW (enc : TypeId × Value → H) (P : Program) (w : World) (base : Nat) (spare : Nat → Bool) (held : Bool) (fs : Array Field) (Q : List Value → Prop) : Prop :=
  ∀ n (cs : List Value), cs.length = fs.size → (∀ (j : Nat) (f : Field) (v : Value), fs[j]? = some f → cs[j]? = some v → ∃ y, DataW.trod enc P w base spare held n f.type [v] = some y ∧ (y.1.weights P f.type).all (· ≤ reachBytes) = true) → Q cs
theorem weightsAll_mem {e : TypeId} : ∀ {ds : List (DataW H)} {d : DataW H}, d ∈ ds → ∀ n ∈ d.weights P e, n ∈ DataW.weightsAll P e ds
  | d0 :: ds, d, h, n, hn => by
    simp only [DataW.weightsAll, List.mem_append]
    rcases List.mem_cons.1 h with rfl | h
    · exact .inl hn
    · exact .inr (weightsAll_mem h n hn)
theorem open_rowsW {t e : TypeId} {fs : Array Field} {fuel : Nat} {a : Option Addr} {len cap : Nat} {x : DataW H × List MemPlace} {Q : List Value → Prop} (ht : P.underlying t = some (.slice e)) (he : P.underlying e = some (.struct fs))
    (hone : oneCellFields P fs = true) (hC : P.cellsOf e = fs.size) (hsz : (x.1.weights P t).all (· ≤ reachBytes) = true) (hQ : FieldsSayW enc P w base spare held fs Q) (h : DataW.trod enc P w base spare held fuel t [.slice a len cap] = some x) : IsRows fs.size Q w a len ∧ len ≤ cap := by
  rcases open_slice ht h with ⟨h0, _⟩ | ⟨b, l, c, m, n, D, Pl, hcs, hb, hl, hm, hmm, hx, hi'⟩
  · simp only [List.cons.injEq, Value.slice.injEq, and_true] at h0
    exact ⟨fun i hi => by omega, by omega⟩
  · simp only [List.cons.injEq, Value.slice.injEq, and_true] at hcs
    obtain ⟨rfl, rfl, rfl⟩ := hcs
    refine ⟨fun i hi => ?_, hl⟩
    obtain ⟨cs, hc, htr⟩ := hi' i (by rw [hmm]; split <;> omega)
    have hwD : ((D i).weights P e).all (· ≤ reachBytes) = true := by
      rw [List.all_eq_true] at hsz ⊢
      intro q hq
      refine hsz q ?_
      rw [hx]
      simp only [DataW.weights, ht, List.mem_cons, List.mem_append]
      exact .inr (.inl (weightsAll_mem (List.mem_map.2 ⟨i, List.mem_range.2 hi, rfl⟩) q hq))
    obtain ⟨ys, n', _, hxe, hlen, hyl, hf⟩ := DataW.trod_struct he htr
    obtain ⟨_, hcl, hat⟩ := World.cells?_some hc
    rw [hC] at hcl hat
    refine ⟨b, cs, rfl, hcl, hQ n' cs hcl ?_, ?_⟩
    · intro j f v hj hv
      obtain ⟨ho, hk⟩ := hone_of hone j f hj
      have hjl : j < fs.size := (Array.getElem?_eq_some_iff.1 hj).1
      have h1 := hf j f hj
      have h2 : (cs.drop j).take 1 = [v] := by
        obtain ⟨hjl', hv'⟩ := List.getElem?_eq_some_iff.1 hv
        rw [List.drop_eq_getElem_cons hjl', hv']; rfl
      rw [ho, hk, h2, List.getElem?_eq_getElem (show j < ys.length by omega)] at h1
      refine ⟨_, h1, ?_⟩
      have hDe : D i = .agg (ys.map (·.1)) := by
        have := congrArg Prod.fst hxe
        simpa using this
      rw [hDe] at hwD
      simp only [DataW.weights, he] at hwD
      rw [List.all_eq_true] at hwD ⊢
      intro q hq
      refine hwD q (DataW.weights_mem_each (j := j) (t := f.type) (d := (ys[j]'(by omega)).1) ?_ ?_ q hq)
      · rw [List.getElem?_map, Array.getElem?_toList, hj]; rfl
      · rw [List.getElem?_map, List.getElem?_eq_getElem (show j < ys.length by omega)]; rfl
    · intro j v hv
      have hjl := (List.getElem?_eq_some_iff.1 hv).1
      rw [← hv, ← hat j (by omega), add_add]
/-- A slice of one-celled elements: what an element says, its cell says. -/
theorem open_cells {t e : TypeId} {fuel : Nat} {a : Option Addr} {len cap : Nat} {x : DataW H × List MemPlace} {Q : List Value → Prop} (ht : P.underlying t = some (.slice e)) (hC : P.cellsOf e = 1)
    (hQ : ∀ n v y, DataW.trod enc P w base spare held n e [v] = some y → Q [v]) (h : DataW.trod enc P w base spare held fuel t [.slice a len cap] = some x) : IsRows 1 Q w a len := by
  intro i hi
  rcases open_slice ht h with ⟨h0, _⟩ | ⟨b, l, c, m, n, D, Pl, hcs, hb, hl, hm, hmm, hx, hi'⟩
  · simp only [List.cons.injEq, Value.slice.injEq] at h0; omega
  · simp only [List.cons.injEq, Value.slice.injEq, and_true] at hcs
    obtain ⟨rfl, rfl, rfl⟩ := hcs
    obtain ⟨cs, hc, htr⟩ := hi' i (by rw [hmm]; split <;> omega)
    obtain ⟨_, hcl, hat⟩ := World.cells?_some hc
    rw [hC] at hcl hat
    obtain ⟨v, rfl⟩ : ∃ v, cs = [v] := List.length_eq_one_iff.1 hcl
    refine ⟨b, [v], rfl, rfl, hQ _ v _ htr, ?_⟩
    intro j u hu
    have hjl := (List.getElem?_eq_some_iff.1 hu).1
    rw [← hu, ← hat j hjl, add_add]
end
end Vc

/- CartularyTold: what the row's condition on the listed tables gives: Itoa's table. No condition. -/
set_option linter.unusedVariables false
namespace Go.Proofs.YtcnpekohkbjnnaaGreatDoor
open Go Vc HexM Go.Proofs Go.ChangeShapes Go.WideShapes Go.ChangeAt Go.RowKit

theorem tab10_reads {W : World} (h : Lib.VarReads Tryz.prog W "internal/strconv.uint64pow10" Rows.laid_internal_strconv_uint64pow10) : Tab10 W := by
  obtain ⟨g, t, cs, fuel, p, hg, ht, hv, hdd⟩ := h
  obtain rfl := Option.some.inj ((show Tryz.prog.globalNamed "internal/strconv.uint64pow10" = some G_strconv_uint64pow10 by kernel_rfl).symm.trans hg)
  have hu : ∀ n, (Tryz.prog.globals[G_strconv_uint64pow10]?).map (·.type) = some n → Tryz.prog.underlying n = some (.array 20 T_uint64) ∧ Tryz.prog.cellsOf n = 20 := fun n hn => by
    obtain rfl := Option.some.inj ((show (Tryz.prog.globals[G_strconv_uint64pow10]?).map (·.type) = some T_20_uint64 by kernel_rfl).symm.trans hn)
    exact ⟨by kernel_rfl, by kernel_rfl⟩
  have := Lib.cells_of_tab (k := .u64) (zs := Lib.pow10Tab) (hu t ht).1 (by kernel_rfl) (by kernel_rfl) (hu t ht).2 hdd
  unfold Tab10 Lib.TabIs
  rw [hv, ← this]
theorem tab10_of {W : World} (h : laidMetH Tryz.prog Rows.cartularyToldRow.laid W) : Tab10 W := by
  rw [MakeChecks.laidMetH_plain _ _ _ (by kernel_rfl)] at h
  exact tab10_reads (Lib.laidMet.reads h (n := _) (d := Rows.laid_internal_strconv_uint64pow10) (.tail _ (.tail _ (.head _))))
end Go.Proofs.YtcnpekohkbjnnaaGreatDoor

/- The statement CartularyToldSaid of this seat: for every input the law returns true and its arguments read as they did. No condition. -/
namespace Go.Proofs.YtcnpekohkbjnnaaGreatDoor.cartularyTold
open Go.ChangeShapes Go.WideShapes Go.ChangeAt Go.RowKit
open Go.ChangeMaps (open_string shut_string)
set_option linter.unusedVariables false

theorem own : ownKnob Tryz.prog.godebug = none := by kernel_rfl
theorem laidOut : laidOutB Tryz.prog = true := by kernel_rfl

set_option maxRecDepth 100000 in
theorem lifted (os : Os) (started : os.Started) (H : Type) (enc : TypeId × Value → H) :
    ReturnsInHanded {} Tryz.checked os 3 .any (fun w args => (Rows.cartularyToldSpec.pre enc Tryz.prog Tryz.f3 [] false w args ∧ laidMetH Tryz.prog Rows.cartularyToldRow.laid w) ∧ sizedMet enc Tryz.prog Tryz.f3 (OpenSpec.ofChange Rows.cartularyToldSpec) false w args)
      (Rows.cartularyToldSpec.post enc Tryz.prog Tryz.f3 false true false false) := by
  refine handed_shaped (C := Tryz.checked) (X := fun w _ => laidMetH Tryz.prog Rows.cartularyToldRow.laid w) (fun _ _ _ hh h => h.of_heap hh) own started (by kernel_rfl) Tryz.func3
    (ChangeSpec.witness_shaped (enc := enc) (C := Tryz.checked) (os := os) (X := fun w _ => laidMetH Tryz.prog Rows.cartularyToldRow.laid w) false (World.laidAll Tryz.prog os Rows.cartularyToldRow.laid) #[.string ByteArray.empty, .string ByteArray.empty] 8 (World.laidAll_os _ _ _)
      (World.shaped_of_ZipB (by kernel_rfl) (by kernel_rfl)) (by kernel_rfl) (by kernel_rfl) (by kernel_rfl)
      (by rw [MakeChecks.laidMetH_plain _ _ _ (by kernel_rfl)]; exact laidMet_laidAll _ (by kernel_rfl) (by kernel_rfl))) ?_
  intro W base args ds gs before hval0 hW _ hsz hL hS _
  have hval : ∀ (j : Nat) t v, Tryz.f3.params[j]? = some t → args[j]? = some v → Value.okWide Tryz.prog W .any base t v := hval0
  have hW' := hW
  obtain ⟨p, q, hA0, hV, rfl, hfz, hnd⟩ := hW
  have hA : DataW.TrodAll enc Tryz.prog W 0 (fun _ => true) true Tryz.f3.params.toList args.toList ds p := hA0
  rw [Tryz.params3] at hA hval
  obtain ⟨v0, vs0, d0, ds0, p0, q0, hargs, rfl, rfl, h0, r0⟩ := trodAll_cons hA
  obtain ⟨v1, vs1, d1, ds1, p1, q1, rfl, rfl, rfl, h1, r1⟩ := trodAll_cons r0
  obtain ⟨rfl, rfl, rfl⟩ := trodAll_nil r1
  obtain rfl : args = #[v0, v1] := by cases args; simp_all
  obtain ⟨rfl, rfl⟩ := trodVars_none hV
  obtain ⟨a0, rfl, rfl, rfl, w0⟩ := open_string Tryz.underlying9 (hval 0 9 v0 rfl rfl) h0
  have b0 : a0.size ≤ reachBytes := by have := sized_string hsz (j := 0) (t := 9) rfl rfl; simpa using this
  obtain ⟨a1, rfl, rfl, rfl, w1⟩ := open_string Tryz.underlying9 (hval 1 9 v1 rfl rfl) h1
  have b1 : a1.size ≤ reachBytes := by have := sized_string hsz (j := 1) (t := 9) rfl rfl; simpa using this
  clear hA0 hval0
  refine (told_walk a0 a1 (tab10_of hL) (maxL_of hS)).mono fun e W' ⟨he, bel⟩ => ?_
  subst he
  exact ⟨_, rfl, _, _, _, [], _, [], hW', trodAll_mk1 (shut_bool Tryz.underlying4 _), (trodAll_cons_mk (shut_string Tryz.underlying9 w0) (trodAll_cons_mk (shut_string Tryz.underlying9 w1) trodAll_mk0)), rfl, bel.frame _, fun h => by cases h⟩

theorem over : Rows.cartularyToldRow.holds Tryz.pinned (OpenSpec.ofChange Rows.cartularyToldSpec) :=
  OpenClaim.holds_of_wide 3 Tryz.f3 rfl rfl rfl rfl rfl rfl rfl ⟨rfl, rfl, rfl, rfl, rfl⟩ rfl rfl rfl rfl rfl (by kernel_rfl) Tryz.func3 (by kernel_rfl)
    (of_decide_eq_true (by kernel_rfl)) (by unfold Func.isWrapper; first | (rw [if_pos (by decide +kernel)]; kernel_rfl) | (rw [if_neg (by decide +kernel)]; exact ⟨rfl, rfl⟩))
    (fun os started H enc _ => lifted os started H enc)

/-- The statement. -/
theorem proved : Rows.CartularyToldCardSaid :=
  Claim7.holds_tied_plain_at .later [] [.data, .data, .data, .data, .sentinel, .sentinel, .pinned] true (true, "bcec61a6c92227703205dc6e4a92e406c2104afa61c8df6dfdf65e8e356c4ae5") true over (fun _ h => by cases h) (by kernel_rfl) (fun _ h => by cases h) cartularyTold_row_tie rfl ⟨rfl, rfl⟩ (by kernel_rfl) rfl
    (fun f fn hf hfn => by
      obtain rfl : f = 3 := Option.some.inj ((show Tryz.prog.funcNamed "cartulary/cartularytop.CartularyTold" = some 3 by kernel_rfl).symm.trans hf) |>.symm
      obtain rfl : fn = Tryz.f3 := (Option.some.inj (Tryz.func3.symm.trans hfn)).symm
      exact ⟨by kernel_rfl, fun j t ht => by
        rw [Tryz.params3] at ht
        have hm : t ∈ [9] := by simpa using Array.mem_of_getElem? ht
        have hall : ([9].all fun u => !Tryz.prog.wantsStandIn u) = true := by kernel_rfl
        exact (show Tryz.prog.wantsStandIn t = false by simpa using List.all_eq_true.1 hall t hm)⟩)
    (by kernel_rfl)
#print axioms proved
end Go.Proofs.YtcnpekohkbjnnaaGreatDoor.cartularyTold

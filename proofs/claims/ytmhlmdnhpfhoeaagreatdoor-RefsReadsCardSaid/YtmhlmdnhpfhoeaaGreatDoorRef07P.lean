/- Formulas of 4 Go functions of this seat (written by a program of the author's, vcgen.py), and that each is enough for the call. No condition. -/
import Derived.Test.YtmhlmdnhpfhoeaaGreatDoorTy
import Derived.Test.YtmhlmdnhpfhoeaaGreatDoorProg
set_option linter.unusedVariables false
namespace Go.Proofs.YtmhlmdnhpfhoeaaGreatDoor
open Go Vc Go.Proofs
set_option maxRecDepth 100000
/-- cartularyref07.Put -/
def vc_cartularyref07_Put (x0a : Option Addr) (x0n : Nat) (x0c : Nat) (x1 : ByteArray) (w : World) (R : Value → World → Prop) : Prop :=
  ∀ w1 : World,
  (w1 = World.alloc w (Obj.cells (Array.mk []) 9) →
    ∃ I2 : Sl → Bool → Int → World → Prop, ∃ I3 : Sl → Bool → Int → World → Nat, (I2 (Sl.mk (some (Addr.mk (Array.size (World.heap w)) 0 none)) 0 0) false 0 w1 ∧
     ∀ l4 : Sl,
     ∀ b5 : Bool,
     ∀ n6 : Int,
     ∀ w7 : World,
     (I2 l4 b5 n6 w7 →
       (((decide (n6 < (↑x0n : Int)) = true →
          ((0 ≤ n6 ∧
            n6 < (↑x0n : Int)) ∧
           ∃ a8 : Addr, (x0a = some a8 ∧
            ∃ s9 : ByteArray, (World.cell? w7 (Addr.add a8 (Int.toNat n6 * 1)) = some (Value.string s9) ∧
             ∃ I10 : Bool → World → Prop, (((((ByteArray.toList s9 == ByteArray.toList x1) = true →
                 I10 true w7)) ∧
               ((ByteArray.toList s9 == ByteArray.toList x1) = false →
                 I10 b5 w7)) ∧
              ∀ b11 : Bool,
              ∀ w12 : World,
              (I10 b11 w12 →
                ((((!b11) = true →
                   ((((!(Op.bytesLess (ByteArray.toList s9) (ByteArray.toList x1) || ByteArray.toList s9 == ByteArray.toList x1)) = true →
                      ∀ w13 : World,
                      (w13 = World.alloc w12 (Obj.cells (Array.mk [Value.string x1]) 9) →
                        ∃ w14 : World, ∃ l15 : Sl, (Sem.run Tryz.prog (Builtin.append_ (Array.mk [37, 37]) 37 (Array.mk [Value.slice l4.1 l4.2 l4.3, Value.slice (some (Addr.mk (Array.size (World.heap w12)) 0 none)) 1 1])) w13 = Result.ok (Value.slice l15.1 l15.2 l15.3) w14 ∧
                         ∀ w16 : World,
                         (w16 = World.alloc w14 (Obj.cells (Array.mk [Value.string s9]) 9) →
                           ∃ w17 : World, ∃ l18 : Sl, (Sem.run Tryz.prog (Builtin.append_ (Array.mk [37, 37]) 37 (Array.mk [Value.slice l15.1 l15.2 l15.3, Value.slice (some (Addr.mk (Array.size (World.heap w14)) 0 none)) 1 1])) w16 = Result.ok (Value.slice l18.1 l18.2 l18.3) w17 ∧
                            (I2 (Sl.mk l18.1 l18.2 l18.3) true (IntKind.wrap IntKind.i64 (n6 + 1)) w17 ∧
                             I3 (Sl.mk l18.1 l18.2 l18.3) true (IntKind.wrap IntKind.i64 (n6 + 1)) w17 < I3 l4 b5 n6 w7))))))) ∧
                    ((!(Op.bytesLess (ByteArray.toList s9) (ByteArray.toList x1) || ByteArray.toList s9 == ByteArray.toList x1)) = false →
                      ∀ w19 : World,
                      (w19 = World.alloc w12 (Obj.cells (Array.mk [Value.string s9]) 9) →
                        ∃ w20 : World, ∃ l21 : Sl, (Sem.run Tryz.prog (Builtin.append_ (Array.mk [37, 37]) 37 (Array.mk [Value.slice l4.1 l4.2 l4.3, Value.slice (some (Addr.mk (Array.size (World.heap w12)) 0 none)) 1 1])) w19 = Result.ok (Value.slice l21.1 l21.2 l21.3) w20 ∧
                         (I2 (Sl.mk l21.1 l21.2 l21.3) b11 (IntKind.wrap IntKind.i64 (n6 + 1)) w20 ∧
                          I3 (Sl.mk l21.1 l21.2 l21.3) b11 (IntKind.wrap IntKind.i64 (n6 + 1)) w20 < I3 l4 b5 n6 w7))))))) ∧
                 ((!b11) = false →
                   ∀ w22 : World,
                   (w22 = World.alloc w12 (Obj.cells (Array.mk [Value.string s9]) 9) →
                     ∃ w23 : World, ∃ l24 : Sl, (Sem.run Tryz.prog (Builtin.append_ (Array.mk [37, 37]) 37 (Array.mk [Value.slice l4.1 l4.2 l4.3, Value.slice (some (Addr.mk (Array.size (World.heap w12)) 0 none)) 1 1])) w22 = Result.ok (Value.slice l24.1 l24.2 l24.3) w23 ∧
                      (I2 (Sl.mk l24.1 l24.2 l24.3) b11 (IntKind.wrap IntKind.i64 (n6 + 1)) w23 ∧
                       I3 (Sl.mk l24.1 l24.2 l24.3) b11 (IntKind.wrap IntKind.i64 (n6 + 1)) w23 < I3 l4 b5 n6 w7)))))))))))) ∧
        (decide (n6 < (↑x0n : Int)) = false →
          ((((!b5) = true →
             ∀ w25 : World,
             (w25 = World.alloc w7 (Obj.cells (Array.mk [Value.string x1]) 9) →
               ∃ w26 : World, ∃ l27 : Sl, (Sem.run Tryz.prog (Builtin.append_ (Array.mk [37, 37]) 37 (Array.mk [Value.slice l4.1 l4.2 l4.3, Value.slice (some (Addr.mk (Array.size (World.heap w7)) 0 none)) 1 1])) w25 = Result.ok (Value.slice l27.1 l27.2 l27.3) w26 ∧
                R (Value.slice l27.1 l27.2 l27.3) w26)))) ∧
           ((!b5) = false →
             R (Value.slice l4.1 l4.2 l4.3) w7)))))))
theorem vc_cartularyref07_Put_ok {x0a : Option Addr} {x0n : Nat} {x0c : Nat} {x1 : ByteArray} {w : World} {R : Value → World → Prop} {R' : Ending → World → Prop} (h : vc_cartularyref07_Put x0a x0n x0c x1 w R) (hR : ∀ v w', R v w' → R' (.returned v) w') :
    Calls Tryz.prog 46 #[.slice x0a x0n x0c, .string x1] w R' :=
  calls_of_body (vs := [(.slice x0a x0n x0c, false), (.string x1, false)]) (ty := ty) (ann := ⟨[(8, [(6, .bool)])], [(4, [(5, .slice), (6, .bool), (12, .int .i64)])], [], []⟩) (c := Tryz.f46.body.getD .skip) (by kernel_rfl) Tryz.func46 (by kernel_rfl) (by kernel_rfl) (Eq.mp (by kernel_rfl) h) hR
/-- cartularyref07.Under -/
def vc_cartularyref07_Under (x0a : Option Addr) (x0n : Nat) (x0c : Nat) (x1 : ByteArray) (w : World) (R : Value → World → Prop) : Prop :=
  ∀ w1 : World,
  (w1 = World.alloc w (Obj.cells (Array.mk []) 9) →
    ∃ I2 : Sl → Int → World → Prop, ∃ I3 : Sl → Int → World → Nat, (I2 (Sl.mk (some (Addr.mk (Array.size (World.heap w)) 0 none)) 0 0) 0 w1 ∧
     ∀ l4 : Sl,
     ∀ n5 : Int,
     ∀ w6 : World,
     (I2 l4 n5 w6 →
       (((decide (n5 < (↑x0n : Int)) = true →
          ((0 ≤ n5 ∧
            n5 < (↑x0n : Int)) ∧
           ∃ a7 : Addr, (x0a = some a7 ∧
            ∃ s8 : ByteArray, ∃ s9 : ByteArray, (Sem.run Tryz.prog (loadVar 48 (Addr.add a7 (Int.toNat n5 * 2))) w6 = Result.ok (Value.agg (Array.mk [Value.string s8, Value.string s9])) w6 ∧
             ∀ w10 : World,
             (w10 = World.alloc w6 (Obj.cells (Array.mk [Value.string (ByteArray.mk (Array.mk [])), Value.string (ByteArray.mk (Array.mk []))]) 48) →
               ∃ w11 : World, (Sem.run Tryz.prog (storeVar 48 (Addr.mk (Array.size (World.heap w6)) 0 none) (Value.agg (Array.mk [Value.string s8, Value.string s9]))) w10 = Result.ok PUnit.unit w11 ∧
                ∃ s12 : ByteArray, (World.cell? w11 (Addr.mk (Array.size (World.heap w6)) 0 none) = some (Value.string s12) ∧
                 Calls Tryz.prog (34 : Nat) (Array.mk [Value.string s12, Value.string x1]) (w11) (fun e13 w14 =>
                   ∃ b15 : Bool, (e13 = Ending.returned (Value.bool b15) ∧
                    (((b15 = true →
                       ∃ s16 : ByteArray, (World.cell? w14 (Addr.mk (Array.size (World.heap w6)) 0 none) = some (Value.string s16) ∧
                        Calls Tryz.prog (46 : Nat) (Array.mk [Value.slice l4.1 l4.2 l4.3, Value.string s16]) (w14) (fun e17 w18 =>
                          ∃ l19 : Sl, (e17 = Ending.returned (Value.slice l19.1 l19.2 l19.3) ∧
                           (I2 (Sl.mk l19.1 l19.2 l19.3) (IntKind.wrap IntKind.i64 (n5 + 1)) w18 ∧
                            I3 (Sl.mk l19.1 l19.2 l19.3) (IntKind.wrap IntKind.i64 (n5 + 1)) w18 < I3 l4 n5 w6)))))) ∧
                     (b15 = false →
                       (I2 (Sl.mk l4.1 l4.2 l4.3) (IntKind.wrap IntKind.i64 (n5 + 1)) w14 ∧
                        I3 (Sl.mk l4.1 l4.2 l4.3) (IntKind.wrap IntKind.i64 (n5 + 1)) w14 < I3 l4 n5 w6))))))))))))) ∧
        (decide (n5 < (↑x0n : Int)) = false →
          R (Value.slice l4.1 l4.2 l4.3) w6)))))
theorem vc_cartularyref07_Under_ok {x0a : Option Addr} {x0n : Nat} {x0c : Nat} {x1 : ByteArray} {w : World} {R : Value → World → Prop} {R' : Ending → World → Prop} (h : vc_cartularyref07_Under x0a x0n x0c x1 w R) (hR : ∀ v w', R v w' → R' (.returned v) w') :
    Calls Tryz.prog 45 #[.slice x0a x0n x0c, .string x1] w R' :=
  calls_of_body (vs := [(.slice x0a x0n x0c, false), (.string x1, false)]) (ty := ty) (ann := ⟨[], [(3, [(5, .slice), (11, .int .i64)])], [], []⟩) (c := Tryz.f45.body.getD .skip) (by kernel_rfl) Tryz.func45 (by kernel_rfl) (by kernel_rfl) (Eq.mp (by kernel_rfl) h) hR
/-- cartularyref07.Get -/
def vc_cartularyref07_Get (x0a : Option Addr) (x0n : Nat) (x0c : Nat) (x1 : ByteArray) (w : World) (R : Value → World → Prop) : Prop :=
  ∃ I1 : Int → World → Prop, ∃ I2 : Int → World → Nat, (I1 0 w ∧
   ∀ n3 : Int,
   ∀ w4 : World,
   (I1 n3 w4 →
     (((decide (n3 < (↑x0n : Int)) = true →
        ((0 ≤ n3 ∧
          n3 < (↑x0n : Int)) ∧
         ∃ a5 : Addr, (x0a = some a5 ∧
          ∃ s6 : ByteArray, ∃ s7 : ByteArray, (Sem.run Tryz.prog (loadVar 48 (Addr.add a5 (Int.toNat n3 * 2))) w4 = Result.ok (Value.agg (Array.mk [Value.string s6, Value.string s7])) w4 ∧
           ∀ w8 : World,
           (w8 = World.alloc w4 (Obj.cells (Array.mk [Value.string (ByteArray.mk (Array.mk [])), Value.string (ByteArray.mk (Array.mk []))]) 48) →
             ∃ w9 : World, (Sem.run Tryz.prog (storeVar 48 (Addr.mk (Array.size (World.heap w4)) 0 none) (Value.agg (Array.mk [Value.string s6, Value.string s7]))) w8 = Result.ok PUnit.unit w9 ∧
              ∃ s10 : ByteArray, (World.cell? w9 (Addr.mk (Array.size (World.heap w4)) 0 none) = some (Value.string s10) ∧
               ((((ByteArray.toList s10 == ByteArray.toList x1) = true →
                  ∃ s11 : ByteArray, (World.cell? w9 (Addr.mk (Array.size (World.heap w4)) 1 none) = some (Value.string s11) ∧
                   R (Value.tuple (Array.mk [Value.string s11, Value.bool true])) w9))) ∧
                ((ByteArray.toList s10 == ByteArray.toList x1) = false →
                  (I1 (IntKind.wrap IntKind.i64 (n3 + 1)) w9 ∧
                   I2 (IntKind.wrap IntKind.i64 (n3 + 1)) w9 < I2 n3 w4))))))))))) ∧
      (decide (n3 < (↑x0n : Int)) = false →
        R (Value.tuple (Array.mk [Value.string (ByteArray.mk (Array.mk [])), Value.bool false])) w4))))
theorem vc_cartularyref07_Get_ok {x0a : Option Addr} {x0n : Nat} {x0c : Nat} {x1 : ByteArray} {w : World} {R : Value → World → Prop} {R' : Ending → World → Prop} (h : vc_cartularyref07_Get x0a x0n x0c x1 w R) (hR : ∀ v w', R v w' → R' (.returned v) w') :
    Calls Tryz.prog 32 #[.slice x0a x0n x0c, .string x1] w R' :=
  calls_of_body (vs := [(.slice x0a x0n x0c, false), (.string x1, false)]) (ty := ty) (ann := ⟨[], [(2, [(10, .int .i64)])], [], []⟩) (c := Tryz.f32.body.getD .skip) (by kernel_rfl) Tryz.func32 (by kernel_rfl) (by kernel_rfl) (Eq.mp (by kernel_rfl) h) hR
/-- cartularyref07.Same -/
def vc_cartularyref07_Same (x0a : Option Addr) (x0n : Nat) (x0c : Nat) (x1a : Option Addr) (x1n : Nat) (x1c : Nat) (w : World) (R : Value → World → Prop) : Prop :=
  (((((↑x0n : Int) != (↑x1n : Int)) = true →
     R (Value.bool false) w)) ∧
   (((↑x0n : Int) != (↑x1n : Int)) = false →
     ∃ I1 : Int → World → Prop, ∃ I2 : Int → World → Nat, (I1 0 w ∧
      ∀ n3 : Int,
      ∀ w4 : World,
      (I1 n3 w4 →
        (((decide (n3 < (↑x0n : Int)) = true →
           ((0 ≤ n3 ∧
             n3 < (↑x0n : Int)) ∧
            ∃ a5 : Addr, (x0a = some a5 ∧
             ∃ s6 : ByteArray, (World.cell? w4 (Addr.add a5 (Int.toNat n3 * 1)) = some (Value.string s6) ∧
              ((0 ≤ n3 ∧
                n3 < (↑x1n : Int)) ∧
               ∃ a7 : Addr, (x1a = some a7 ∧
                ∃ s8 : ByteArray, (World.cell? w4 (Addr.add a7 (Int.toNat n3 * 1)) = some (Value.string s8) ∧
                 ∀ w9 : World,
                 (Drew w4 w9 →
                   ((((!ByteArray.toList s6 == ByteArray.toList s8) = true →
                      R (Value.bool false) w9)) ∧
                    ((!ByteArray.toList s6 == ByteArray.toList s8) = false →
                      (I1 (IntKind.wrap IntKind.i64 (n3 + 1)) w9 ∧
                       I2 (IntKind.wrap IntKind.i64 (n3 + 1)) w9 < I2 n3 w4)))))))))))) ∧
         (decide (n3 < (↑x0n : Int)) = false →
           R (Value.bool true) w4))))))
theorem vc_cartularyref07_Same_ok {x0a : Option Addr} {x0n : Nat} {x0c : Nat} {x1a : Option Addr} {x1n : Nat} {x1c : Nat} {w : World} {R : Value → World → Prop} {R' : Ending → World → Prop} (h : vc_cartularyref07_Same x0a x0n x0c x1a x1n x1c w R) (hR : ∀ v w', R v w' → R' (.returned v) w') :
    Calls Tryz.prog 12 #[.slice x0a x0n x0c, .slice x1a x1n x1c] w R' :=
  calls_of_body (vs := [(.slice x0a x0n x0c, false), (.slice x1a x1n x1c, false)]) (ty := ty) (ann := ⟨[], [(4, [(13, .int .i64)])], [(6, .quiet)], []⟩) (c := Tryz.f12.body.getD .skip) (by kernel_rfl) Tryz.func12 (by kernel_rfl) (by kernel_rfl) (Eq.mp (by kernel_rfl) h) hR
end Go.Proofs.YtmhlmdnhpfhoeaaGreatDoor

/- Formulas of 3 Go functions of this seat (written by a program of the author's, vcgen.py), and that each is enough for the call. No condition. -/
import Derived.Test.YtmhlmdnhpfhoeaaGreatDoorTy
import Derived.Test.YtmhlmdnhpfhoeaaGreatDoorProg
set_option linter.unusedVariables false
namespace Go.Proofs.YtmhlmdnhpfhoeaaGreatDoor
open Go Vc Go.Proofs
set_option maxRecDepth 100000
/-- cartularyref07.Parts -/
def vc_cartularyref07_Parts (x0 : ByteArray) (w : World) (R : Value → World → Prop) : Prop :=
  ∀ w1 : World,
  (w1 = World.alloc w (Obj.cells (Array.mk [Value.string (ByteArray.mk (Array.mk []))]) 9) →
    ∃ I2 : Sl → Int → World → Prop, ∃ I3 : Sl → Int → World → Nat, (I2 (Sl.mk (some (Addr.mk (Array.size (World.heap w)) 0 none)) 1 1) 0 w1 ∧
     ∀ l4 : Sl,
     ∀ n5 : Int,
     ∀ w6 : World,
     (I2 l4 n5 w6 →
       (((decide (n5 < (↑(ByteArray.size x0) : Int)) = true →
          ((0 ≤ n5 ∧
            n5 < (↑(ByteArray.size x0) : Int)) ∧
           ((((byteAt x0 n5 == 47) = true →
              ∀ w7 : World,
              (w7 = World.alloc w6 (Obj.cells (Array.mk [Value.string (ByteArray.mk (Array.mk []))]) 9) →
                ∃ w8 : World, ∃ l9 : Sl, (Sem.run Tryz.prog (Builtin.append_ (Array.mk [37, 37]) 37 (Array.mk [Value.slice l4.1 l4.2 l4.3, Value.slice (some (Addr.mk (Array.size (World.heap w6)) 0 none)) 1 1])) w7 = Result.ok (Value.slice l9.1 l9.2 l9.3) w8 ∧
                 (I2 (Sl.mk l9.1 l9.2 l9.3) (IntKind.wrap IntKind.i64 (n5 + 1)) w8 ∧
                  I3 (Sl.mk l9.1 l9.2 l9.3) (IntKind.wrap IntKind.i64 (n5 + 1)) w8 < I3 l4 n5 w6))))) ∧
            ((byteAt x0 n5 == 47) = false →
              ∀ w10 : World,
              (Drew w6 w10 →
                ((0 ≤ IntKind.wrap IntKind.i64 ((↑l4.2 : Int) - 1) ∧
                  IntKind.wrap IntKind.i64 ((↑l4.2 : Int) - 1) < (↑l4.2 : Int)) ∧
                 ∃ a11 : Addr, (l4.1 = some a11 ∧
                  ∃ s12 : ByteArray, (World.cell? w10 (Addr.add a11 (Int.toNat (IntKind.wrap IntKind.i64 ((↑l4.2 : Int) - 1)) * 1)) = some (Value.string s12) ∧
                   ((0 ≤ n5 ∧
                     (n5 ≤ IntKind.wrap IntKind.i64 (n5 + 1) ∧
                      IntKind.wrap IntKind.i64 (n5 + 1) ≤ (↑(ByteArray.size x0) : Int))) ∧
                    (ByteArray.size s12 + ByteArray.size (ByteArray.extract x0 (Int.toNat n5) (Int.toNat (IntKind.wrap IntKind.i64 (n5 + 1)))) ≤ 9223372036854775807 ∧
                     ((0 ≤ IntKind.wrap IntKind.i64 ((↑l4.2 : Int) - 1) ∧
                       IntKind.wrap IntKind.i64 ((↑l4.2 : Int) - 1) < (↑l4.2 : Int)) ∧
                      ∃ a13 : Addr, (l4.1 = some a13 ∧
                       (Wr w10 (Addr.add a13 (Int.toNat (IntKind.wrap IntKind.i64 ((↑l4.2 : Int) - 1)) * 1)) ∧
                        ∀ w14 : World,
                        (w14 = World.setCell w10 (Addr.add a13 (Int.toNat (IntKind.wrap IntKind.i64 ((↑l4.2 : Int) - 1)) * 1)) (Value.string (s12 ++ ByteArray.extract x0 (Int.toNat n5) (Int.toNat (IntKind.wrap IntKind.i64 (n5 + 1))))) →
                          (I2 (Sl.mk l4.1 l4.2 l4.3) (IntKind.wrap IntKind.i64 (n5 + 1)) w14 ∧
                           I3 (Sl.mk l4.1 l4.2 l4.3) (IntKind.wrap IntKind.i64 (n5 + 1)) w14 < I3 l4 n5 w6)))))))))))))))) ∧
        (decide (n5 < (↑(ByteArray.size x0) : Int)) = false →
          R (Value.slice l4.1 l4.2 l4.3) w6)))))
theorem vc_cartularyref07_Parts_ok {x0 : ByteArray} {w : World} {R : Value → World → Prop} {R' : Ending → World → Prop} (h : vc_cartularyref07_Parts x0 w R) (hR : ∀ v w', R v w' → R' (.returned v) w') :
    Calls Tryz.prog 42 #[.string x0] w R' :=
  calls_of_body (vs := [(.string x0, false)]) (ty := ty) (ann := ⟨[], [(3, [(3, .slice), (4, .int .i64)])], [(7, .tail 13)], []⟩) (c := Tryz.f42.body.getD .skip) (by kernel_rfl) Tryz.func42 (by kernel_rfl) (by kernel_rfl) (Eq.mp (by kernel_rfl) h) hR
/-- cartularyref07.Clean -/
def vc_cartularyref07_Clean (x0 : ByteArray) (w : World) (R : Value → World → Prop) : Prop :=
  (((decide ((↑(ByteArray.size x0) : Int) > 200) = true →
     R (Value.bool false) w)) ∧
   (decide ((↑(ByteArray.size x0) : Int) > 200) = false →
     ∃ I1 : Int → World → Prop, ∃ I2 : Int → World → Nat, (I1 0 w ∧
      ∀ n3 : Int,
      ∀ w4 : World,
      (I1 n3 w4 →
        (((decide (n3 < (↑(ByteArray.size x0) : Int)) = true →
           ((0 ≤ n3 ∧
             n3 < (↑(ByteArray.size x0) : Int)) ∧
            (((decide (byteAt x0 n3 < 32) = true →
               R (Value.bool false) w4)) ∧
             (decide (byteAt x0 n3 < 32) = false →
               ((0 ≤ n3 ∧
                 n3 < (↑(ByteArray.size x0) : Int)) ∧
                (((decide (byteAt x0 n3 > 126) = true →
                   R (Value.bool false) w4)) ∧
                 (decide (byteAt x0 n3 > 126) = false →
                   (I1 (IntKind.wrap IntKind.i64 (n3 + 1)) w4 ∧
                    I2 (IntKind.wrap IntKind.i64 (n3 + 1)) w4 < I2 n3 w4))))))))) ∧
         (decide (n3 < (↑(ByteArray.size x0) : Int)) = false →
           Calls Tryz.prog (42 : Nat) (Array.mk [Value.string x0]) (w4) (fun e5 w6 =>
             ∃ l7 : Sl, (e5 = Ending.returned (Value.slice l7.1 l7.2 l7.3) ∧
              ∃ I8 : Int → World → Prop, ∃ I9 : Int → World → Nat, (I8 0 w6 ∧
               ∀ n10 : Int,
               ∀ w11 : World,
               (I8 n10 w11 →
                 (((decide (n10 < (↑l7.2 : Int)) = true →
                    ((0 ≤ n10 ∧
                      n10 < (↑l7.2 : Int)) ∧
                     ∃ a12 : Addr, (l7.1 = some a12 ∧
                      ∃ s13 : ByteArray, (World.cell? w11 (Addr.add a12 (Int.toNat n10 * 1)) = some (Value.string s13) ∧
                       ((((ByteArray.toList s13 == ByteArray.toList (ByteArray.mk (Array.mk []))) = true →
                          R (Value.bool false) w11)) ∧
                        ((ByteArray.toList s13 == ByteArray.toList (ByteArray.mk (Array.mk []))) = false →
                          ((((ByteArray.toList s13 == ByteArray.toList (ByteArray.mk (Array.mk [46]))) = true →
                             R (Value.bool false) w11)) ∧
                           ((ByteArray.toList s13 == ByteArray.toList (ByteArray.mk (Array.mk [46]))) = false →
                             ((((ByteArray.toList s13 == ByteArray.toList (ByteArray.mk (Array.mk [46, 46]))) = true →
                                R (Value.bool false) w11)) ∧
                              ((ByteArray.toList s13 == ByteArray.toList (ByteArray.mk (Array.mk [46, 46]))) = false →
                                (I8 (IntKind.wrap IntKind.i64 (n10 + 1)) w11 ∧
                                 I9 (IntKind.wrap IntKind.i64 (n10 + 1)) w11 < I9 n10 w11)))))))))))) ∧
                  (decide (n10 < (↑l7.2 : Int)) = false →
                    R (Value.bool true) w11))))))))))))
theorem vc_cartularyref07_Clean_ok {x0 : ByteArray} {w : World} {R : Value → World → Prop} {R' : Ending → World → Prop} (h : vc_cartularyref07_Clean x0 w R) (hR : ∀ v w', R v w' → R' (.returned v) w') :
    Calls Tryz.prog 39 #[.string x0] w R' :=
  calls_of_body (vs := [(.string x0, false)]) (ty := ty) (ann := ⟨[], [(4, [(3, .int .i64)]), (9, [(28, .int .i64)])], [], []⟩) (c := Tryz.f39.body.getD .skip) (by kernel_rfl) Tryz.func39 (by kernel_rfl) (by kernel_rfl) (Eq.mp (by kernel_rfl) h) hR
/-- cartularyref07.Begins -/
def vc_cartularyref07_Begins (x0 : ByteArray) (x1 : ByteArray) (w : World) (R : Value → World → Prop) : Prop :=
  (((decide ((↑(ByteArray.size x0) : Int) ≥ (↑(ByteArray.size x1) : Int)) = true →
     ((0 ≤ (↑(ByteArray.size x1) : Int) ∧
       (↑(ByteArray.size x1) : Int) ≤ (↑(ByteArray.size x0) : Int)) ∧
      R (Value.bool (ByteArray.toList (ByteArray.extract x0 0 (Int.toNat (↑(ByteArray.size x1) : Int))) == ByteArray.toList x1)) w))) ∧
   (decide ((↑(ByteArray.size x0) : Int) ≥ (↑(ByteArray.size x1) : Int)) = false →
     R (Value.bool false) w))
theorem vc_cartularyref07_Begins_ok {x0 : ByteArray} {x1 : ByteArray} {w : World} {R : Value → World → Prop} {R' : Ending → World → Prop} (h : vc_cartularyref07_Begins x0 x1 w R) (hR : ∀ v w', R v w' → R' (.returned v) w') :
    Calls Tryz.prog 34 #[.string x0, .string x1] w R' :=
  calls_of_body (vs := [(.string x0, false), (.string x1, false)]) (ty := ty) (ann := ⟨[], [], [], []⟩) (c := Tryz.f34.body.getD .skip) (by kernel_rfl) Tryz.func34 (by kernel_rfl) (by kernel_rfl) (Eq.mp (by kernel_rfl) h) hR
end Go.Proofs.YtmhlmdnhpfhoeaaGreatDoor

/- Formulas of 9 Go functions of this seat (written by a program of the author's, vcgen.py), and that each is enough for the call. No condition. -/
import Derived.Test.YtmihbbgojkbaeaaDoorTy
import Derived.Test.YtmihbbgojkbaeaaDoorProg
set_option linter.unusedVariables false
namespace Go.Proofs.YtmihbbgojkbaeaaDoor
open Go Vc Go.Proofs
set_option maxRecDepth 100000
/-- cartularyref07.Parts -/
def vc_cartularyref07_Parts (x0 : ByteArray) (w : World) (R : Value → World → Prop) : Prop :=
  ∀ w1 : World,
  (w1 = World.alloc w (Obj.cells (Array.mk [Value.string (ByteArray.mk (Array.mk []))]) 9) →
    ∃ I2 : Sl → Int → World → Prop, ∃ I3 : Sl → Int → World → Nat, (I2 (Sl.mk (some (Addr.mk (Array.size (World.heap w)) 0 none)) 1 1) 0 w1 ∧
     ∀ l4 : Sl,
     ∀ n5 : Int,
     ∀ w6 : World,
     (I2 l4 n5 w6 →
       (((decide (n5 < (↑(ByteArray.size x0) : Int)) = true →
          ((0 ≤ n5 ∧
            n5 < (↑(ByteArray.size x0) : Int)) ∧
           ((((byteAt x0 n5 == 47) = true →
              ∀ w7 : World,
              (w7 = World.alloc w6 (Obj.cells (Array.mk [Value.string (ByteArray.mk (Array.mk []))]) 9) →
                ∃ w8 : World, ∃ l9 : Sl, (Sem.run Tryd.prog (Builtin.append_ (Array.mk [57, 57]) 57 (Array.mk [Value.slice l4.1 l4.2 l4.3, Value.slice (some (Addr.mk (Array.size (World.heap w6)) 0 none)) 1 1])) w7 = Result.ok (Value.slice l9.1 l9.2 l9.3) w8 ∧
                 (I2 (Sl.mk l9.1 l9.2 l9.3) (IntKind.wrap IntKind.i64 (n5 + 1)) w8 ∧
                  I3 (Sl.mk l9.1 l9.2 l9.3) (IntKind.wrap IntKind.i64 (n5 + 1)) w8 < I3 l4 n5 w6))))) ∧
            ((byteAt x0 n5 == 47) = false →
              ∀ w10 : World,
              (Drew w6 w10 →
                ((0 ≤ IntKind.wrap IntKind.i64 ((↑l4.2 : Int) - 1) ∧
                  IntKind.wrap IntKind.i64 ((↑l4.2 : Int) - 1) < (↑l4.2 : Int)) ∧
                 ∃ a11 : Addr, (l4.1 = some a11 ∧
                  ∃ s12 : ByteArray, (World.cell? w10 (Addr.add a11 (Int.toNat (IntKind.wrap IntKind.i64 ((↑l4.2 : Int) - 1)) * 1)) = some (Value.string s12) ∧
                   ((0 ≤ n5 ∧
                     (n5 ≤ IntKind.wrap IntKind.i64 (n5 + 1) ∧
                      IntKind.wrap IntKind.i64 (n5 + 1) ≤ (↑(ByteArray.size x0) : Int))) ∧
                    (ByteArray.size s12 + ByteArray.size (ByteArray.extract x0 (Int.toNat n5) (Int.toNat (IntKind.wrap IntKind.i64 (n5 + 1)))) ≤ 9223372036854775807 ∧
                     ((0 ≤ IntKind.wrap IntKind.i64 ((↑l4.2 : Int) - 1) ∧
                       IntKind.wrap IntKind.i64 ((↑l4.2 : Int) - 1) < (↑l4.2 : Int)) ∧
                      ∃ a13 : Addr, (l4.1 = some a13 ∧
                       (Wr w10 (Addr.add a13 (Int.toNat (IntKind.wrap IntKind.i64 ((↑l4.2 : Int) - 1)) * 1)) ∧
                        ∀ w14 : World,
                        (w14 = World.setCell w10 (Addr.add a13 (Int.toNat (IntKind.wrap IntKind.i64 ((↑l4.2 : Int) - 1)) * 1)) (Value.string (s12 ++ ByteArray.extract x0 (Int.toNat n5) (Int.toNat (IntKind.wrap IntKind.i64 (n5 + 1))))) →
                          (I2 (Sl.mk l4.1 l4.2 l4.3) (IntKind.wrap IntKind.i64 (n5 + 1)) w14 ∧
                           I3 (Sl.mk l4.1 l4.2 l4.3) (IntKind.wrap IntKind.i64 (n5 + 1)) w14 < I3 l4 n5 w6)))))))))))))))) ∧
        (decide (n5 < (↑(ByteArray.size x0) : Int)) = false →
          R (Value.slice l4.1 l4.2 l4.3) w6)))))
theorem vc_cartularyref07_Parts_ok {x0 : ByteArray} {w : World} {R : Value → World → Prop} {R' : Ending → World → Prop} (h : vc_cartularyref07_Parts x0 w R) (hR : ∀ v w', R v w' → R' (.returned v) w') :
    Calls Tryd.prog 69 #[.string x0] w R' :=
  calls_of_body (vs := [(.string x0, false)]) (ty := ty) (ann := ⟨[], [(3, [(3, .slice), (4, .int .i64)])], [(7, .tail 13)], []⟩) (c := Tryd.f69.body.getD .skip) (by kernel_rfl) Tryd.func69 (by kernel_rfl) (by kernel_rfl) (Eq.mp (by kernel_rfl) h) hR
/-- cartularyref07.Clean -/
def vc_cartularyref07_Clean (x0 : ByteArray) (w : World) (R : Value → World → Prop) : Prop :=
  (((decide ((↑(ByteArray.size x0) : Int) > 200) = true →
     R (Value.bool false) w)) ∧
   (decide ((↑(ByteArray.size x0) : Int) > 200) = false →
     ∃ I1 : Int → World → Prop, ∃ I2 : Int → World → Nat, (I1 0 w ∧
      ∀ n3 : Int,
      ∀ w4 : World,
      (I1 n3 w4 →
        (((decide (n3 < (↑(ByteArray.size x0) : Int)) = true →
           ((0 ≤ n3 ∧
             n3 < (↑(ByteArray.size x0) : Int)) ∧
            (((decide (byteAt x0 n3 < 32) = true →
               R (Value.bool false) w4)) ∧
             (decide (byteAt x0 n3 < 32) = false →
               ((0 ≤ n3 ∧
                 n3 < (↑(ByteArray.size x0) : Int)) ∧
                (((decide (byteAt x0 n3 > 126) = true →
                   R (Value.bool false) w4)) ∧
                 (decide (byteAt x0 n3 > 126) = false →
                   (I1 (IntKind.wrap IntKind.i64 (n3 + 1)) w4 ∧
                    I2 (IntKind.wrap IntKind.i64 (n3 + 1)) w4 < I2 n3 w4))))))))) ∧
         (decide (n3 < (↑(ByteArray.size x0) : Int)) = false →
           Calls Tryd.prog (69 : Nat) (Array.mk [Value.string x0]) (w4) (fun e5 w6 =>
             ∃ l7 : Sl, (e5 = Ending.returned (Value.slice l7.1 l7.2 l7.3) ∧
              ∃ I8 : Int → World → Prop, ∃ I9 : Int → World → Nat, (I8 0 w6 ∧
               ∀ n10 : Int,
               ∀ w11 : World,
               (I8 n10 w11 →
                 (((decide (n10 < (↑l7.2 : Int)) = true →
                    ((0 ≤ n10 ∧
                      n10 < (↑l7.2 : Int)) ∧
                     ∃ a12 : Addr, (l7.1 = some a12 ∧
                      ∃ s13 : ByteArray, (World.cell? w11 (Addr.add a12 (Int.toNat n10 * 1)) = some (Value.string s13) ∧
                       ((((ByteArray.toList s13 == ByteArray.toList (ByteArray.mk (Array.mk []))) = true →
                          R (Value.bool false) w11)) ∧
                        ((ByteArray.toList s13 == ByteArray.toList (ByteArray.mk (Array.mk []))) = false →
                          ((((ByteArray.toList s13 == ByteArray.toList (ByteArray.mk (Array.mk [46]))) = true →
                             R (Value.bool false) w11)) ∧
                           ((ByteArray.toList s13 == ByteArray.toList (ByteArray.mk (Array.mk [46]))) = false →
                             ((((ByteArray.toList s13 == ByteArray.toList (ByteArray.mk (Array.mk [46, 46]))) = true →
                                R (Value.bool false) w11)) ∧
                              ((ByteArray.toList s13 == ByteArray.toList (ByteArray.mk (Array.mk [46, 46]))) = false →
                                (I8 (IntKind.wrap IntKind.i64 (n10 + 1)) w11 ∧
                                 I9 (IntKind.wrap IntKind.i64 (n10 + 1)) w11 < I9 n10 w11)))))))))))) ∧
                  (decide (n10 < (↑l7.2 : Int)) = false →
                    R (Value.bool true) w11))))))))))))
theorem vc_cartularyref07_Clean_ok {x0 : ByteArray} {w : World} {R : Value → World → Prop} {R' : Ending → World → Prop} (h : vc_cartularyref07_Clean x0 w R) (hR : ∀ v w', R v w' → R' (.returned v) w') :
    Calls Tryd.prog 35 #[.string x0] w R' :=
  calls_of_body (vs := [(.string x0, false)]) (ty := ty) (ann := ⟨[], [(4, [(3, .int .i64)]), (9, [(28, .int .i64)])], [], []⟩) (c := Tryd.f35.body.getD .skip) (by kernel_rfl) Tryd.func35 (by kernel_rfl) (by kernel_rfl) (Eq.mp (by kernel_rfl) h) hR
/-- cartularyref07.Begins -/
def vc_cartularyref07_Begins (x0 : ByteArray) (x1 : ByteArray) (w : World) (R : Value → World → Prop) : Prop :=
  (((decide ((↑(ByteArray.size x0) : Int) ≥ (↑(ByteArray.size x1) : Int)) = true →
     ((0 ≤ (↑(ByteArray.size x1) : Int) ∧
       (↑(ByteArray.size x1) : Int) ≤ (↑(ByteArray.size x0) : Int)) ∧
      R (Value.bool (ByteArray.toList (ByteArray.extract x0 0 (Int.toNat (↑(ByteArray.size x1) : Int))) == ByteArray.toList x1)) w))) ∧
   (decide ((↑(ByteArray.size x0) : Int) ≥ (↑(ByteArray.size x1) : Int)) = false →
     R (Value.bool false) w))
theorem vc_cartularyref07_Begins_ok {x0 : ByteArray} {x1 : ByteArray} {w : World} {R : Value → World → Prop} {R' : Ending → World → Prop} (h : vc_cartularyref07_Begins x0 x1 w R) (hR : ∀ v w', R v w' → R' (.returned v) w') :
    Calls Tryd.prog 65 #[.string x0, .string x1] w R' :=
  calls_of_body (vs := [(.string x0, false), (.string x1, false)]) (ty := ty) (ann := ⟨[], [], [], []⟩) (c := Tryd.f65.body.getD .skip) (by kernel_rfl) Tryd.func65 (by kernel_rfl) (by kernel_rfl) (Eq.mp (by kernel_rfl) h) hR
/-- cartularyref07.Check -/
def vc_cartularyref07_Check (x0a : Option Addr) (x0n : Nat) (x0c : Nat) (w : World) (R : Value → World → Prop) : Prop :=
  ∃ I1 : Int → Int → World → Prop, ∃ I2 : Int → Int → World → Nat, (I1 0 0 w ∧
   ∀ n3 : Int,
   ∀ n4 : Int,
   ∀ w5 : World,
   (I1 n3 n4 w5 →
     (((decide (n4 < (↑x0n : Int)) = true →
        ((0 ≤ n4 ∧
          n4 < (↑x0n : Int)) ∧
         ∃ a6 : Addr, (x0a = some a6 ∧
          ∃ s7 : ByteArray, ∃ s8 : ByteArray, (Sem.run Tryd.prog (loadVar 50 (Addr.add a6 (Int.toNat n4 * 2))) w5 = Result.ok (Value.agg (Array.mk [Value.string s7, Value.string s8])) w5 ∧
           ∀ w9 : World,
           (w9 = World.alloc w5 (Obj.cells (Array.mk [Value.string (ByteArray.mk (Array.mk [])), Value.string (ByteArray.mk (Array.mk []))]) 50) →
             ∃ w10 : World, (Sem.run Tryd.prog (storeVar 50 (Addr.mk (Array.size (World.heap w5)) 0 none) (Value.agg (Array.mk [Value.string s7, Value.string s8]))) w9 = Result.ok PUnit.unit w10 ∧
              ∃ s11 : ByteArray, (World.cell? w10 (Addr.mk (Array.size (World.heap w5)) 1 none) = some (Value.string s11) ∧
               (I1 (IntKind.wrap IntKind.i64 (n3 + (↑(ByteArray.size s11) : Int))) (IntKind.wrap IntKind.i64 (n4 + 1)) w10 ∧
                I2 (IntKind.wrap IntKind.i64 (n3 + (↑(ByteArray.size s11) : Int))) (IntKind.wrap IntKind.i64 (n4 + 1)) w10 < I2 n3 n4 w5))))))))) ∧
      (decide (n4 < (↑x0n : Int)) = false →
        (((decide ((↑x0n : Int) > 2000) = true →
           R (Value.int IntKind.i64 2) w5)) ∧
         (decide ((↑x0n : Int) > 2000) = false →
           (((decide (n3 > 4194304) = true →
              R (Value.int IntKind.i64 2) w5)) ∧
            (decide (n3 > 4194304) = false →
              ∃ I12 : Int → World → Prop, ∃ I13 : Int → World → Nat, (I12 0 w5 ∧
               ∀ n14 : Int,
               ∀ w15 : World,
               (I12 n14 w15 →
                 (((decide (n14 < (↑x0n : Int)) = true →
                    ((0 ≤ n14 ∧
                      n14 < (↑x0n : Int)) ∧
                     ∃ a16 : Addr, (x0a = some a16 ∧
                      ∃ s17 : ByteArray, ∃ s18 : ByteArray, (Sem.run Tryd.prog (loadVar 50 (Addr.add a16 (Int.toNat n14 * 2))) w15 = Result.ok (Value.agg (Array.mk [Value.string s17, Value.string s18])) w15 ∧
                       ∀ w19 : World,
                       (w19 = World.alloc w15 (Obj.cells (Array.mk [Value.string (ByteArray.mk (Array.mk [])), Value.string (ByteArray.mk (Array.mk []))]) 50) →
                         ∃ w20 : World, (Sem.run Tryd.prog (storeVar 50 (Addr.mk (Array.size (World.heap w15)) 0 none) (Value.agg (Array.mk [Value.string s17, Value.string s18]))) w19 = Result.ok PUnit.unit w20 ∧
                          ∃ s21 : ByteArray, (World.cell? w20 (Addr.mk (Array.size (World.heap w15)) 0 none) = some (Value.string s21) ∧
                           Calls Tryd.prog (35 : Nat) (Array.mk [Value.string s21]) (w20) (fun e22 w23 =>
                             ∃ b24 : Bool, (e22 = Ending.returned (Value.bool b24) ∧
                              ((((!b24) = true →
                                 R (Value.int IntKind.i64 4) w23)) ∧
                               ((!b24) = false →
                                 ∃ I25 : Int → World → Prop, ∃ I26 : Int → World → Nat, (I25 0 w23 ∧
                                  ∀ n27 : Int,
                                  ∀ w28 : World,
                                  (I25 n27 w28 →
                                    (((decide (n27 < (↑x0n : Int)) = true →
                                       ((0 ≤ n27 ∧
                                         n27 < (↑x0n : Int)) ∧
                                        ∃ a29 : Addr, (x0a = some a29 ∧
                                         ∃ s30 : ByteArray, ∃ s31 : ByteArray, (Sem.run Tryd.prog (loadVar 50 (Addr.add a29 (Int.toNat n27 * 2))) w28 = Result.ok (Value.agg (Array.mk [Value.string s30, Value.string s31])) w28 ∧
                                          ∀ w32 : World,
                                          (w32 = World.alloc w28 (Obj.cells (Array.mk [Value.string (ByteArray.mk (Array.mk [])), Value.string (ByteArray.mk (Array.mk []))]) 50) →
                                            ∃ w33 : World, (Sem.run Tryd.prog (storeVar 50 (Addr.mk (Array.size (World.heap w28)) 0 none) (Value.agg (Array.mk [Value.string s30, Value.string s31]))) w32 = Result.ok PUnit.unit w33 ∧
                                             ((((n14 != n27) = true →
                                                ∃ s34 : ByteArray, (World.cell? w33 (Addr.mk (Array.size (World.heap w28)) 0 none) = some (Value.string s34) ∧
                                                 ∃ s35 : ByteArray, (World.cell? w33 (Addr.mk (Array.size (World.heap w15)) 0 none) = some (Value.string s35) ∧
                                                  ((((ByteArray.toList s34 == ByteArray.toList s35) = true →
                                                     R (Value.int IntKind.i64 4) w33)) ∧
                                                   ((ByteArray.toList s34 == ByteArray.toList s35) = false →
                                                     ∃ s36 : ByteArray, (World.cell? w33 (Addr.mk (Array.size (World.heap w28)) 0 none) = some (Value.string s36) ∧
                                                      ∃ s37 : ByteArray, (World.cell? w33 (Addr.mk (Array.size (World.heap w15)) 0 none) = some (Value.string s37) ∧
                                                       (ByteArray.size s37 + ByteArray.size (ByteArray.mk (Array.mk [47])) ≤ 9223372036854775807 ∧
                                                        Calls Tryd.prog (65 : Nat) (Array.mk [Value.string s36, Value.string (s37 ++ ByteArray.mk (Array.mk [47]))]) (w33) (fun e38 w39 =>
                                                          ∃ b40 : Bool, (e38 = Ending.returned (Value.bool b40) ∧
                                                           (((b40 = true →
                                                              R (Value.int IntKind.i64 4) w39)) ∧
                                                            (b40 = false →
                                                              (I25 (IntKind.wrap IntKind.i64 (n27 + 1)) w39 ∧
                                                               I26 (IntKind.wrap IntKind.i64 (n27 + 1)) w39 < I26 n27 w28)))))))))))))) ∧
                                              ((n14 != n27) = false →
                                                (I25 (IntKind.wrap IntKind.i64 (n27 + 1)) w33 ∧
                                                 I26 (IntKind.wrap IntKind.i64 (n27 + 1)) w33 < I26 n27 w28)))))))))) ∧
                                     (decide (n27 < (↑x0n : Int)) = false →
                                       (I12 (IntKind.wrap IntKind.i64 (n14 + 1)) w28 ∧
                                        I13 (IntKind.wrap IntKind.i64 (n14 + 1)) w28 < I13 n14 w15))))))))))))))))) ∧
                  (decide (n14 < (↑x0n : Int)) = false →
                    R (Value.int IntKind.i64 0) w15))))))))))))
theorem vc_cartularyref07_Check_ok {x0a : Option Addr} {x0n : Nat} {x0c : Nat} {w : World} {R : Value → World → Prop} {R' : Ending → World → Prop} (h : vc_cartularyref07_Check x0a x0n x0c w R) (hR : ∀ v w', R v w' → R' (.returned v) w') :
    Calls Tryd.prog 33 #[.slice x0a x0n x0c] w R' :=
  calls_of_body (vs := [(.slice x0a x0n x0c, false)]) (ty := ty) (ann := ⟨[], [(3, [(3, .int .i64), (12, .int .i64)]), (10, [(31, .int .i64)]), (15, [(42, .int .i64)])], [], []⟩) (c := Tryd.f33.body.getD .skip) (by kernel_rfl) Tryd.func33 (by kernel_rfl) (by kernel_rfl) (Eq.mp (by kernel_rfl) h) hR
/-- cartularyref07.Put -/
def vc_cartularyref07_Put (x0a : Option Addr) (x0n : Nat) (x0c : Nat) (x1 : ByteArray) (w : World) (R : Value → World → Prop) : Prop :=
  ∀ w1 : World,
  (w1 = World.alloc w (Obj.cells (Array.mk []) 9) →
    ∃ I2 : Sl → Bool → Int → World → Prop, ∃ I3 : Sl → Bool → Int → World → Nat, (I2 (Sl.mk (some (Addr.mk (Array.size (World.heap w)) 0 none)) 0 0) false 0 w1 ∧
     ∀ l4 : Sl,
     ∀ b5 : Bool,
     ∀ n6 : Int,
     ∀ w7 : World,
     (I2 l4 b5 n6 w7 →
       (((decide (n6 < (↑x0n : Int)) = true →
          ((0 ≤ n6 ∧
            n6 < (↑x0n : Int)) ∧
           ∃ a8 : Addr, (x0a = some a8 ∧
            ∃ s9 : ByteArray, (World.cell? w7 (Addr.add a8 (Int.toNat n6 * 1)) = some (Value.string s9) ∧
             ∃ I10 : Bool → World → Prop, (((((ByteArray.toList s9 == ByteArray.toList x1) = true →
                 I10 true w7)) ∧
               ((ByteArray.toList s9 == ByteArray.toList x1) = false →
                 I10 b5 w7)) ∧
              ∀ b11 : Bool,
              ∀ w12 : World,
              (I10 b11 w12 →
                ((((!b11) = true →
                   ((((!(Op.bytesLess (ByteArray.toList s9) (ByteArray.toList x1) || ByteArray.toList s9 == ByteArray.toList x1)) = true →
                      ∀ w13 : World,
                      (w13 = World.alloc w12 (Obj.cells (Array.mk [Value.string x1]) 9) →
                        ∃ w14 : World, ∃ l15 : Sl, (Sem.run Tryd.prog (Builtin.append_ (Array.mk [57, 57]) 57 (Array.mk [Value.slice l4.1 l4.2 l4.3, Value.slice (some (Addr.mk (Array.size (World.heap w12)) 0 none)) 1 1])) w13 = Result.ok (Value.slice l15.1 l15.2 l15.3) w14 ∧
                         ∀ w16 : World,
                         (w16 = World.alloc w14 (Obj.cells (Array.mk [Value.string s9]) 9) →
                           ∃ w17 : World, ∃ l18 : Sl, (Sem.run Tryd.prog (Builtin.append_ (Array.mk [57, 57]) 57 (Array.mk [Value.slice l15.1 l15.2 l15.3, Value.slice (some (Addr.mk (Array.size (World.heap w14)) 0 none)) 1 1])) w16 = Result.ok (Value.slice l18.1 l18.2 l18.3) w17 ∧
                            (I2 (Sl.mk l18.1 l18.2 l18.3) true (IntKind.wrap IntKind.i64 (n6 + 1)) w17 ∧
                             I3 (Sl.mk l18.1 l18.2 l18.3) true (IntKind.wrap IntKind.i64 (n6 + 1)) w17 < I3 l4 b5 n6 w7))))))) ∧
                    ((!(Op.bytesLess (ByteArray.toList s9) (ByteArray.toList x1) || ByteArray.toList s9 == ByteArray.toList x1)) = false →
                      ∀ w19 : World,
                      (w19 = World.alloc w12 (Obj.cells (Array.mk [Value.string s9]) 9) →
                        ∃ w20 : World, ∃ l21 : Sl, (Sem.run Tryd.prog (Builtin.append_ (Array.mk [57, 57]) 57 (Array.mk [Value.slice l4.1 l4.2 l4.3, Value.slice (some (Addr.mk (Array.size (World.heap w12)) 0 none)) 1 1])) w19 = Result.ok (Value.slice l21.1 l21.2 l21.3) w20 ∧
                         (I2 (Sl.mk l21.1 l21.2 l21.3) b11 (IntKind.wrap IntKind.i64 (n6 + 1)) w20 ∧
                          I3 (Sl.mk l21.1 l21.2 l21.3) b11 (IntKind.wrap IntKind.i64 (n6 + 1)) w20 < I3 l4 b5 n6 w7))))))) ∧
                 ((!b11) = false →
                   ∀ w22 : World,
                   (w22 = World.alloc w12 (Obj.cells (Array.mk [Value.string s9]) 9) →
                     ∃ w23 : World, ∃ l24 : Sl, (Sem.run Tryd.prog (Builtin.append_ (Array.mk [57, 57]) 57 (Array.mk [Value.slice l4.1 l4.2 l4.3, Value.slice (some (Addr.mk (Array.size (World.heap w12)) 0 none)) 1 1])) w22 = Result.ok (Value.slice l24.1 l24.2 l24.3) w23 ∧
                      (I2 (Sl.mk l24.1 l24.2 l24.3) b11 (IntKind.wrap IntKind.i64 (n6 + 1)) w23 ∧
                       I3 (Sl.mk l24.1 l24.2 l24.3) b11 (IntKind.wrap IntKind.i64 (n6 + 1)) w23 < I3 l4 b5 n6 w7)))))))))))) ∧
        (decide (n6 < (↑x0n : Int)) = false →
          ((((!b5) = true →
             ∀ w25 : World,
             (w25 = World.alloc w7 (Obj.cells (Array.mk [Value.string x1]) 9) →
               ∃ w26 : World, ∃ l27 : Sl, (Sem.run Tryd.prog (Builtin.append_ (Array.mk [57, 57]) 57 (Array.mk [Value.slice l4.1 l4.2 l4.3, Value.slice (some (Addr.mk (Array.size (World.heap w7)) 0 none)) 1 1])) w25 = Result.ok (Value.slice l27.1 l27.2 l27.3) w26 ∧
                R (Value.slice l27.1 l27.2 l27.3) w26)))) ∧
           ((!b5) = false →
             R (Value.slice l4.1 l4.2 l4.3) w7)))))))
theorem vc_cartularyref07_Put_ok {x0a : Option Addr} {x0n : Nat} {x0c : Nat} {x1 : ByteArray} {w : World} {R : Value → World → Prop} {R' : Ending → World → Prop} (h : vc_cartularyref07_Put x0a x0n x0c x1 w R) (hR : ∀ v w', R v w' → R' (.returned v) w') :
    Calls Tryd.prog 70 #[.slice x0a x0n x0c, .string x1] w R' :=
  calls_of_body (vs := [(.slice x0a x0n x0c, false), (.string x1, false)]) (ty := ty) (ann := ⟨[(8, [(6, .bool)])], [(4, [(5, .slice), (6, .bool), (12, .int .i64)])], [], []⟩) (c := Tryd.f70.body.getD .skip) (by kernel_rfl) Tryd.func70 (by kernel_rfl) (by kernel_rfl) (Eq.mp (by kernel_rfl) h) hR
/-- cartularyref07.Under -/
def vc_cartularyref07_Under (x0a : Option Addr) (x0n : Nat) (x0c : Nat) (x1 : ByteArray) (w : World) (R : Value → World → Prop) : Prop :=
  ∀ w1 : World,
  (w1 = World.alloc w (Obj.cells (Array.mk []) 9) →
    ∃ I2 : Sl → Int → World → Prop, ∃ I3 : Sl → Int → World → Nat, (I2 (Sl.mk (some (Addr.mk (Array.size (World.heap w)) 0 none)) 0 0) 0 w1 ∧
     ∀ l4 : Sl,
     ∀ n5 : Int,
     ∀ w6 : World,
     (I2 l4 n5 w6 →
       (((decide (n5 < (↑x0n : Int)) = true →
          ((0 ≤ n5 ∧
            n5 < (↑x0n : Int)) ∧
           ∃ a7 : Addr, (x0a = some a7 ∧
            ∃ s8 : ByteArray, ∃ s9 : ByteArray, (Sem.run Tryd.prog (loadVar 50 (Addr.add a7 (Int.toNat n5 * 2))) w6 = Result.ok (Value.agg (Array.mk [Value.string s8, Value.string s9])) w6 ∧
             ∀ w10 : World,
             (w10 = World.alloc w6 (Obj.cells (Array.mk [Value.string (ByteArray.mk (Array.mk [])), Value.string (ByteArray.mk (Array.mk []))]) 50) →
               ∃ w11 : World, (Sem.run Tryd.prog (storeVar 50 (Addr.mk (Array.size (World.heap w6)) 0 none) (Value.agg (Array.mk [Value.string s8, Value.string s9]))) w10 = Result.ok PUnit.unit w11 ∧
                ∃ s12 : ByteArray, (World.cell? w11 (Addr.mk (Array.size (World.heap w6)) 0 none) = some (Value.string s12) ∧
                 Calls Tryd.prog (65 : Nat) (Array.mk [Value.string s12, Value.string x1]) (w11) (fun e13 w14 =>
                   ∃ b15 : Bool, (e13 = Ending.returned (Value.bool b15) ∧
                    (((b15 = true →
                       ∃ s16 : ByteArray, (World.cell? w14 (Addr.mk (Array.size (World.heap w6)) 0 none) = some (Value.string s16) ∧
                        Calls Tryd.prog (70 : Nat) (Array.mk [Value.slice l4.1 l4.2 l4.3, Value.string s16]) (w14) (fun e17 w18 =>
                          ∃ l19 : Sl, (e17 = Ending.returned (Value.slice l19.1 l19.2 l19.3) ∧
                           (I2 (Sl.mk l19.1 l19.2 l19.3) (IntKind.wrap IntKind.i64 (n5 + 1)) w18 ∧
                            I3 (Sl.mk l19.1 l19.2 l19.3) (IntKind.wrap IntKind.i64 (n5 + 1)) w18 < I3 l4 n5 w6)))))) ∧
                     (b15 = false →
                       (I2 (Sl.mk l4.1 l4.2 l4.3) (IntKind.wrap IntKind.i64 (n5 + 1)) w14 ∧
                        I3 (Sl.mk l4.1 l4.2 l4.3) (IntKind.wrap IntKind.i64 (n5 + 1)) w14 < I3 l4 n5 w6))))))))))))) ∧
        (decide (n5 < (↑x0n : Int)) = false →
          R (Value.slice l4.1 l4.2 l4.3) w6)))))
theorem vc_cartularyref07_Under_ok {x0a : Option Addr} {x0n : Nat} {x0c : Nat} {x1 : ByteArray} {w : World} {R : Value → World → Prop} {R' : Ending → World → Prop} (h : vc_cartularyref07_Under x0a x0n x0c x1 w R) (hR : ∀ v w', R v w' → R' (.returned v) w') :
    Calls Tryd.prog 41 #[.slice x0a x0n x0c, .string x1] w R' :=
  calls_of_body (vs := [(.slice x0a x0n x0c, false), (.string x1, false)]) (ty := ty) (ann := ⟨[], [(3, [(5, .slice), (11, .int .i64)])], [], []⟩) (c := Tryd.f41.body.getD .skip) (by kernel_rfl) Tryd.func41 (by kernel_rfl) (by kernel_rfl) (Eq.mp (by kernel_rfl) h) hR
/-- cartularyref07.List -/
def vc_cartularyref07_List (x0a : Option Addr) (x0n : Nat) (x0c : Nat) (x1 : ByteArray) (w : World) (R : Value → World → Prop) : Prop :=
  ∃ I1 : ByteArray → World → Prop, (((((!ByteArray.toList x1 == ByteArray.toList (ByteArray.mk (Array.mk []))) = true →
      Calls Tryd.prog (35 : Nat) (Array.mk [Value.string x1]) (w) (fun e2 w3 =>
        ∃ b4 : Bool, (e2 = Ending.returned (Value.bool b4) ∧
         ((((!b4) = true →
            R (Value.tuple (Array.mk [Value.slice none 0 0, Value.int IntKind.i64 4])) w3)) ∧
          ((!b4) = false →
            (ByteArray.size x1 + ByteArray.size (ByteArray.mk (Array.mk [47])) ≤ 9223372036854775807 ∧
             I1 (x1 ++ ByteArray.mk (Array.mk [47])) w3))))))) ∧
    ((!ByteArray.toList x1 == ByteArray.toList (ByteArray.mk (Array.mk []))) = false →
      I1 (ByteArray.mk (Array.mk [])) w)) ∧
   ∀ s5 : ByteArray,
   ∀ w6 : World,
   (I1 s5 w6 →
     ∀ w7 : World,
     (w7 = World.alloc w6 (Obj.cells (Array.mk []) 9) →
       Calls Tryd.prog (41 : Nat) (Array.mk [Value.slice x0a x0n x0c, Value.string s5]) (w7) (fun e8 w9 =>
         ∃ l10 : Sl, (e8 = Ending.returned (Value.slice l10.1 l10.2 l10.3) ∧
          ∃ I11 : Sl → Int → World → Prop, ∃ I12 : Sl → Int → World → Nat, (I11 (Sl.mk (some (Addr.mk (Array.size (World.heap w6)) 0 none)) 0 0) 0 w9 ∧
           ∀ l13 : Sl,
           ∀ n14 : Int,
           ∀ w15 : World,
           (I11 l13 n14 w15 →
             (((decide (n14 < (↑l10.2 : Int)) = true →
                ((0 ≤ n14 ∧
                  n14 < (↑l10.2 : Int)) ∧
                 ∃ a16 : Addr, (l10.1 = some a16 ∧
                  ∃ s17 : ByteArray, (World.cell? w15 (Addr.add a16 (Int.toNat n14 * 1)) = some (Value.string s17) ∧
                   ((0 ≤ (↑(ByteArray.size s5) : Int) ∧
                     (↑(ByteArray.size s5) : Int) ≤ (↑(ByteArray.size s17) : Int)) ∧
                    Calls Tryd.prog (69 : Nat) (Array.mk [Value.string (ByteArray.extract s17 (Int.toNat (↑(ByteArray.size s5) : Int)) (ByteArray.size s17))]) (w15) (fun e18 w19 =>
                      ∃ l20 : Sl, (e18 = Ending.returned (Value.slice l20.1 l20.2 l20.3) ∧
                       (((0 : Int) ≤ (0 : Int) ∧
                         0 < (↑l20.2 : Int)) ∧
                        ∃ a21 : Addr, (l20.1 = some a21 ∧
                         ∃ s22 : ByteArray, (World.cell? w19 (Addr.add a21 (Int.toNat 0 * 1)) = some (Value.string s22) ∧
                          ∃ I23 : ByteArray → World → Prop, ((((decide ((↑(ByteArray.size s22) : Int) < (↑(ByteArray.size (ByteArray.extract s17 (Int.toNat (↑(ByteArray.size s5) : Int)) (ByteArray.size s17))) : Int)) = true →
                              (ByteArray.size s22 + ByteArray.size (ByteArray.mk (Array.mk [47])) ≤ 9223372036854775807 ∧
                               I23 (s22 ++ ByteArray.mk (Array.mk [47])) w19))) ∧
                            (decide ((↑(ByteArray.size s22) : Int) < (↑(ByteArray.size (ByteArray.extract s17 (Int.toNat (↑(ByteArray.size s5) : Int)) (ByteArray.size s17))) : Int)) = false →
                              I23 s22 w19)) ∧
                           ∀ s24 : ByteArray,
                           ∀ w25 : World,
                           (I23 s24 w25 →
                             (((((↑l13.2 : Int) == 0) = true →
                                ∀ w26 : World,
                                (w26 = World.alloc w25 (Obj.cells (Array.mk [Value.string s24]) 9) →
                                  ∃ w27 : World, ∃ l28 : Sl, (Sem.run Tryd.prog (Builtin.append_ (Array.mk [57, 57]) 57 (Array.mk [Value.slice l13.1 l13.2 l13.3, Value.slice (some (Addr.mk (Array.size (World.heap w25)) 0 none)) 1 1])) w26 = Result.ok (Value.slice l28.1 l28.2 l28.3) w27 ∧
                                   (I11 (Sl.mk l28.1 l28.2 l28.3) (IntKind.wrap IntKind.i64 (n14 + 1)) w27 ∧
                                    I12 (Sl.mk l28.1 l28.2 l28.3) (IntKind.wrap IntKind.i64 (n14 + 1)) w27 < I12 l13 n14 w15))))) ∧
                              (((↑l13.2 : Int) == 0) = false →
                                ((0 ≤ IntKind.wrap IntKind.i64 ((↑l13.2 : Int) - 1) ∧
                                  IntKind.wrap IntKind.i64 ((↑l13.2 : Int) - 1) < (↑l13.2 : Int)) ∧
                                 ∃ a29 : Addr, (l13.1 = some a29 ∧
                                  ∃ s30 : ByteArray, (World.cell? w25 (Addr.add a29 (Int.toNat (IntKind.wrap IntKind.i64 ((↑l13.2 : Int) - 1)) * 1)) = some (Value.string s30) ∧
                                   ((((!ByteArray.toList s30 == ByteArray.toList s24) = true →
                                      ∀ w31 : World,
                                      (w31 = World.alloc w25 (Obj.cells (Array.mk [Value.string s24]) 9) →
                                        ∃ w32 : World, ∃ l33 : Sl, (Sem.run Tryd.prog (Builtin.append_ (Array.mk [57, 57]) 57 (Array.mk [Value.slice l13.1 l13.2 l13.3, Value.slice (some (Addr.mk (Array.size (World.heap w25)) 0 none)) 1 1])) w31 = Result.ok (Value.slice l33.1 l33.2 l33.3) w32 ∧
                                         (I11 (Sl.mk l33.1 l33.2 l33.3) (IntKind.wrap IntKind.i64 (n14 + 1)) w32 ∧
                                          I12 (Sl.mk l33.1 l33.2 l33.3) (IntKind.wrap IntKind.i64 (n14 + 1)) w32 < I12 l13 n14 w15))))) ∧
                                    ((!ByteArray.toList s30 == ByteArray.toList s24) = false →
                                      (I11 (Sl.mk l13.1 l13.2 l13.3) (IntKind.wrap IntKind.i64 (n14 + 1)) w25 ∧
                                       I12 (Sl.mk l13.1 l13.2 l13.3) (IntKind.wrap IntKind.i64 (n14 + 1)) w25 < I12 l13 n14 w15))))))))))))))))))))) ∧
              (decide (n14 < (↑l10.2 : Int)) = false →
                (((((↑l13.2 : Int) == 0) = true →
                   ((((!ByteArray.toList x1 == ByteArray.toList (ByteArray.mk (Array.mk []))) = true →
                      R (Value.tuple (Array.mk [Value.slice none 0 0, Value.int IntKind.i64 7])) w15)) ∧
                    ((!ByteArray.toList x1 == ByteArray.toList (ByteArray.mk (Array.mk []))) = false →
                      R (Value.tuple (Array.mk [Value.slice l13.1 l13.2 l13.3, Value.int IntKind.i64 0])) w15)))) ∧
                 (((↑l13.2 : Int) == 0) = false →
                   R (Value.tuple (Array.mk [Value.slice l13.1 l13.2 l13.3, Value.int IntKind.i64 0])) w15)))))))))))
theorem vc_cartularyref07_List_ok {x0a : Option Addr} {x0n : Nat} {x0c : Nat} {x1 : ByteArray} {w : World} {R : Value → World → Prop} {R' : Ending → World → Prop} (h : vc_cartularyref07_List x0a x0n x0c x1 w R) (hR : ∀ v w', R v w' → R' (.returned v) w') :
    Calls Tryd.prog 39 #[.slice x0a x0n x0c, .string x1] w R' :=
  calls_of_body (vs := [(.slice x0a x0n x0c, false), (.string x1, false)]) (ty := ty) (ann := ⟨[(6, [(6, .str)]), (14, [(11, .str)])], [(8, [(7, .slice), (24, .int .i64)])], [], []⟩) (c := Tryd.f39.body.getD .skip) (by kernel_rfl) Tryd.func39 (by kernel_rfl) (by kernel_rfl) (Eq.mp (by kernel_rfl) h) hR
/-- cartularyref07.Get -/
def vc_cartularyref07_Get (x0a : Option Addr) (x0n : Nat) (x0c : Nat) (x1 : ByteArray) (w : World) (R : Value → World → Prop) : Prop :=
  ∃ I1 : Int → World → Prop, ∃ I2 : Int → World → Nat, (I1 0 w ∧
   ∀ n3 : Int,
   ∀ w4 : World,
   (I1 n3 w4 →
     (((decide (n3 < (↑x0n : Int)) = true →
        ((0 ≤ n3 ∧
          n3 < (↑x0n : Int)) ∧
         ∃ a5 : Addr, (x0a = some a5 ∧
          ∃ s6 : ByteArray, ∃ s7 : ByteArray, (Sem.run Tryd.prog (loadVar 50 (Addr.add a5 (Int.toNat n3 * 2))) w4 = Result.ok (Value.agg (Array.mk [Value.string s6, Value.string s7])) w4 ∧
           ∀ w8 : World,
           (w8 = World.alloc w4 (Obj.cells (Array.mk [Value.string (ByteArray.mk (Array.mk [])), Value.string (ByteArray.mk (Array.mk []))]) 50) →
             ∃ w9 : World, (Sem.run Tryd.prog (storeVar 50 (Addr.mk (Array.size (World.heap w4)) 0 none) (Value.agg (Array.mk [Value.string s6, Value.string s7]))) w8 = Result.ok PUnit.unit w9 ∧
              ∃ s10 : ByteArray, (World.cell? w9 (Addr.mk (Array.size (World.heap w4)) 0 none) = some (Value.string s10) ∧
               ((((ByteArray.toList s10 == ByteArray.toList x1) = true →
                  ∃ s11 : ByteArray, (World.cell? w9 (Addr.mk (Array.size (World.heap w4)) 1 none) = some (Value.string s11) ∧
                   R (Value.tuple (Array.mk [Value.string s11, Value.bool true])) w9))) ∧
                ((ByteArray.toList s10 == ByteArray.toList x1) = false →
                  (I1 (IntKind.wrap IntKind.i64 (n3 + 1)) w9 ∧
                   I2 (IntKind.wrap IntKind.i64 (n3 + 1)) w9 < I2 n3 w4))))))))))) ∧
      (decide (n3 < (↑x0n : Int)) = false →
        R (Value.tuple (Array.mk [Value.string (ByteArray.mk (Array.mk [])), Value.bool false])) w4))))
theorem vc_cartularyref07_Get_ok {x0a : Option Addr} {x0n : Nat} {x0c : Nat} {x1 : ByteArray} {w : World} {R : Value → World → Prop} {R' : Ending → World → Prop} (h : vc_cartularyref07_Get x0a x0n x0c x1 w R) (hR : ∀ v w', R v w' → R' (.returned v) w') :
    Calls Tryd.prog 37 #[.slice x0a x0n x0c, .string x1] w R' :=
  calls_of_body (vs := [(.slice x0a x0n x0c, false), (.string x1, false)]) (ty := ty) (ann := ⟨[], [(2, [(10, .int .i64)])], [], []⟩) (c := Tryd.f37.body.getD .skip) (by kernel_rfl) Tryd.func37 (by kernel_rfl) (by kernel_rfl) (Eq.mp (by kernel_rfl) h) hR
/-- cartularyref07.Same -/
def vc_cartularyref07_Same (x0a : Option Addr) (x0n : Nat) (x0c : Nat) (x1a : Option Addr) (x1n : Nat) (x1c : Nat) (w : World) (R : Value → World → Prop) : Prop :=
  (((((↑x0n : Int) != (↑x1n : Int)) = true →
     R (Value.bool false) w)) ∧
   (((↑x0n : Int) != (↑x1n : Int)) = false →
     ∃ I1 : Int → World → Prop, ∃ I2 : Int → World → Nat, (I1 0 w ∧
      ∀ n3 : Int,
      ∀ w4 : World,
      (I1 n3 w4 →
        (((decide (n3 < (↑x0n : Int)) = true →
           ((0 ≤ n3 ∧
             n3 < (↑x0n : Int)) ∧
            ∃ a5 : Addr, (x0a = some a5 ∧
             ∃ s6 : ByteArray, (World.cell? w4 (Addr.add a5 (Int.toNat n3 * 1)) = some (Value.string s6) ∧
              ((0 ≤ n3 ∧
                n3 < (↑x1n : Int)) ∧
               ∃ a7 : Addr, (x1a = some a7 ∧
                ∃ s8 : ByteArray, (World.cell? w4 (Addr.add a7 (Int.toNat n3 * 1)) = some (Value.string s8) ∧
                 ∀ w9 : World,
                 (Drew w4 w9 →
                   ((((!ByteArray.toList s6 == ByteArray.toList s8) = true →
                      R (Value.bool false) w9)) ∧
                    ((!ByteArray.toList s6 == ByteArray.toList s8) = false →
                      (I1 (IntKind.wrap IntKind.i64 (n3 + 1)) w9 ∧
                       I2 (IntKind.wrap IntKind.i64 (n3 + 1)) w9 < I2 n3 w4)))))))))))) ∧
         (decide (n3 < (↑x0n : Int)) = false →
           R (Value.bool true) w4))))))
theorem vc_cartularyref07_Same_ok {x0a : Option Addr} {x0n : Nat} {x0c : Nat} {x1a : Option Addr} {x1n : Nat} {x1c : Nat} {w : World} {R : Value → World → Prop} {R' : Ending → World → Prop} (h : vc_cartularyref07_Same x0a x0n x0c x1a x1n x1c w R) (hR : ∀ v w', R v w' → R' (.returned v) w') :
    Calls Tryd.prog 40 #[.slice x0a x0n x0c, .slice x1a x1n x1c] w R' :=
  calls_of_body (vs := [(.slice x0a x0n x0c, false), (.slice x1a x1n x1c, false)]) (ty := ty) (ann := ⟨[], [(4, [(13, .int .i64)])], [(6, .quiet)], []⟩) (c := Tryd.f40.body.getD .skip) (by kernel_rfl) Tryd.func40 (by kernel_rfl) (by kernel_rfl) (Eq.mp (by kernel_rfl) h) hR
end Go.Proofs.YtmihbbgojkbaeaaDoor

/- Formulas of 8 Go functions of this seat (written by a program of the author's, vcgen.py), and that each is enough for the call. No condition. -/
import Derived.Test.YtmihbbgojkbaeaaDoorTy
import Derived.Test.YtmihbbgojkbaeaaDoorProg
set_option linter.unusedVariables false
namespace Go.Proofs.YtmihbbgojkbaeaaDoor
open Go Vc Go.Proofs
set_option maxRecDepth 100000
/-- cartularyref14.Modes -/
def vc_cartularyref14_Modes (w : World) (R : Value → World → Prop) : Prop :=
  ∀ w1 : World,
  (w1 = World.alloc w (Obj.cells (Array.mk [Value.int IntKind.i64 16384, Value.int IntKind.i64 33188, Value.int IntKind.i64 33261, Value.int IntKind.i64 40960, Value.int IntKind.i64 57344]) 3) →
    ∀ w2 : World,
    (w2 = World.alloc w1 (Obj.cells (Array.mk [Value.string (ByteArray.mk (Array.mk [52, 48, 48, 48, 48])), Value.string (ByteArray.mk (Array.mk [49, 48, 48, 54, 52, 52])), Value.string (ByteArray.mk (Array.mk [49, 48, 48, 55, 53, 53])), Value.string (ByteArray.mk (Array.mk [49, 50, 48, 48, 48, 48])), Value.string (ByteArray.mk (Array.mk [49, 54, 48, 48, 48, 48]))]) 9) →
      R (Value.tuple (Array.mk [Value.slice (some (Addr.mk (Array.size (World.heap w)) 0 none)) 5 5, Value.slice (some (Addr.mk (Array.size (World.heap w1)) 0 none)) 5 5])) w2))
theorem vc_cartularyref14_Modes_ok {w : World} {R : Value → World → Prop} {R' : Ending → World → Prop} (h : vc_cartularyref14_Modes w R) (hR : ∀ v w', R v w' → R' (.returned v) w') :
    Calls Tryd.prog 56 #[] w R' :=
  calls_of_body (vs := []) (ty := ty) (ann := ⟨[], [], [], []⟩) (c := Tryd.f56.body.getD .skip) (by kernel_rfl) Tryd.func56 (by kernel_rfl) (by kernel_rfl) (Eq.mp (by kernel_rfl) h) hR
/-- cartularyref14.mode -/
def vc_cartularyref14_mode (x0 : Int) (w : World) (R : Value → World → Prop) : Prop :=
  Calls Tryd.prog (56 : Nat) (Array.mk []) (w) (fun e1 w2 =>
    ∃ l3 : Sl, ∃ l4 : Sl, (e1 = Ending.returned (Value.tuple (Array.mk [Value.slice l3.1 l3.2 l3.3, Value.slice l4.1 l4.2 l4.3])) ∧
     ∃ I5 : Int → World → Prop, ∃ I6 : Int → World → Nat, (I5 0 w2 ∧
      ∀ n7 : Int,
      ∀ w8 : World,
      (I5 n7 w8 →
        (((decide (n7 < (↑l3.2 : Int)) = true →
           ((0 ≤ n7 ∧
             n7 < (↑l3.2 : Int)) ∧
            ∃ a9 : Addr, (l3.1 = some a9 ∧
             ∃ n10 : Int, (World.cell? w8 (Addr.add a9 (Int.toNat n7 * 1)) = some (Value.int IntKind.i64 n10) ∧
              ((((n10 == x0) = true →
                 ((0 ≤ n7 ∧
                   n7 < (↑l4.2 : Int)) ∧
                  ∃ a11 : Addr, (l4.1 = some a11 ∧
                   ∃ s12 : ByteArray, (World.cell? w8 (Addr.add a11 (Int.toNat n7 * 1)) = some (Value.string s12) ∧
                    R (Value.string s12) w8))))) ∧
               ((n10 == x0) = false →
                 (I5 (IntKind.wrap IntKind.i64 (n7 + 1)) w8 ∧
                  I6 (IntKind.wrap IntKind.i64 (n7 + 1)) w8 < I6 n7 w8)))))))) ∧
         (decide (n7 < (↑l3.2 : Int)) = false →
           R (Value.string (ByteArray.mk (Array.mk []))) w8))))))
theorem vc_cartularyref14_mode_ok {x0 : Int} {w : World} {R : Value → World → Prop} {R' : Ending → World → Prop} (h : vc_cartularyref14_mode x0 w R) (hR : ∀ v w', R v w' → R' (.returned v) w') :
    Calls Tryd.prog 45 #[.int .i64 x0] w R' :=
  calls_of_body (vs := [(.int .i64 x0, false)]) (ty := ty) (ann := ⟨[], [(3, [(13, .int .i64)])], [], []⟩) (c := Tryd.f45.body.getD .skip) (by kernel_rfl) Tryd.func45 (by kernel_rfl) (by kernel_rfl) (Eq.mp (by kernel_rfl) h) hR
/-- cartularyref14.Name -/
def vc_cartularyref14_Name (x0 : ByteArray) (w : World) (R : Value → World → Prop) : Prop :=
  (((decide ((↑(ByteArray.size x0) : Int) < 1) = true →
     R (Value.bool false) w)) ∧
   (decide ((↑(ByteArray.size x0) : Int) < 1) = false →
     (((decide ((↑(ByteArray.size x0) : Int) > 100) = true →
        R (Value.bool false) w)) ∧
      (decide ((↑(ByteArray.size x0) : Int) > 100) = false →
        ((((ByteArray.toList x0 == ByteArray.toList (ByteArray.mk (Array.mk [46]))) = true →
           R (Value.bool false) w)) ∧
         ((ByteArray.toList x0 == ByteArray.toList (ByteArray.mk (Array.mk [46]))) = false →
           ((((ByteArray.toList x0 == ByteArray.toList (ByteArray.mk (Array.mk [46, 46]))) = true →
              R (Value.bool false) w)) ∧
            ((ByteArray.toList x0 == ByteArray.toList (ByteArray.mk (Array.mk [46, 46]))) = false →
              Calls Tryd.prog (57 : Nat) (Array.mk [Value.string x0, Value.int IntKind.u8 47]) (w) (fun e1 w2 =>
                ∃ n3 : Int, (e1 = Ending.returned (Value.int IntKind.i64 n3) ∧
                 (((decide (n3 ≥ 0) = true →
                    R (Value.bool false) w2)) ∧
                  (decide (n3 ≥ 0) = false →
                    Calls Tryd.prog (57 : Nat) (Array.mk [Value.string x0, Value.int IntKind.u8 0]) (w2) (fun e4 w5 =>
                      ∃ n6 : Int, (e4 = Ending.returned (Value.int IntKind.i64 n6) ∧
                       (((decide (n6 ≥ 0) = true →
                          R (Value.bool false) w5)) ∧
                        (decide (n6 ≥ 0) = false →
                          ∀ w7 : World,
                          (w7 = World.alloc w5 (Obj.cells (Array.mk []) 5) →
                            ∃ I8 : Sl → Int → World → Prop, ∃ I9 : Sl → Int → World → Nat, (I8 (Sl.mk (some (Addr.mk (Array.size (World.heap w5)) 0 none)) 0 0) 0 w7 ∧
                             ∀ l10 : Sl,
                             ∀ n11 : Int,
                             ∀ w12 : World,
                             (I8 l10 n11 w12 →
                               (((decide (n11 < (↑(ByteArray.size x0) : Int)) = true →
                                  ((0 ≤ n11 ∧
                                    n11 < (↑(ByteArray.size x0) : Int)) ∧
                                   (((decide (byteAt x0 n11 ≥ 65) = true →
                                      (((decide (byteAt x0 n11 ≤ 90) = true →
                                         ∀ w13 : World,
                                         (w13 = World.alloc w12 (Obj.cells (Array.mk [Value.int IntKind.u8 (IntKind.wrap IntKind.u8 (byteAt x0 n11 + 32))]) 5) →
                                           ∃ w14 : World, ∃ l15 : Sl, (Sem.run Tryd.prog (Builtin.append_ (Array.mk [41, 41]) 41 (Array.mk [Value.slice l10.1 l10.2 l10.3, Value.slice (some (Addr.mk (Array.size (World.heap w12)) 0 none)) 1 1])) w13 = Result.ok (Value.slice l15.1 l15.2 l15.3) w14 ∧
                                            (I8 (Sl.mk l15.1 l15.2 l15.3) (IntKind.wrap IntKind.i64 (n11 + 1)) w14 ∧
                                             I9 (Sl.mk l15.1 l15.2 l15.3) (IntKind.wrap IntKind.i64 (n11 + 1)) w14 < I9 l10 n11 w12))))) ∧
                                       (decide (byteAt x0 n11 ≤ 90) = false →
                                         ∀ w16 : World,
                                         (w16 = World.alloc w12 (Obj.cells (Array.mk [Value.int IntKind.u8 (byteAt x0 n11)]) 5) →
                                           ∃ w17 : World, ∃ l18 : Sl, (Sem.run Tryd.prog (Builtin.append_ (Array.mk [41, 41]) 41 (Array.mk [Value.slice l10.1 l10.2 l10.3, Value.slice (some (Addr.mk (Array.size (World.heap w12)) 0 none)) 1 1])) w16 = Result.ok (Value.slice l18.1 l18.2 l18.3) w17 ∧
                                            (I8 (Sl.mk l18.1 l18.2 l18.3) (IntKind.wrap IntKind.i64 (n11 + 1)) w17 ∧
                                             I9 (Sl.mk l18.1 l18.2 l18.3) (IntKind.wrap IntKind.i64 (n11 + 1)) w17 < I9 l10 n11 w12))))))) ∧
                                    (decide (byteAt x0 n11 ≥ 65) = false →
                                      ∀ w19 : World,
                                      (w19 = World.alloc w12 (Obj.cells (Array.mk [Value.int IntKind.u8 (byteAt x0 n11)]) 5) →
                                        ∃ w20 : World, ∃ l21 : Sl, (Sem.run Tryd.prog (Builtin.append_ (Array.mk [41, 41]) 41 (Array.mk [Value.slice l10.1 l10.2 l10.3, Value.slice (some (Addr.mk (Array.size (World.heap w12)) 0 none)) 1 1])) w19 = Result.ok (Value.slice l21.1 l21.2 l21.3) w20 ∧
                                         (I8 (Sl.mk l21.1 l21.2 l21.3) (IntKind.wrap IntKind.i64 (n11 + 1)) w20 ∧
                                          I9 (Sl.mk l21.1 l21.2 l21.3) (IntKind.wrap IntKind.i64 (n11 + 1)) w20 < I9 l10 n11 w12)))))))) ∧
                                (decide (n11 < (↑(ByteArray.size x0) : Int)) = false →
                                  ∃ w22 : World, ∃ s23 : ByteArray, (Sem.run Tryd.prog (convert 41 9 (Value.slice l10.1 l10.2 l10.3)) w12 = Result.ok (Value.string s23) w22 ∧
                                   R (Value.bool !ByteArray.toList s23 == ByteArray.toList (ByteArray.mk (Array.mk [46, 103, 105, 116]))) w22))))))))))))))))))))))
theorem vc_cartularyref14_Name_ok {x0 : ByteArray} {w : World} {R : Value → World → Prop} {R' : Ending → World → Prop} (h : vc_cartularyref14_Name x0 w R) (hR : ∀ v w', R v w' → R' (.returned v) w') :
    Calls Tryd.prog 25 #[.string x0] w R' :=
  calls_of_body (vs := [(.string x0, false)]) (ty := ty) (ann := ⟨[], [(5, [(3, .slice), (4, .int .i64)])], [], []⟩) (c := Tryd.f25.body.getD .skip) (by kernel_rfl) Tryd.func25 (by kernel_rfl) (by kernel_rfl) (Eq.mp (by kernel_rfl) h) hR
/-- cartularyref14.key -/
def vc_cartularyref14_key (x0_0 : Int) (x0_1 : ByteArray) (x0_2 : ByteArray) (w : World) (R : Value → World → Prop) : Prop :=
  ∀ w1 : World,
  (w1 = World.alloc w (Obj.cells (Array.mk [Value.int IntKind.i64 x0_0, Value.string x0_1, Value.string x0_2]) 29) →
    ∃ n2 : Int, (World.cell? w1 (Addr.mk (Array.size (World.heap w)) 0 none) = some (Value.int IntKind.i64 n2) ∧
     ((((n2 == 16384) = true →
        ∃ s3 : ByteArray, (World.cell? w1 (Addr.mk (Array.size (World.heap w)) 1 none) = some (Value.string s3) ∧
         (ByteArray.size s3 + ByteArray.size (ByteArray.mk (Array.mk [47])) ≤ 9223372036854775807 ∧
          R (Value.string (s3 ++ ByteArray.mk (Array.mk [47]))) w1)))) ∧
      ((n2 == 16384) = false →
        ∃ s4 : ByteArray, (World.cell? w1 (Addr.mk (Array.size (World.heap w)) 1 none) = some (Value.string s4) ∧
         R (Value.string s4) w1)))))
theorem vc_cartularyref14_key_ok {x0_0 : Int} {x0_1 : ByteArray} {x0_2 : ByteArray} {w : World} {R : Value → World → Prop} {R' : Ending → World → Prop} (h : vc_cartularyref14_key x0_0 x0_1 x0_2 w R) (hR : ∀ v w', R v w' → R' (.returned v) w') :
    Calls Tryd.prog 47 #[.agg #[.int .i64 x0_0, .string x0_1, .string x0_2]] w R' :=
  calls_of_body (vs := [(.agg #[.int .i64 x0_0, .string x0_1, .string x0_2], false)]) (ty := ty) (ann := ⟨[], [], [], []⟩) (c := Tryd.f47.body.getD .skip) (by kernel_rfl) Tryd.func47 (by kernel_rfl) (by kernel_rfl) (Eq.mp (by kernel_rfl) h) hR
/-- cartularyref14.Check -/
def vc_cartularyref14_Check (x0a : Option Addr) (x0n : Nat) (x0c : Nat) (w : World) (R : Value → World → Prop) : Prop :=
  (((decide ((↑x0n : Int) > 500) = true →
     R (Value.int IntKind.i64 2) w)) ∧
   (decide ((↑x0n : Int) > 500) = false →
     ∃ I1 : Int → World → Prop, ∃ I2 : Int → World → Nat, (I1 0 w ∧
      ∀ n3 : Int,
      ∀ w4 : World,
      (I1 n3 w4 →
        (((decide (n3 < (↑x0n : Int)) = true →
           ((0 ≤ n3 ∧
             n3 < (↑x0n : Int)) ∧
            ∃ a5 : Addr, (x0a = some a5 ∧
             ∃ n6 : Int, ∃ s7 : ByteArray, ∃ s8 : ByteArray, (Sem.run Tryd.prog (loadVar 29 (Addr.add a5 (Int.toNat n3 * 3))) w4 = Result.ok (Value.agg (Array.mk [Value.int IntKind.i64 n6, Value.string s7, Value.string s8])) w4 ∧
              ∀ w9 : World,
              (w9 = World.alloc w4 (Obj.cells (Array.mk [Value.int IntKind.i64 0, Value.string (ByteArray.mk (Array.mk [])), Value.string (ByteArray.mk (Array.mk []))]) 29) →
                ∃ w10 : World, (Sem.run Tryd.prog (storeVar 29 (Addr.mk (Array.size (World.heap w4)) 0 none) (Value.agg (Array.mk [Value.int IntKind.i64 n6, Value.string s7, Value.string s8]))) w9 = Result.ok PUnit.unit w10 ∧
                 ∃ n11 : Int, (World.cell? w10 (Addr.mk (Array.size (World.heap w4)) 0 none) = some (Value.int IntKind.i64 n11) ∧
                  Calls Tryd.prog (45 : Nat) (Array.mk [Value.int IntKind.i64 n11]) (w10) (fun e12 w13 =>
                    ∃ s14 : ByteArray, (e12 = Ending.returned (Value.string s14) ∧
                     ((((ByteArray.toList s14 == ByteArray.toList (ByteArray.mk (Array.mk []))) = true →
                        R (Value.int IntKind.i64 4) w13)) ∧
                      ((ByteArray.toList s14 == ByteArray.toList (ByteArray.mk (Array.mk []))) = false →
                        ∃ s15 : ByteArray, (World.cell? w13 (Addr.mk (Array.size (World.heap w4)) 1 none) = some (Value.string s15) ∧
                         Calls Tryd.prog (25 : Nat) (Array.mk [Value.string s15]) (w13) (fun e16 w17 =>
                           ∃ b18 : Bool, (e16 = Ending.returned (Value.bool b18) ∧
                            ((((!b18) = true →
                               R (Value.int IntKind.i64 4) w17)) ∧
                             ((!b18) = false →
                               ∃ s19 : ByteArray, (World.cell? w17 (Addr.mk (Array.size (World.heap w4)) 2 none) = some (Value.string s19) ∧
                                Calls Tryd.prog (46 : Nat) (Array.mk [Value.string s19]) (w17) (fun e20 w21 =>
                                  ∃ b22 : Bool, (e20 = Ending.returned (Value.bool b22) ∧
                                   ((((!b22) = true →
                                      R (Value.int IntKind.i64 4) w21)) ∧
                                    ((!b22) = false →
                                      ((0 ≤ n3 ∧
                                        n3 ≤ (↑x0c : Int)) ∧
                                       ∃ I23 : Int → World → Prop, ∃ I24 : Int → World → Nat, (I23 0 w21 ∧
                                        ∀ n25 : Int,
                                        ∀ w26 : World,
                                        (I23 n25 w26 →
                                          (((decide (n25 < (↑(Int.toNat n3) : Int)) = true →
                                             ((0 ≤ n25 ∧
                                               n25 < (↑(Int.toNat n3) : Int)) ∧
                                              ∃ a27 : Addr, (subA x0a x0c 0 3 = some a27 ∧
                                               ∃ n28 : Int, ∃ s29 : ByteArray, ∃ s30 : ByteArray, (Sem.run Tryd.prog (loadVar 29 (Addr.add a27 (Int.toNat n25 * 3))) w26 = Result.ok (Value.agg (Array.mk [Value.int IntKind.i64 n28, Value.string s29, Value.string s30])) w26 ∧
                                                ∀ w31 : World,
                                                (w31 = World.alloc w26 (Obj.cells (Array.mk [Value.int IntKind.i64 0, Value.string (ByteArray.mk (Array.mk [])), Value.string (ByteArray.mk (Array.mk []))]) 29) →
                                                  ∃ w32 : World, (Sem.run Tryd.prog (storeVar 29 (Addr.mk (Array.size (World.heap w26)) 0 none) (Value.agg (Array.mk [Value.int IntKind.i64 n28, Value.string s29, Value.string s30]))) w31 = Result.ok PUnit.unit w32 ∧
                                                   ∀ w33 : World,
                                                   (Drew w32 w33 →
                                                     ∃ I34 : World → Prop, (I34 w33 ∧
                                                      ∃ s35 : ByteArray, ((∀ w36 : World,
                                                       (I34 w36 →
                                                         World.cell? w36 (Addr.mk (Array.size (World.heap w26)) 1 none) = some (Value.string s35))) ∧
                                                       ∃ s37 : ByteArray, ((∀ w38 : World,
                                                        (I34 w38 →
                                                          World.cell? w38 (Addr.mk (Array.size (World.heap w4)) 1 none) = some (Value.string s37))) ∧
                                                        ((((ByteArray.toList s35 == ByteArray.toList s37) = true →
                                                           (I34 w33 ∧
                                                            (I34 w33 ∧
                                                             R (Value.int IntKind.i64 4) w33)))) ∧
                                                         ((ByteArray.toList s35 == ByteArray.toList s37) = false →
                                                           ∃ n39 : Int, ∃ s40 : ByteArray, ∃ s41 : ByteArray, ((∀ w42 : World,
                                                            (I34 w42 →
                                                              Sem.run Tryd.prog (loadVar 29 (Addr.mk (Array.size (World.heap w26)) 0 none)) w42 = Result.ok (Value.agg (Array.mk [Value.int IntKind.i64 n39, Value.string s40, Value.string s41])) w42)) ∧
                                                            ∃ n43 : Int, ∃ s44 : ByteArray, ∃ s45 : ByteArray, ((∀ w46 : World,
                                                             (I34 w46 →
                                                               Sem.run Tryd.prog (loadVar 29 (Addr.mk (Array.size (World.heap w4)) 0 none)) w46 = Result.ok (Value.agg (Array.mk [Value.int IntKind.i64 n43, Value.string s44, Value.string s45])) w46)) ∧
                                                             Calls Tryd.prog (47 : Nat) (Array.mk [Value.agg (Array.mk [Value.int IntKind.i64 n39, Value.string s40, Value.string s41])]) (w33) (fun e47 w48 =>
                                                               ∃ s49 : ByteArray, (e47 = Ending.returned (Value.string s49) ∧
                                                                (I34 w48 ∧
                                                                 Calls Tryd.prog (47 : Nat) (Array.mk [Value.agg (Array.mk [Value.int IntKind.i64 n43, Value.string s44, Value.string s45])]) (w48) (fun e50 w51 =>
                                                                   ∃ s52 : ByteArray, (e50 = Ending.returned (Value.string s52) ∧
                                                                    (I34 w51 ∧
                                                                     ((((!Op.bytesLess (ByteArray.toList s49) (ByteArray.toList s52)) = true →
                                                                        R (Value.int IntKind.i64 4) w51)) ∧
                                                                      ((!Op.bytesLess (ByteArray.toList s49) (ByteArray.toList s52)) = false →
                                                                        (I23 (IntKind.wrap IntKind.i64 (n25 + 1)) w51 ∧
                                                                         I24 (IntKind.wrap IntKind.i64 (n25 + 1)) w51 < I24 n25 w26)))))))))))))))))))))))) ∧
                                           (decide (n25 < (↑(Int.toNat n3) : Int)) = false →
                                             (I1 (IntKind.wrap IntKind.i64 (n3 + 1)) w26 ∧
                                              I2 (IntKind.wrap IntKind.i64 (n3 + 1)) w26 < I2 n3 w4)))))))))))))))))))))))))))) ∧
         (decide (n3 < (↑x0n : Int)) = false →
           R (Value.int IntKind.i64 0) w4))))))
theorem vc_cartularyref14_Check_ok {x0a : Option Addr} {x0n : Nat} {x0c : Nat} {w : World} {R : Value → World → Prop} {R' : Ending → World → Prop} (h : vc_cartularyref14_Check x0a x0n x0c w R) (hR : ∀ v w', R v w' → R' (.returned v) w') :
    Calls Tryd.prog 16 #[.slice x0a x0n x0c] w R' :=
  calls_of_body (vs := [(.slice x0a x0n x0c, false)]) (ty := ty) (ann := ⟨[], [(4, [(12, .int .i64)]), (9, [(37, .int .i64)])], [(11, .held [(0, true), (1, true), (2, true), (3, true), (4, true), (5, true), (6, true), (8, true), (7, false), (9, false), (10, true), (11, true)])], []⟩) (c := Tryd.f16.body.getD .skip) (by kernel_rfl) Tryd.func16 (by kernel_rfl) (by kernel_rfl) (Eq.mp (by kernel_rfl) h) hR
/-- cartularyref14.Text -/
def vc_cartularyref14_Text (x0a : Option Addr) (x0n : Nat) (x0c : Nat) (w : World) (R : Value → World → Prop) : Prop :=
  ∃ I1 : ByteArray → Int → World → Prop, ∃ I2 : ByteArray → Int → World → Nat, (I1 (ByteArray.mk (Array.mk [])) 0 w ∧
   ∀ s3 : ByteArray,
   ∀ n4 : Int,
   ∀ w5 : World,
   (I1 s3 n4 w5 →
     (((decide (n4 < (↑x0n : Int)) = true →
        ((0 ≤ n4 ∧
          n4 < (↑x0n : Int)) ∧
         ∃ a6 : Addr, (x0a = some a6 ∧
          ∃ n7 : Int, ∃ s8 : ByteArray, ∃ s9 : ByteArray, (Sem.run Tryd.prog (loadVar 29 (Addr.add a6 (Int.toNat n4 * 3))) w5 = Result.ok (Value.agg (Array.mk [Value.int IntKind.i64 n7, Value.string s8, Value.string s9])) w5 ∧
           ∀ w10 : World,
           (w10 = World.alloc w5 (Obj.cells (Array.mk [Value.int IntKind.i64 0, Value.string (ByteArray.mk (Array.mk [])), Value.string (ByteArray.mk (Array.mk []))]) 29) →
             ∃ w11 : World, (Sem.run Tryd.prog (storeVar 29 (Addr.mk (Array.size (World.heap w5)) 0 none) (Value.agg (Array.mk [Value.int IntKind.i64 n7, Value.string s8, Value.string s9]))) w10 = Result.ok PUnit.unit w11 ∧
              ∀ w12 : World,
              (Drew w11 w12 →
                ∃ I13 : World → Prop, (I13 w12 ∧
                 ∃ n14 : Int, ((∀ w15 : World,
                  (I13 w15 →
                    World.cell? w15 (Addr.mk (Array.size (World.heap w5)) 0 none) = some (Value.int IntKind.i64 n14))) ∧
                  ∃ s16 : ByteArray, ((∀ w17 : World,
                   (I13 w17 →
                     World.cell? w17 (Addr.mk (Array.size (World.heap w5)) 1 none) = some (Value.string s16))) ∧
                   ∃ s18 : ByteArray, ((∀ w19 : World,
                    (I13 w19 →
                      World.cell? w19 (Addr.mk (Array.size (World.heap w5)) 2 none) = some (Value.string s18))) ∧
                    Calls Tryd.prog (45 : Nat) (Array.mk [Value.int IntKind.i64 n14]) (w12) (fun e20 w21 =>
                      ∃ s22 : ByteArray, (e20 = Ending.returned (Value.string s22) ∧
                       (I13 w21 ∧
                        (ByteArray.size s22 + ByteArray.size (ByteArray.mk (Array.mk [32])) ≤ 9223372036854775807 ∧
                         (ByteArray.size (s22 ++ ByteArray.mk (Array.mk [32])) + ByteArray.size s16 ≤ 9223372036854775807 ∧
                          (ByteArray.size (s22 ++ ByteArray.mk (Array.mk [32]) ++ s16) + ByteArray.size (ByteArray.mk (Array.mk [0])) ≤ 9223372036854775807 ∧
                           Calls Tryd.prog (59 : Nat) (Array.mk [Value.string s18]) (w21) (fun e23 w24 =>
                             ∃ s25 : ByteArray, (e23 = Ending.returned (Value.string s25) ∧
                              (I13 w24 ∧
                               (ByteArray.size (s22 ++ ByteArray.mk (Array.mk [32]) ++ s16 ++ ByteArray.mk (Array.mk [0])) + ByteArray.size s25 ≤ 9223372036854775807 ∧
                                (ByteArray.size s3 + ByteArray.size (s22 ++ ByteArray.mk (Array.mk [32]) ++ s16 ++ ByteArray.mk (Array.mk [0]) ++ s25) ≤ 9223372036854775807 ∧
                                 (I1 (s3 ++ (s22 ++ ByteArray.mk (Array.mk [32]) ++ s16 ++ ByteArray.mk (Array.mk [0]) ++ s25)) (IntKind.wrap IntKind.i64 (n4 + 1)) w24 ∧
                                  I2 (s3 ++ (s22 ++ ByteArray.mk (Array.mk [32]) ++ s16 ++ ByteArray.mk (Array.mk [0]) ++ s25)) (IntKind.wrap IntKind.i64 (n4 + 1)) w24 < I2 s3 n4 w5)))))))))))))))))))))))) ∧
      (decide (n4 < (↑x0n : Int)) = false →
        R (Value.string s3) w5))))
theorem vc_cartularyref14_Text_ok {x0a : Option Addr} {x0n : Nat} {x0c : Nat} {w : World} {R : Value → World → Prop} {R' : Ending → World → Prop} (h : vc_cartularyref14_Text x0a x0n x0c w R) (hR : ∀ v w', R v w' → R' (.returned v) w') :
    Calls Tryd.prog 23 #[.slice x0a x0n x0c] w R' :=
  calls_of_body (vs := [(.slice x0a x0n x0c, false)]) (ty := ty) (ann := ⟨[], [(3, [(3, .str), (8, .int .i64)])], [(5, .held [(0, true), (1, true), (2, true), (5, true), (6, true), (9, true), (10, true), (3, false), (4, true), (7, true), (8, true), (11, false), (12, true), (13, true), (14, true)])], []⟩) (c := Tryd.f23.body.getD .skip) (by kernel_rfl) Tryd.func23 (by kernel_rfl) (by kernel_rfl) (Eq.mp (by kernel_rfl) h) hR
/-- cartularyref14.Parse -/
def vc_cartularyref14_Parse (x0 : ByteArray) (w : World) (R : Value → World → Prop) : Prop :=
  ∀ w1 : World,
  (w1 = World.alloc w (Obj.cells (Array.mk []) 29) →
    Calls Tryd.prog (56 : Nat) (Array.mk []) (w1) (fun e2 w3 =>
      ∃ l4 : Sl, ∃ l5 : Sl, (e2 = Ending.returned (Value.tuple (Array.mk [Value.slice l4.1 l4.2 l4.3, Value.slice l5.1 l5.2 l5.3])) ∧
       ∃ I6 : ByteArray → Sl → World → Prop, ∃ I7 : ByteArray → Sl → World → Nat, (I6 x0 (Sl.mk (some (Addr.mk (Array.size (World.heap w)) 0 none)) 0 0) w3 ∧
        ∀ s8 : ByteArray,
        ∀ l9 : Sl,
        ∀ w10 : World,
        (I6 s8 l9 w10 →
          (((decide ((↑(ByteArray.size s8) : Int) > 0) = true →
             Calls Tryd.prog (57 : Nat) (Array.mk [Value.string s8, Value.int IntKind.u8 0]) (w10) (fun e11 w12 =>
               ∃ n13 : Int, (e11 = Ending.returned (Value.int IntKind.i64 n13) ∧
                (((decide (n13 < 0) = true →
                   R (Value.tuple (Array.mk [Value.slice none 0 0, Value.int IntKind.i64 6])) w12)) ∧
                 (decide (n13 < 0) = false →
                   (((decide (IntKind.wrap IntKind.i64 ((↑(ByteArray.size s8) : Int) - n13) < 21) = true →
                      R (Value.tuple (Array.mk [Value.slice none 0 0, Value.int IntKind.i64 6])) w12)) ∧
                    (decide (IntKind.wrap IntKind.i64 ((↑(ByteArray.size s8) : Int) - n13) < 21) = false →
                      ((0 ≤ n13 ∧
                        n13 ≤ (↑(ByteArray.size s8) : Int)) ∧
                       Calls Tryd.prog (57 : Nat) (Array.mk [Value.string (ByteArray.extract s8 0 (Int.toNat n13)), Value.int IntKind.u8 32]) (w12) (fun e14 w15 =>
                         ∃ n16 : Int, (e14 = Ending.returned (Value.int IntKind.i64 n16) ∧
                          (((decide (n16 < 0) = true →
                             R (Value.tuple (Array.mk [Value.slice none 0 0, Value.int IntKind.i64 3])) w15)) ∧
                           (decide (n16 < 0) = false →
                             ∃ I17 : Int → Int → World → Prop, ∃ I18 : Int → Int → World → Nat, (I17 0 0 w15 ∧
                              ∀ n19 : Int,
                              ∀ n20 : Int,
                              ∀ w21 : World,
                              (I17 n19 n20 w21 →
                                (((decide (n20 < (↑l5.2 : Int)) = true →
                                   ((0 ≤ n20 ∧
                                     n20 < (↑l5.2 : Int)) ∧
                                    ∃ a22 : Addr, (l5.1 = some a22 ∧
                                     ∃ s23 : ByteArray, (World.cell? w21 (Addr.add a22 (Int.toNat n20 * 1)) = some (Value.string s23) ∧
                                      ((0 ≤ n16 ∧
                                        n16 ≤ (↑(ByteArray.size s8) : Int)) ∧
                                       ((((ByteArray.toList s23 == ByteArray.toList (ByteArray.extract s8 0 (Int.toNat n16))) = true →
                                          ((0 ≤ n20 ∧
                                            n20 < (↑l4.2 : Int)) ∧
                                           ∃ a24 : Addr, (l4.1 = some a24 ∧
                                            ∃ n25 : Int, (World.cell? w21 (Addr.add a24 (Int.toNat n20 * 1)) = some (Value.int IntKind.i64 n25) ∧
                                             (I17 n25 (IntKind.wrap IntKind.i64 (n20 + 1)) w21 ∧
                                              I18 n25 (IntKind.wrap IntKind.i64 (n20 + 1)) w21 < I18 n19 n20 w21)))))) ∧
                                        ((ByteArray.toList s23 == ByteArray.toList (ByteArray.extract s8 0 (Int.toNat n16))) = false →
                                          (I17 n19 (IntKind.wrap IntKind.i64 (n20 + 1)) w21 ∧
                                           I18 n19 (IntKind.wrap IntKind.i64 (n20 + 1)) w21 < I18 n19 n20 w21))))))))) ∧
                                 (decide (n20 < (↑l5.2 : Int)) = false →
                                   ((((n19 == 0) = true →
                                      R (Value.tuple (Array.mk [Value.slice none 0 0, Value.int IntKind.i64 3])) w21)) ∧
                                    ((n19 == 0) = false →
                                      ∀ w26 : World,
                                      (Drew w21 w26 →
                                        ∃ I27 : World → Prop, (I27 w26 ∧
                                         ((0 ≤ IntKind.wrap IntKind.i64 (n16 + 1) ∧
                                           (IntKind.wrap IntKind.i64 (n16 + 1) ≤ n13 ∧
                                            n13 ≤ (↑(ByteArray.size s8) : Int))) ∧
                                          ((0 ≤ IntKind.wrap IntKind.i64 (n13 + 1) ∧
                                            (IntKind.wrap IntKind.i64 (n13 + 1) ≤ IntKind.wrap IntKind.i64 (n13 + 21) ∧
                                             IntKind.wrap IntKind.i64 (n13 + 21) ≤ (↑(ByteArray.size s8) : Int))) ∧
                                           Calls Tryd.prog (58 : Nat) (Array.mk [Value.string (ByteArray.extract s8 (Int.toNat (IntKind.wrap IntKind.i64 (n13 + 1))) (Int.toNat (IntKind.wrap IntKind.i64 (n13 + 21))))]) (w26) (fun e28 w29 =>
                                             ∃ s30 : ByteArray, (e28 = Ending.returned (Value.string s30) ∧
                                              (I27 w29 ∧
                                               ∀ w31 : World,
                                               (w31 = World.alloc w29 (Obj.cells (Array.mk [Value.int IntKind.i64 n19, Value.string (ByteArray.extract s8 (Int.toNat (IntKind.wrap IntKind.i64 (n16 + 1))) (Int.toNat n13)), Value.string s30]) 29) →
                                                 (I27 w31 ∧
                                                  ∃ w32 : World, ∃ l33 : Sl, (Sem.run Tryd.prog (Builtin.append_ (Array.mk [22, 22]) 22 (Array.mk [Value.slice l9.1 l9.2 l9.3, Value.slice (some (Addr.mk (Array.size (World.heap w29)) 0 none)) 1 1])) w31 = Result.ok (Value.slice l33.1 l33.2 l33.3) w32 ∧
                                                   (I27 w32 ∧
                                                    ((0 ≤ IntKind.wrap IntKind.i64 (n13 + 21) ∧
                                                      IntKind.wrap IntKind.i64 (n13 + 21) ≤ (↑(ByteArray.size s8) : Int)) ∧
                                                     (((decide ((↑l33.2 : Int) > 500) = true →
                                                        R (Value.tuple (Array.mk [Value.slice none 0 0, Value.int IntKind.i64 2])) w32)) ∧
                                                      (decide ((↑l33.2 : Int) > 500) = false →
                                                        (I6 (ByteArray.extract s8 (Int.toNat (IntKind.wrap IntKind.i64 (n13 + 21))) (ByteArray.size s8)) (Sl.mk l33.1 l33.2 l33.3) w32 ∧
                                                         I7 (ByteArray.extract s8 (Int.toNat (IntKind.wrap IntKind.i64 (n13 + 21))) (ByteArray.size s8)) (Sl.mk l33.1 l33.2 l33.3) w32 < I7 s8 l9 w10)))))))))))))))))))))))))))))))))) ∧
           (decide ((↑(ByteArray.size s8) : Int) > 0) = false →
             Calls Tryd.prog (16 : Nat) (Array.mk [Value.slice l9.1 l9.2 l9.3]) (w10) (fun e34 w35 =>
               ∃ n36 : Int, (e34 = Ending.returned (Value.int IntKind.i64 n36) ∧
                ((((n36 != 0) = true →
                   R (Value.tuple (Array.mk [Value.slice none 0 0, Value.int IntKind.i64 n36])) w35)) ∧
                 ((n36 != 0) = false →
                   R (Value.tuple (Array.mk [Value.slice l9.1 l9.2 l9.3, Value.int IntKind.i64 0])) w35)))))))))))
theorem vc_cartularyref14_Parse_ok {x0 : ByteArray} {w : World} {R : Value → World → Prop} {R' : Ending → World → Prop} (h : vc_cartularyref14_Parse x0 w R) (hR : ∀ v w', R v w' → R' (.returned v) w') :
    Calls Tryd.prog 21 #[.string x0] w R' :=
  calls_of_body (vs := [(.string x0, false)]) (ty := ty) (ann := ⟨[], [(3, [(0, .str), (4, .slice)]), (12, [(9, .int .i64), (40, .int .i64)])], [(19, .held [(0, true), (1, true), (2, true), (3, true), (4, true), (5, true), (6, true), (7, true), (8, true), (9, true), (10, true), (11, true), (12, true), (13, false), (14, true), (15, false), (16, false), (17, true)])], []⟩) (c := Tryd.f21.body.getD .skip) (by kernel_rfl) Tryd.func21 (by kernel_rfl) (by kernel_rfl) (Eq.mp (by kernel_rfl) h) hR
/-- cartularyref14.Same -/
def vc_cartularyref14_Same (x0a : Option Addr) (x0n : Nat) (x0c : Nat) (x1a : Option Addr) (x1n : Nat) (x1c : Nat) (w : World) (R : Value → World → Prop) : Prop :=
  (((((↑x0n : Int) != (↑x1n : Int)) = true →
     R (Value.bool false) w)) ∧
   (((↑x0n : Int) != (↑x1n : Int)) = false →
     ∃ I1 : Int → World → Prop, ∃ I2 : Int → World → Nat, (I1 0 w ∧
      ∀ n3 : Int,
      ∀ w4 : World,
      (I1 n3 w4 →
        (((decide (n3 < (↑x0n : Int)) = true →
           ∀ w5 : World,
           (Drew w4 w5 →
             ∃ I6 : World → Prop, (I6 w5 ∧
              ((0 ≤ n3 ∧
                n3 < (↑x0n : Int)) ∧
               ∃ a7 : Addr, (x0a = some a7 ∧
                ((0 ≤ n3 ∧
                  n3 < (↑x1n : Int)) ∧
                 ∃ a8 : Addr, (x1a = some a8 ∧
                  ∃ n9 : Int, ∃ s10 : ByteArray, ∃ s11 : ByteArray, ((∀ w12 : World,
                   (I6 w12 →
                     Sem.run Tryd.prog (loadVar 29 (Addr.add a7 (Int.toNat n3 * 3))) w12 = Result.ok (Value.agg (Array.mk [Value.int IntKind.i64 n9, Value.string s10, Value.string s11])) w12)) ∧
                   ∃ n13 : Int, ∃ s14 : ByteArray, ∃ s15 : ByteArray, ((∀ w16 : World,
                    (I6 w16 →
                      Sem.run Tryd.prog (loadVar 29 (Addr.add a8 (Int.toNat n3 * 3))) w16 = Result.ok (Value.agg (Array.mk [Value.int IntKind.i64 n13, Value.string s14, Value.string s15])) w16)) ∧
                    ((((!(n9 == n13 && (ByteArray.toList s10 == ByteArray.toList s14 && ByteArray.toList s11 == ByteArray.toList s15))) = true →
                       R (Value.bool false) w5)) ∧
                     ((!(n9 == n13 && (ByteArray.toList s10 == ByteArray.toList s14 && ByteArray.toList s11 == ByteArray.toList s15))) = false →
                       (I1 (IntKind.wrap IntKind.i64 (n3 + 1)) w5 ∧
                        I2 (IntKind.wrap IntKind.i64 (n3 + 1)) w5 < I2 n3 w4))))))))))))) ∧
         (decide (n3 < (↑x0n : Int)) = false →
           R (Value.bool true) w4))))))
theorem vc_cartularyref14_Same_ok {x0a : Option Addr} {x0n : Nat} {x0c : Nat} {x1a : Option Addr} {x1n : Nat} {x1c : Nat} {w : World} {R : Value → World → Prop} {R' : Ending → World → Prop} (h : vc_cartularyref14_Same x0a x0n x0c x1a x1n x1c w R) (hR : ∀ v w', R v w' → R' (.returned v) w') :
    Calls Tryd.prog 22 #[.slice x0a x0n x0c, .slice x1a x1n x1c] w R' :=
  calls_of_body (vs := [(.slice x0a x0n x0c, false), (.slice x1a x1n x1c, false)]) (ty := ty) (ann := ⟨[], [(4, [(13, .int .i64)])], [(6, .held [(0, true), (1, true), (2, true), (4, true), (5, true), (6, true), (3, true), (7, true), (8, true)])], []⟩) (c := Tryd.f22.body.getD .skip) (by kernel_rfl) Tryd.func22 (by kernel_rfl) (by kernel_rfl) (Eq.mp (by kernel_rfl) h) hR
end Go.Proofs.YtmihbbgojkbaeaaDoor

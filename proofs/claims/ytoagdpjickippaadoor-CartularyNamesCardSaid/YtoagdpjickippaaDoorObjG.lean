/- Formulas of 8 Go functions of this seat (written by a program of the author's, vcgen.py), and that each is enough for the call. No condition. -/
import Derived.Test.YtoagdpjickippaaDoorTy
import Derived.Test.YtoagdpjickippaaDoorProg
set_option linter.unusedVariables false
namespace Go.Proofs.YtoagdpjickippaaDoor
open Go Vc Go.Proofs
set_option maxRecDepth 100000
/-- object.Name -/
def vc_object_Name (x0 : Int) (w : World) (R : Value → World → Prop) : Prop :=
  ((((x0 == 1) = true →
     R (Value.string (ByteArray.mk (Array.mk [99, 111, 109, 109, 105, 116]))) w)) ∧
   ((x0 == 1) = false →
     ((((x0 == 2) = true →
        R (Value.string (ByteArray.mk (Array.mk [116, 114, 101, 101]))) w)) ∧
      ((x0 == 2) = false →
        ((((x0 == 3) = true →
           R (Value.string (ByteArray.mk (Array.mk [98, 108, 111, 98]))) w)) ∧
         ((x0 == 3) = false →
           ((((x0 == 4) = true →
              R (Value.string (ByteArray.mk (Array.mk [116, 97, 103]))) w)) ∧
            ((x0 == 4) = false →
              R (Value.string (ByteArray.mk (Array.mk []))) w))))))))
theorem vc_object_Name_ok {x0 : Int} {w : World} {R : Value → World → Prop} {R' : Ending → World → Prop} (h : vc_object_Name x0 w R) (hR : ∀ v w', R v w' → R' (.returned v) w') :
    Calls Tryd.prog 15 #[.int .i64 x0] w R' :=
  calls_of_body (vs := [(.int .i64 x0, false)]) (ty := ty) (ann := ⟨[], [], [], []⟩) (c := Tryd.f15.body.getD .skip) (by kernel_rfl) Tryd.func15 (by kernel_rfl) (by kernel_rfl) (Eq.mp (by kernel_rfl) h) hR
/-- object.Kind -/
def vc_object_Kind (x0 : ByteArray) (w : World) (R : Value → World → Prop) : Prop :=
  ∃ I1 : Int → World → Prop, ∃ I2 : Int → World → Nat, (I1 1 w ∧
   ∀ n3 : Int,
   ∀ w4 : World,
   (I1 n3 w4 →
     (((decide (n3 ≤ 4) = true →
        Calls Tryd.prog (15 : Nat) (Array.mk [Value.int IntKind.i64 n3]) (w4) (fun e5 w6 =>
          ∃ s7 : ByteArray, (e5 = Ending.returned (Value.string s7) ∧
           ((((ByteArray.toList s7 == ByteArray.toList x0) = true →
              R (Value.int IntKind.i64 n3) w6)) ∧
            ((ByteArray.toList s7 == ByteArray.toList x0) = false →
              (I1 (IntKind.wrap IntKind.i64 (n3 + 1)) w6 ∧
               I2 (IntKind.wrap IntKind.i64 (n3 + 1)) w6 < I2 n3 w4))))))) ∧
      (decide (n3 ≤ 4) = false →
        R (Value.int IntKind.i64 0) w4))))
theorem vc_object_Kind_ok {x0 : ByteArray} {w : World} {R : Value → World → Prop} {R' : Ending → World → Prop} (h : vc_object_Kind x0 w R) (hR : ∀ v w', R v w' → R' (.returned v) w') :
    Calls Tryd.prog 25 #[.string x0] w R' :=
  calls_of_body (vs := [(.string x0, false)]) (ty := ty) (ann := ⟨[], [(2, [(3, .int .i64)])], [], []⟩) (c := Tryd.f25.body.getD .skip) (by kernel_rfl) Tryd.func25 (by kernel_rfl) (by kernel_rfl) (Eq.mp (by kernel_rfl) h) hR
/-- object.Number -/
def vc_object_Number (x0 : ByteArray) (w : World) (R : Value → World → Prop) : Prop :=
  Calls Tryd.prog (37 : Nat) (Array.mk [Value.string x0]) (w) (fun e1 w2 =>
    ∃ n3 : Int, ∃ z4 : Unit, (e1 = Ending.returned (Value.tuple (Array.mk [Value.int IntKind.i64 n3, Value.nilIface])) ∧
     ((((!true) = true →
        R (Value.tuple (Array.mk [Value.int IntKind.i64 0, Value.bool false])) w2)) ∧
      ((!true) = false →
        (((decide (n3 < 0) = true →
           R (Value.tuple (Array.mk [Value.int IntKind.i64 0, Value.bool false])) w2)) ∧
         (decide (n3 < 0) = false →
           (((decide ((↑(ByteArray.size x0) : Int) > 9) = true →
              R (Value.tuple (Array.mk [Value.int IntKind.i64 0, Value.bool false])) w2)) ∧
            (decide ((↑(ByteArray.size x0) : Int) > 9) = false →
              Calls Tryd.prog (16 : Nat) (Array.mk [Value.int IntKind.i64 n3]) (w2) (fun e5 w6 =>
                ∃ s7 : ByteArray, (e5 = Ending.returned (Value.string s7) ∧
                 ((((!ByteArray.toList s7 == ByteArray.toList x0) = true →
                    R (Value.tuple (Array.mk [Value.int IntKind.i64 0, Value.bool false])) w6)) ∧
                  ((!ByteArray.toList s7 == ByteArray.toList x0) = false →
                    R (Value.tuple (Array.mk [Value.int IntKind.i64 n3, Value.bool true])) w6))))))))))))
theorem vc_object_Number_ok {x0 : ByteArray} {w : World} {R : Value → World → Prop} {R' : Ending → World → Prop} (h : vc_object_Number x0 w R) (hR : ∀ v w', R v w' → R' (.returned v) w') :
    Calls Tryd.prog 24 #[.string x0] w R' :=
  calls_of_body (vs := [(.string x0, false)]) (ty := ty) (ann := ⟨[], [], [], []⟩) (c := Tryd.f24.body.getD .skip) (by kernel_rfl) Tryd.func24 (by kernel_rfl) (by kernel_rfl) (Eq.mp (by kernel_rfl) h) hR
/-- object.Check -/
def vc_object_Check (x0_0 : Int) (x0_1 : ByteArray) (w : World) (R : Value → World → Prop) : Prop :=
  ∀ w1 : World,
  (w1 = World.alloc w (Obj.cells (Array.mk [Value.int IntKind.i64 x0_0, Value.string x0_1]) 27) →
    ∃ n2 : Int, (World.cell? w1 (Addr.mk (Array.size (World.heap w)) 0 none) = some (Value.int IntKind.i64 n2) ∧
     Calls Tryd.prog (15 : Nat) (Array.mk [Value.int IntKind.i64 n2]) (w1) (fun e3 w4 =>
       ∃ s5 : ByteArray, (e3 = Ending.returned (Value.string s5) ∧
        ((((ByteArray.toList s5 == ByteArray.toList (ByteArray.mk (Array.mk []))) = true →
           R (Value.int IntKind.i64 10) w4)) ∧
         ((ByteArray.toList s5 == ByteArray.toList (ByteArray.mk (Array.mk []))) = false →
           ∃ s6 : ByteArray, (World.cell? w4 (Addr.mk (Array.size (World.heap w)) 1 none) = some (Value.string s6) ∧
            (((decide ((↑(ByteArray.size s6) : Int) > 65000) = true →
               R (Value.int IntKind.i64 2) w4)) ∧
             (decide ((↑(ByteArray.size s6) : Int) > 65000) = false →
               R (Value.int IntKind.i64 0) w4)))))))))
theorem vc_object_Check_ok {x0_0 : Int} {x0_1 : ByteArray} {w : World} {R : Value → World → Prop} {R' : Ending → World → Prop} (h : vc_object_Check x0_0 x0_1 w R) (hR : ∀ v w', R v w' → R' (.returned v) w') :
    Calls Tryd.prog 14 #[.agg #[.int .i64 x0_0, .string x0_1]] w R' :=
  calls_of_body (vs := [(.agg #[.int .i64 x0_0, .string x0_1], false)]) (ty := ty) (ann := ⟨[], [], [], []⟩) (c := Tryd.f14.body.getD .skip) (by kernel_rfl) Tryd.func14 (by kernel_rfl) (by kernel_rfl) (Eq.mp (by kernel_rfl) h) hR
/-- object.Encode -/
def vc_object_Encode (x0_0 : Int) (x0_1 : ByteArray) (w : World) (R : Value → World → Prop) : Prop :=
  ∀ w1 : World,
  (w1 = World.alloc w (Obj.cells (Array.mk [Value.int IntKind.i64 x0_0, Value.string x0_1]) 27) →
    ∃ n2 : Int, ∃ s3 : ByteArray, (Sem.run Tryd.prog (loadVar 27 (Addr.mk (Array.size (World.heap w)) 0 none)) w1 = Result.ok (Value.agg (Array.mk [Value.int IntKind.i64 n2, Value.string s3])) w1 ∧
     Calls Tryd.prog (14 : Nat) (Array.mk [Value.agg (Array.mk [Value.int IntKind.i64 n2, Value.string s3])]) (w1) (fun e4 w5 =>
       ∃ n6 : Int, (e4 = Ending.returned (Value.int IntKind.i64 n6) ∧
        ((((n6 != 0) = true →
           R (Value.tuple (Array.mk [Value.string (ByteArray.mk (Array.mk [])), Value.int IntKind.i64 n6])) w5)) ∧
         ((n6 != 0) = false →
           ∀ w7 : World,
           (Drew w5 w7 →
             ∃ I8 : World → Prop, (I8 w7 ∧
              ∃ n9 : Int, ((∀ w10 : World,
               (I8 w10 →
                 World.cell? w10 (Addr.mk (Array.size (World.heap w)) 0 none) = some (Value.int IntKind.i64 n9))) ∧
               ∃ s11 : ByteArray, ((∀ w12 : World,
                (I8 w12 →
                  World.cell? w12 (Addr.mk (Array.size (World.heap w)) 1 none) = some (Value.string s11))) ∧
                ∃ s13 : ByteArray, ((∀ w14 : World,
                 (I8 w14 →
                   World.cell? w14 (Addr.mk (Array.size (World.heap w)) 1 none) = some (Value.string s13))) ∧
                 Calls Tryd.prog (15 : Nat) (Array.mk [Value.int IntKind.i64 n9]) (w7) (fun e15 w16 =>
                   ∃ s17 : ByteArray, (e15 = Ending.returned (Value.string s17) ∧
                    (I8 w16 ∧
                     (ByteArray.size s17 + ByteArray.size (ByteArray.mk (Array.mk [32])) ≤ 9223372036854775807 ∧
                      Calls Tryd.prog (16 : Nat) (Array.mk [Value.int IntKind.i64 (↑(ByteArray.size s11) : Int)]) (w16) (fun e18 w19 =>
                        ∃ s20 : ByteArray, (e18 = Ending.returned (Value.string s20) ∧
                         (I8 w19 ∧
                          (ByteArray.size (s17 ++ ByteArray.mk (Array.mk [32])) + ByteArray.size s20 ≤ 9223372036854775807 ∧
                           (ByteArray.size (s17 ++ ByteArray.mk (Array.mk [32]) ++ s20) + ByteArray.size (ByteArray.mk (Array.mk [0])) ≤ 9223372036854775807 ∧
                            (ByteArray.size (s17 ++ ByteArray.mk (Array.mk [32]) ++ s20 ++ ByteArray.mk (Array.mk [0])) + ByteArray.size s13 ≤ 9223372036854775807 ∧
                             R (Value.tuple (Array.mk [Value.string (s17 ++ ByteArray.mk (Array.mk [32]) ++ s20 ++ ByteArray.mk (Array.mk [0]) ++ s13), Value.int IntKind.i64 0])) w19)))))))))))))))))))))
theorem vc_object_Encode_ok {x0_0 : Int} {x0_1 : ByteArray} {w : World} {R : Value → World → Prop} {R' : Ending → World → Prop} (h : vc_object_Encode x0_0 x0_1 w R) (hR : ∀ v w', R v w' → R' (.returned v) w') :
    Calls Tryd.prog 6 #[.agg #[.int .i64 x0_0, .string x0_1]] w R' :=
  calls_of_body (vs := [(.agg #[.int .i64 x0_0, .string x0_1], false)]) (ty := ty) (ann := ⟨[], [], [(4, .held [(0, true), (1, true), (4, true), (5, true), (6, true), (10, true), (11, true), (2, false), (3, true), (7, false), (8, true), (9, true), (12, true), (13, true), (14, true)])], []⟩) (c := Tryd.f6.body.getD .skip) (by kernel_rfl) Tryd.func6 (by kernel_rfl) (by kernel_rfl) (Eq.mp (by kernel_rfl) h) hR
/-- object.Decode -/
def vc_object_Decode (x0 : ByteArray) (w : World) (R : Value → World → Prop) : Prop :=
  ∀ w1 : World,
  (w1 = World.alloc w (Obj.cells (Array.mk [Value.int IntKind.i64 0, Value.string (ByteArray.mk (Array.mk []))]) 27) →
    Calls Tryd.prog (23 : Nat) (Array.mk [Value.string x0, Value.string (ByteArray.mk (Array.mk [0]))]) (w1) (fun e2 w3 =>
      ∃ s4 : ByteArray, ∃ s5 : ByteArray, ∃ b6 : Bool, (e2 = Ending.returned (Value.tuple (Array.mk [Value.string s4, Value.string s5, Value.bool b6])) ∧
       Calls Tryd.prog (23 : Nat) (Array.mk [Value.string s4, Value.string (ByteArray.mk (Array.mk [32]))]) (w3) (fun e7 w8 =>
         ∃ s9 : ByteArray, ∃ s10 : ByteArray, ∃ b11 : Bool, (e7 = Ending.returned (Value.tuple (Array.mk [Value.string s9, Value.string s10, Value.bool b11])) ∧
          Calls Tryd.prog (24 : Nat) (Array.mk [Value.string s10]) (w8) (fun e12 w13 =>
            ∃ n14 : Int, ∃ b15 : Bool, (e12 = Ending.returned (Value.tuple (Array.mk [Value.int IntKind.i64 n14, Value.bool b15])) ∧
             ((((!b6) = true →
                ∃ w16 : World, (Sem.run Tryd.prog (storeVar 27 (Addr.mk (Array.size (World.heap w)) 0 none) (Value.agg (Array.mk [Value.int IntKind.i64 0, Value.string (ByteArray.mk (Array.mk []))]))) w13 = Result.ok PUnit.unit w16 ∧
                 ∃ n17 : Int, ∃ s18 : ByteArray, (Sem.run Tryd.prog (loadVar 27 (Addr.mk (Array.size (World.heap w)) 0 none)) w16 = Result.ok (Value.agg (Array.mk [Value.int IntKind.i64 n17, Value.string s18])) w16 ∧
                  R (Value.tuple (Array.mk [Value.agg (Array.mk [Value.int IntKind.i64 n17, Value.string s18]), Value.int IntKind.i64 3])) w16)))) ∧
              ((!b6) = false →
                ((((!b11) = true →
                   ∃ w19 : World, (Sem.run Tryd.prog (storeVar 27 (Addr.mk (Array.size (World.heap w)) 0 none) (Value.agg (Array.mk [Value.int IntKind.i64 0, Value.string (ByteArray.mk (Array.mk []))]))) w13 = Result.ok PUnit.unit w19 ∧
                    ∃ n20 : Int, ∃ s21 : ByteArray, (Sem.run Tryd.prog (loadVar 27 (Addr.mk (Array.size (World.heap w)) 0 none)) w19 = Result.ok (Value.agg (Array.mk [Value.int IntKind.i64 n20, Value.string s21])) w19 ∧
                     R (Value.tuple (Array.mk [Value.agg (Array.mk [Value.int IntKind.i64 n20, Value.string s21]), Value.int IntKind.i64 3])) w19)))) ∧
                 ((!b11) = false →
                   ((((!b15) = true →
                      ∃ w22 : World, (Sem.run Tryd.prog (storeVar 27 (Addr.mk (Array.size (World.heap w)) 0 none) (Value.agg (Array.mk [Value.int IntKind.i64 0, Value.string (ByteArray.mk (Array.mk []))]))) w13 = Result.ok PUnit.unit w22 ∧
                       ∃ n23 : Int, ∃ s24 : ByteArray, (Sem.run Tryd.prog (loadVar 27 (Addr.mk (Array.size (World.heap w)) 0 none)) w22 = Result.ok (Value.agg (Array.mk [Value.int IntKind.i64 n23, Value.string s24])) w22 ∧
                        R (Value.tuple (Array.mk [Value.agg (Array.mk [Value.int IntKind.i64 n23, Value.string s24]), Value.int IntKind.i64 3])) w22)))) ∧
                    ((!b15) = false →
                      Calls Tryd.prog (25 : Nat) (Array.mk [Value.string s9]) (w13) (fun e25 w26 =>
                        ∃ n27 : Int, (e25 = Ending.returned (Value.int IntKind.i64 n27) ∧
                         ((((n27 == 0) = true →
                            ∃ w28 : World, (Sem.run Tryd.prog (storeVar 27 (Addr.mk (Array.size (World.heap w)) 0 none) (Value.agg (Array.mk [Value.int IntKind.i64 0, Value.string (ByteArray.mk (Array.mk []))]))) w26 = Result.ok PUnit.unit w28 ∧
                             ∃ n29 : Int, ∃ s30 : ByteArray, (Sem.run Tryd.prog (loadVar 27 (Addr.mk (Array.size (World.heap w)) 0 none)) w28 = Result.ok (Value.agg (Array.mk [Value.int IntKind.i64 n29, Value.string s30])) w28 ∧
                              R (Value.tuple (Array.mk [Value.agg (Array.mk [Value.int IntKind.i64 n29, Value.string s30]), Value.int IntKind.i64 10])) w28)))) ∧
                          ((n27 == 0) = false →
                            (((decide (n14 > 65000) = true →
                               ∃ w31 : World, (Sem.run Tryd.prog (storeVar 27 (Addr.mk (Array.size (World.heap w)) 0 none) (Value.agg (Array.mk [Value.int IntKind.i64 0, Value.string (ByteArray.mk (Array.mk []))]))) w26 = Result.ok PUnit.unit w31 ∧
                                ∃ n32 : Int, ∃ s33 : ByteArray, (Sem.run Tryd.prog (loadVar 27 (Addr.mk (Array.size (World.heap w)) 0 none)) w31 = Result.ok (Value.agg (Array.mk [Value.int IntKind.i64 n32, Value.string s33])) w31 ∧
                                 R (Value.tuple (Array.mk [Value.agg (Array.mk [Value.int IntKind.i64 n32, Value.string s33]), Value.int IntKind.i64 2])) w31)))) ∧
                             (decide (n14 > 65000) = false →
                               (((decide ((↑(ByteArray.size s5) : Int) < n14) = true →
                                  ∃ w34 : World, (Sem.run Tryd.prog (storeVar 27 (Addr.mk (Array.size (World.heap w)) 0 none) (Value.agg (Array.mk [Value.int IntKind.i64 0, Value.string (ByteArray.mk (Array.mk []))]))) w26 = Result.ok PUnit.unit w34 ∧
                                   ∃ n35 : Int, ∃ s36 : ByteArray, (Sem.run Tryd.prog (loadVar 27 (Addr.mk (Array.size (World.heap w)) 0 none)) w34 = Result.ok (Value.agg (Array.mk [Value.int IntKind.i64 n35, Value.string s36])) w34 ∧
                                    R (Value.tuple (Array.mk [Value.agg (Array.mk [Value.int IntKind.i64 n35, Value.string s36]), Value.int IntKind.i64 6])) w34)))) ∧
                                (decide ((↑(ByteArray.size s5) : Int) < n14) = false →
                                  (((decide ((↑(ByteArray.size s5) : Int) > n14) = true →
                                     ∃ w37 : World, (Sem.run Tryd.prog (storeVar 27 (Addr.mk (Array.size (World.heap w)) 0 none) (Value.agg (Array.mk [Value.int IntKind.i64 0, Value.string (ByteArray.mk (Array.mk []))]))) w26 = Result.ok PUnit.unit w37 ∧
                                      ∃ n38 : Int, ∃ s39 : ByteArray, (Sem.run Tryd.prog (loadVar 27 (Addr.mk (Array.size (World.heap w)) 0 none)) w37 = Result.ok (Value.agg (Array.mk [Value.int IntKind.i64 n38, Value.string s39])) w37 ∧
                                       R (Value.tuple (Array.mk [Value.agg (Array.mk [Value.int IntKind.i64 n38, Value.string s39]), Value.int IntKind.i64 3])) w37)))) ∧
                                   (decide ((↑(ByteArray.size s5) : Int) > n14) = false →
                                     Calls Tryd.prog (25 : Nat) (Array.mk [Value.string s9]) (w26) (fun e40 w41 =>
                                       ∃ n42 : Int, (e40 = Ending.returned (Value.int IntKind.i64 n42) ∧
                                        ∃ w43 : World, (Sem.run Tryd.prog (storeVar 27 (Addr.mk (Array.size (World.heap w)) 0 none) (Value.agg (Array.mk [Value.int IntKind.i64 n42, Value.string s5]))) w41 = Result.ok PUnit.unit w43 ∧
                                         ∃ n44 : Int, ∃ s45 : ByteArray, (Sem.run Tryd.prog (loadVar 27 (Addr.mk (Array.size (World.heap w)) 0 none)) w43 = Result.ok (Value.agg (Array.mk [Value.int IntKind.i64 n44, Value.string s45])) w43 ∧
                                          R (Value.tuple (Array.mk [Value.agg (Array.mk [Value.int IntKind.i64 n44, Value.string s45]), Value.int IntKind.i64 0])) w43)))))))))))))))))))))))))))
theorem vc_object_Decode_ok {x0 : ByteArray} {w : World} {R : Value → World → Prop} {R' : Ending → World → Prop} (h : vc_object_Decode x0 w R) (hR : ∀ v w', R v w' → R' (.returned v) w') :
    Calls Tryd.prog 11 #[.string x0] w R' :=
  calls_of_body (vs := [(.string x0, false)]) (ty := ty) (ann := ⟨[], [], [], []⟩) (c := Tryd.f11.body.getD .skip) (by kernel_rfl) Tryd.func11 (by kernel_rfl) (by kernel_rfl) (Eq.mp (by kernel_rfl) h) hR
/-- object.Id -/
def vc_object_Id (x0_0 : Int) (x0_1 : ByteArray) (w : World) (R : Value → World → Prop) : Prop :=
  ∀ w1 : World,
  (w1 = World.alloc w (Obj.cells (Array.mk [Value.int IntKind.i64 x0_0, Value.string x0_1]) 27) →
    ∃ n2 : Int, ∃ s3 : ByteArray, (Sem.run Tryd.prog (loadVar 27 (Addr.mk (Array.size (World.heap w)) 0 none)) w1 = Result.ok (Value.agg (Array.mk [Value.int IntKind.i64 n2, Value.string s3])) w1 ∧
     Calls Tryd.prog (6 : Nat) (Array.mk [Value.agg (Array.mk [Value.int IntKind.i64 n2, Value.string s3])]) (w1) (fun e4 w5 =>
       ∃ s6 : ByteArray, ∃ n7 : Int, (e4 = Ending.returned (Value.tuple (Array.mk [Value.string s6, Value.int IntKind.i64 n7])) ∧
        ((((n7 != 0) = true →
           R (Value.tuple (Array.mk [Value.string (ByteArray.mk (Array.mk [])), Value.int IntKind.i64 n7])) w5)) ∧
         ((n7 != 0) = false →
           Calls Tryd.prog (13 : Nat) (Array.mk [Value.string s6]) (w5) (fun e8 w9 =>
             ∃ s10 : ByteArray, (e8 = Ending.returned (Value.string s10) ∧
              Calls Tryd.prog (12 : Nat) (Array.mk [Value.string s10]) (w9) (fun e11 w12 =>
                ∃ s13 : ByteArray, (e11 = Ending.returned (Value.string s13) ∧
                 R (Value.tuple (Array.mk [Value.string s13, Value.int IntKind.i64 0])) w12))))))))))
theorem vc_object_Id_ok {x0_0 : Int} {x0_1 : ByteArray} {w : World} {R : Value → World → Prop} {R' : Ending → World → Prop} (h : vc_object_Id x0_0 x0_1 w R) (hR : ∀ v w', R v w' → R' (.returned v) w') :
    Calls Tryd.prog 4 #[.agg #[.int .i64 x0_0, .string x0_1]] w R' :=
  calls_of_body (vs := [(.agg #[.int .i64 x0_0, .string x0_1], false)]) (ty := ty) (ann := ⟨[], [], [], []⟩) (c := Tryd.f4.body.getD .skip) (by kernel_rfl) Tryd.func4 (by kernel_rfl) (by kernel_rfl) (Eq.mp (by kernel_rfl) h) hR
/-- (*snap.Snap).Len -/
def vc_snap_Snap_Len (x0 : Nat) (w : World) (R : Value → World → Prop) : Prop :=
  ∃ l1 : Sl, (World.cell? w (Addr.mk x0 0 none) = some (Value.slice l1.1 l1.2 l1.3) ∧
   R (Value.int IntKind.i64 (↑l1.2 : Int)) w)
theorem vc_snap_Snap_Len_ok {x0 : Nat} {w : World} {R : Value → World → Prop} {R' : Ending → World → Prop} (h : vc_snap_Snap_Len x0 w R) (hR : ∀ v w', R v w' → R' (.returned v) w') :
    Calls Tryd.prog 8 #[.pointer (some ⟨x0, 0, none⟩)] w R' :=
  calls_of_body (vs := [(.pointer (some ⟨x0, 0, none⟩), true)]) (ty := ty) (ann := ⟨[], [], [], []⟩) (c := Tryd.f8.body.getD .skip) (by kernel_rfl) Tryd.func8 (by kernel_rfl) (by kernel_rfl) (Eq.mp (by kernel_rfl) h) hR
end Go.Proofs.YtoagdpjickippaaDoor

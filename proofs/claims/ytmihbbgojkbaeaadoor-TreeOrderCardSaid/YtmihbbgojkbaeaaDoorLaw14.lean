/- Formulas of 8 Go functions of this seat (written by a program of the author's, vcgen.py), and that each is enough for the call. No condition. -/
import Derived.Test.YtmihbbgojkbaeaaDoorTy
import Derived.Test.YtmihbbgojkbaeaaDoorProg
set_option linter.unusedVariables false
namespace Go.Proofs.YtmihbbgojkbaeaaDoor
open Go Vc Go.Proofs
set_option maxRecDepth 100000
/-- cartularylaw14.Few -/
def vc_cartularylaw14_Few (x0a : Option Addr) (x0n : Nat) (x0c : Nat) (w : World) (R : Value → World → Prop) : Prop :=
  (((decide ((↑x0n : Int) > 600) = true →
     (((0 : Int) ≤ (600 : Int) ∧
       600 ≤ (↑x0c : Int)) ∧
      ∀ w1 : World,
      (w1 = World.alloc w (Obj.cells (Array.mk []) 29) →
        ∃ w2 : World, ∃ l3 : Sl, (Sem.run Tryd.prog (Builtin.append_ (Array.mk [22, 22]) 22 (Array.mk [Value.slice (some (Addr.mk (Array.size (World.heap w)) 0 none)) 0 0, Value.slice (subA x0a x0c 0 3) (Int.toNat 600) x0c])) w1 = Result.ok (Value.slice l3.1 l3.2 l3.3) w2 ∧
         R (Value.slice l3.1 l3.2 l3.3) w2))))) ∧
   (decide ((↑x0n : Int) > 600) = false →
     ∀ w4 : World,
     (w4 = World.alloc w (Obj.cells (Array.mk []) 29) →
       ∃ w5 : World, ∃ l6 : Sl, (Sem.run Tryd.prog (Builtin.append_ (Array.mk [22, 22]) 22 (Array.mk [Value.slice (some (Addr.mk (Array.size (World.heap w)) 0 none)) 0 0, Value.slice x0a x0n x0c])) w4 = Result.ok (Value.slice l6.1 l6.2 l6.3) w5 ∧
        R (Value.slice l6.1 l6.2 l6.3) w5))))
theorem vc_cartularylaw14_Few_ok {x0a : Option Addr} {x0n : Nat} {x0c : Nat} {w : World} {R : Value → World → Prop} {R' : Ending → World → Prop} (h : vc_cartularylaw14_Few x0a x0n x0c w R) (hR : ∀ v w', R v w' → R' (.returned v) w') :
    Calls Tryd.prog 13 #[.slice x0a x0n x0c] w R' :=
  calls_of_body (vs := [(.slice x0a x0n x0c, false)]) (ty := ty) (ann := ⟨[], [], [], []⟩) (c := Tryd.f13.body.getD .skip) (by kernel_rfl) Tryd.func13 (by kernel_rfl) (by kernel_rfl) (Eq.mp (by kernel_rfl) h) hR
/-- cartularylaw14.awake -/
def vc_cartularylaw14_awake (w : World) (R : Value → World → Prop) : Prop :=
  ∀ w1 : World,
  (w1 = World.alloc w (Obj.cells (Array.mk [Value.int IntKind.i64 33188, Value.string (ByteArray.mk (Array.mk [97, 46, 98])), Value.string (ByteArray.mk (Array.mk [101, 54, 57, 100, 101, 50, 57, 98, 98, 50, 100, 49, 100, 54, 52, 51, 52, 98, 56, 98, 50, 57, 97, 101, 55, 55, 53, 97, 100, 56, 99, 50, 101, 52, 56, 99, 53, 51, 57, 49])), Value.int IntKind.i64 16384, Value.string (ByteArray.mk (Array.mk [97])), Value.string (ByteArray.mk (Array.mk [101, 54, 57, 100, 101, 50, 57, 98, 98, 50, 100, 49, 100, 54, 52, 51, 52, 98, 56, 98, 50, 57, 97, 101, 55, 55, 53, 97, 100, 56, 99, 50, 101, 52, 56, 99, 53, 51, 57, 49]))]) 29) →
    Calls Tryd.prog (17 : Nat) (Array.mk [Value.slice (some (Addr.mk (Array.size (World.heap w)) 0 none)) 2 2]) (w1) (fun e2 w3 =>
      ∃ s4 : ByteArray, ∃ n5 : Int, (e2 = Ending.returned (Value.tuple (Array.mk [Value.string s4, Value.int IntKind.i64 n5])) ∧
       ((((n5 == 0) = true →
          (((((↑(ByteArray.size s4) : Int) == 59) = true →
             (((0 : Int) ≤ (10 : Int) ∧
               10 ≤ (↑(ByteArray.size s4) : Int)) ∧
              ((((ByteArray.toList (ByteArray.extract s4 0 (Int.toNat 10)) == ByteArray.toList (ByteArray.mk (Array.mk [49, 48, 48, 54, 52, 52, 32, 97, 46, 98]))) = true →
                 Calls Tryd.prog (18 : Nat) (Array.mk [Value.string (ByteArray.mk (Array.mk [(46 : UInt8), (71 : UInt8), (73 : UInt8), (84 : UInt8)]))]) (w3) (fun e6 w7 =>
                   ∃ b8 : Bool, (e6 = Ending.returned (Value.bool b8) ∧
                    R (Value.bool !b8) w7)))) ∧
               ((ByteArray.toList (ByteArray.extract s4 0 (Int.toNat 10)) == ByteArray.toList (ByteArray.mk (Array.mk [49, 48, 48, 54, 52, 52, 32, 97, 46, 98]))) = false →
                 R (Value.bool false) w3))))) ∧
           (((↑(ByteArray.size s4) : Int) == 59) = false →
             R (Value.bool false) w3)))) ∧
        ((n5 == 0) = false →
          R (Value.bool false) w3)))))
theorem vc_cartularylaw14_awake_ok {w : World} {R : Value → World → Prop} {R' : Ending → World → Prop} (h : vc_cartularylaw14_awake w R) (hR : ∀ v w', R v w' → R' (.returned v) w') :
    Calls Tryd.prog 15 #[] w R' :=
  calls_of_body (vs := []) (ty := ty) (ann := ⟨[], [], [], []⟩) (c := Tryd.f15.body.getD .skip) (by kernel_rfl) Tryd.func15 (by kernel_rfl) (by kernel_rfl) (Eq.mp (by kernel_rfl) h) hR
/-- cartularylaw14.TreeOrder -/
def vc_cartularylaw14_TreeOrder (x0a : Option Addr) (x0n : Nat) (x0c : Nat) (x1 : Int) (x2 : Int) (w : World) (R : Value → World → Prop) : Prop :=
  Calls Tryd.prog (13 : Nat) (Array.mk [Value.slice x0a x0n x0c]) (w) (fun e1 w2 =>
    ∃ l3 : Sl, (e1 = Ending.returned (Value.slice l3.1 l3.2 l3.3) ∧
     Calls Tryd.prog (14 : Nat) (Array.mk [Value.slice l3.1 l3.2 l3.3]) (w2) (fun e4 w5 =>
       ∃ n6 : Int, (e4 = Ending.returned (Value.int IntKind.i64 n6) ∧
        ((((n6 != 0) = true →
           Calls Tryd.prog (15 : Nat) (Array.mk []) (w5) (fun e7 w8 =>
             ∃ b9 : Bool, (e7 = Ending.returned (Value.bool b9) ∧
              (((b9 = true →
                 Calls Tryd.prog (16 : Nat) (Array.mk [Value.slice l3.1 l3.2 l3.3]) (w8) (fun e10 w11 =>
                   ∃ n12 : Int, (e10 = Ending.returned (Value.int IntKind.i64 n12) ∧
                    R (Value.bool (n12 != 0)) w11)))) ∧
               (b9 = false →
                 R (Value.bool false) w8)))))) ∧
         ((n6 != 0) = false →
           (((decide (x1 < 0) = true →
              Calls Tryd.prog (15 : Nat) (Array.mk []) (w5) (fun e13 w14 =>
                ∃ b15 : Bool, (e13 = Ending.returned (Value.bool b15) ∧
                 R (Value.bool b15) w14)))) ∧
            (decide (x1 < 0) = false →
              (((decide (x2 ≤ x1) = true →
                 Calls Tryd.prog (15 : Nat) (Array.mk []) (w5) (fun e16 w17 =>
                   ∃ b18 : Bool, (e16 = Ending.returned (Value.bool b18) ∧
                    R (Value.bool b18) w17)))) ∧
               (decide (x2 ≤ x1) = false →
                 (((decide (x2 ≥ (↑l3.2 : Int)) = true →
                    Calls Tryd.prog (15 : Nat) (Array.mk []) (w5) (fun e19 w20 =>
                      ∃ b21 : Bool, (e19 = Ending.returned (Value.bool b21) ∧
                       R (Value.bool b21) w20)))) ∧
                  (decide (x2 ≥ (↑l3.2 : Int)) = false →
                    Calls Tryd.prog (13 : Nat) (Array.mk [Value.slice l3.1 l3.2 l3.3]) (w5) (fun e22 w23 =>
                      ∃ l24 : Sl, (e22 = Ending.returned (Value.slice l24.1 l24.2 l24.3) ∧
                       ∀ w25 : World,
                       (Drew w23 w25 →
                         ∃ I26 : World → Prop, (I26 w25 ∧
                          ((0 ≤ x2 ∧
                            x2 < (↑l24.2 : Int)) ∧
                           ∃ a27 : Addr, (l24.1 = some a27 ∧
                            ∃ n28 : Int, ∃ s29 : ByteArray, ∃ s30 : ByteArray, ((∀ w31 : World,
                             (I26 w31 →
                               Sem.run Tryd.prog (loadVar 29 (Addr.add a27 (Int.toNat x2 * 3))) w31 = Result.ok (Value.agg (Array.mk [Value.int IntKind.i64 n28, Value.string s29, Value.string s30])) w31)) ∧
                             ((0 ≤ x1 ∧
                               x1 < (↑l24.2 : Int)) ∧
                              ∃ a32 : Addr, (l24.1 = some a32 ∧
                               ∃ n33 : Int, ∃ s34 : ByteArray, ∃ s35 : ByteArray, ((∀ w36 : World,
                                (I26 w36 →
                                  Sem.run Tryd.prog (loadVar 29 (Addr.add a32 (Int.toNat x1 * 3))) w36 = Result.ok (Value.agg (Array.mk [Value.int IntKind.i64 n33, Value.string s34, Value.string s35])) w36)) ∧
                                ((0 ≤ x1 ∧
                                  x1 < (↑l24.2 : Int)) ∧
                                 ∃ a37 : Addr, (l24.1 = some a37 ∧
                                  ∃ w38 : World, (Sem.run Tryd.prog (storeVar 29 (Addr.add a37 (Int.toNat x1 * 3)) (Value.agg (Array.mk [Value.int IntKind.i64 n28, Value.string s29, Value.string s30]))) w25 = Result.ok PUnit.unit w38 ∧
                                   ((0 ≤ x2 ∧
                                     x2 < (↑l24.2 : Int)) ∧
                                    ∃ a39 : Addr, (l24.1 = some a39 ∧
                                     ∃ w40 : World, (Sem.run Tryd.prog (storeVar 29 (Addr.add a39 (Int.toNat x2 * 3)) (Value.agg (Array.mk [Value.int IntKind.i64 n33, Value.string s34, Value.string s35]))) w38 = Result.ok PUnit.unit w40 ∧
                                      ∀ w41 : World,
                                      (Drew w40 w41 →
                                        ∃ I42 : World → Prop, (I42 w41 ∧
                                         ((0 ≤ x1 ∧
                                           x1 ≤ (↑l3.3 : Int)) ∧
                                          ((0 ≤ IntKind.wrap IntKind.i64 (x1 + 1) ∧
                                            IntKind.wrap IntKind.i64 (x1 + 1) ≤ (↑l3.2 : Int)) ∧
                                           Calls Tryd.prog (13 : Nat) (Array.mk [Value.slice (subA l3.1 l3.3 0 3) (Int.toNat x1) l3.3]) (w41) (fun e43 w44 =>
                                             ∃ l45 : Sl, (e43 = Ending.returned (Value.slice l45.1 l45.2 l45.3) ∧
                                              (I42 w44 ∧
                                               ∃ w46 : World, ∃ l47 : Sl, (Sem.run Tryd.prog (Builtin.append_ (Array.mk [22, 22]) 22 (Array.mk [Value.slice l45.1 l45.2 l45.3, Value.slice (subA l3.1 l3.3 (Int.toNat (IntKind.wrap IntKind.i64 (x1 + 1))) 3) (l3.2 - Int.toNat (IntKind.wrap IntKind.i64 (x1 + 1))) (l3.3 - Int.toNat (IntKind.wrap IntKind.i64 (x1 + 1)))])) w44 = Result.ok (Value.slice l47.1 l47.2 l47.3) w46 ∧
                                                (I42 w46 ∧
                                                 Calls Tryd.prog (17 : Nat) (Array.mk [Value.slice l24.1 l24.2 l24.3]) (w46) (fun e48 w49 =>
                                                   ∃ s50 : ByteArray, ∃ n51 : Int, (e48 = Ending.returned (Value.tuple (Array.mk [Value.string s50, Value.int IntKind.i64 n51])) ∧
                                                    Calls Tryd.prog (17 : Nat) (Array.mk [Value.slice l47.1 l47.2 l47.3]) (w49) (fun e52 w53 =>
                                                      ∃ s54 : ByteArray, ∃ n55 : Int, (e52 = Ending.returned (Value.tuple (Array.mk [Value.string s54, Value.int IntKind.i64 n55])) ∧
                                                       Calls Tryd.prog (15 : Nat) (Array.mk []) (w53) (fun e56 w57 =>
                                                         ∃ b58 : Bool, (e56 = Ending.returned (Value.bool b58) ∧
                                                          (((b58 = true →
                                                             ((((n51 == 4) = true →
                                                                ((((ByteArray.toList s50 == ByteArray.toList (ByteArray.mk (Array.mk []))) = true →
                                                                   R (Value.bool (n55 == 0)) w57)) ∧
                                                                 ((ByteArray.toList s50 == ByteArray.toList (ByteArray.mk (Array.mk []))) = false →
                                                                   R (Value.bool false) w57)))) ∧
                                                              ((n51 == 4) = false →
                                                                R (Value.bool false) w57)))) ∧
                                                           (b58 = false →
                                                             R (Value.bool false) w57)))))))))))))))))))))))))))))))))))))))))))))
theorem vc_cartularylaw14_TreeOrder_ok {x0a : Option Addr} {x0n : Nat} {x0c : Nat} {x1 : Int} {x2 : Int} {w : World} {R : Value → World → Prop} {R' : Ending → World → Prop} (h : vc_cartularylaw14_TreeOrder x0a x0n x0c x1 x2 w R) (hR : ∀ v w', R v w' → R' (.returned v) w') :
    Calls Tryd.prog 3 #[.slice x0a x0n x0c, .int .i64 x1, .int .i64 x2] w R' :=
  calls_of_body (vs := [(.slice x0a x0n x0c, false), (.int .i64 x1, false), (.int .i64 x2, false)]) (ty := ty) (ann := ⟨[], [], [(7, .swap [7, 11] [(0, true), (1, true), (2, true), (3, true), (4, true), (5, true), (6, true), (7, true), (8, true), (9, true), (10, true), (11, true), (12, true), (13, false), (14, true), (15, false)]), (8, .held [(0, true), (1, true), (2, true), (4, true), (5, true), (6, true), (7, true), (3, false), (8, false), (9, true)])], []⟩) (c := Tryd.f3.body.getD .skip) (by kernel_rfl) Tryd.func3 (by kernel_rfl) (by kernel_rfl) (Eq.mp (by kernel_rfl) h) hR
/-- cartularylaw14.TreeLengths -/
def vc_cartularylaw14_TreeLengths (x0a : Option Addr) (x0n : Nat) (x0c : Nat) (w : World) (R : Value → World → Prop) : Prop :=
  Calls Tryd.prog (13 : Nat) (Array.mk [Value.slice x0a x0n x0c]) (w) (fun e1 w2 =>
    ∃ l3 : Sl, (e1 = Ending.returned (Value.slice l3.1 l3.2 l3.3) ∧
     Calls Tryd.prog (17 : Nat) (Array.mk [Value.slice l3.1 l3.2 l3.3]) (w2) (fun e4 w5 =>
       ∃ s6 : ByteArray, ∃ n7 : Int, (e4 = Ending.returned (Value.tuple (Array.mk [Value.string s6, Value.int IntKind.i64 n7])) ∧
        ((((n7 != 0) = true →
           Calls Tryd.prog (15 : Nat) (Array.mk []) (w5) (fun e8 w9 =>
             ∃ b10 : Bool, (e8 = Ending.returned (Value.bool b10) ∧
              (((b10 = true →
                 R (Value.bool (ByteArray.toList s6 == ByteArray.toList (ByteArray.mk (Array.mk [])))) w9)) ∧
               (b10 = false →
                 R (Value.bool false) w9)))))) ∧
         ((n7 != 0) = false →
           ∃ I11 : Int → Int → World → Prop, ∃ I12 : Int → Int → World → Nat, (I11 0 0 w5 ∧
            ∀ n13 : Int,
            ∀ n14 : Int,
            ∀ w15 : World,
            (I11 n13 n14 w15 →
              (((decide (n14 < (↑l3.2 : Int)) = true →
                 ((0 ≤ n14 ∧
                   n14 < (↑l3.2 : Int)) ∧
                  ∃ a16 : Addr, (l3.1 = some a16 ∧
                   ∃ n17 : Int, ∃ s18 : ByteArray, ∃ s19 : ByteArray, (Sem.run Tryd.prog (loadVar 29 (Addr.add a16 (Int.toNat n14 * 3))) w15 = Result.ok (Value.agg (Array.mk [Value.int IntKind.i64 n17, Value.string s18, Value.string s19])) w15 ∧
                    ∀ w20 : World,
                    (w20 = World.alloc w15 (Obj.cells (Array.mk [Value.int IntKind.i64 0, Value.string (ByteArray.mk (Array.mk [])), Value.string (ByteArray.mk (Array.mk []))]) 29) →
                      ∃ w21 : World, (Sem.run Tryd.prog (storeVar 29 (Addr.mk (Array.size (World.heap w15)) 0 none) (Value.agg (Array.mk [Value.int IntKind.i64 n17, Value.string s18, Value.string s19]))) w20 = Result.ok PUnit.unit w21 ∧
                       ∃ s22 : ByteArray, (World.cell? w21 (Addr.mk (Array.size (World.heap w15)) 1 none) = some (Value.string s22) ∧
                        ∃ n23 : Int, (World.cell? w21 (Addr.mk (Array.size (World.heap w15)) 0 none) = some (Value.int IntKind.i64 n23) ∧
                         ((((n23 == 16384) = true →
                            (I11 (IntKind.wrap IntKind.i64 (IntKind.wrap IntKind.i64 (n13 + IntKind.wrap IntKind.i64 (IntKind.wrap IntKind.i64 (6 + (↑(ByteArray.size s22) : Int)) + 22)) - 1)) (IntKind.wrap IntKind.i64 (n14 + 1)) w21 ∧
                             I12 (IntKind.wrap IntKind.i64 (IntKind.wrap IntKind.i64 (n13 + IntKind.wrap IntKind.i64 (IntKind.wrap IntKind.i64 (6 + (↑(ByteArray.size s22) : Int)) + 22)) - 1)) (IntKind.wrap IntKind.i64 (n14 + 1)) w21 < I12 n13 n14 w15))) ∧
                          ((n23 == 16384) = false →
                            (I11 (IntKind.wrap IntKind.i64 (n13 + IntKind.wrap IntKind.i64 (IntKind.wrap IntKind.i64 (6 + (↑(ByteArray.size s22) : Int)) + 22))) (IntKind.wrap IntKind.i64 (n14 + 1)) w21 ∧
                             I12 (IntKind.wrap IntKind.i64 (n13 + IntKind.wrap IntKind.i64 (IntKind.wrap IntKind.i64 (6 + (↑(ByteArray.size s22) : Int)) + 22))) (IntKind.wrap IntKind.i64 (n14 + 1)) w21 < I12 n13 n14 w15)))))))))))) ∧
               (decide (n14 < (↑l3.2 : Int)) = false →
                 Calls Tryd.prog (15 : Nat) (Array.mk []) (w15) (fun e24 w25 =>
                   ∃ b26 : Bool, (e24 = Ending.returned (Value.bool b26) ∧
                    (((b26 = true →
                       R (Value.bool ((↑(ByteArray.size s6) : Int) == n13)) w25)) ∧
                     (b26 = false →
                       R (Value.bool false) w25))))))))))))))
theorem vc_cartularylaw14_TreeLengths_ok {x0a : Option Addr} {x0n : Nat} {x0c : Nat} {w : World} {R : Value → World → Prop} {R' : Ending → World → Prop} (h : vc_cartularylaw14_TreeLengths x0a x0n x0c w R) (hR : ∀ v w', R v w' → R' (.returned v) w') :
    Calls Tryd.prog 4 #[.slice x0a x0n x0c] w R' :=
  calls_of_body (vs := [(.slice x0a x0n x0c, false)]) (ty := ty) (ann := ⟨[], [(7, [(5, .int .i64), (24, .int .i64)])], [], []⟩) (c := Tryd.f4.body.getD .skip) (by kernel_rfl) Tryd.func4 (by kernel_rfl) (by kernel_rfl) (Eq.mp (by kernel_rfl) h) hR
/-- cartularylaw14.TreeNames -/
def vc_cartularylaw14_TreeNames (x0 : ByteArray) (w : World) (R : Value → World → Prop) : Prop :=
  Calls Tryd.prog (18 : Nat) (Array.mk [Value.string x0]) (w) (fun e1 w2 =>
    ∃ b3 : Bool, (e1 = Ending.returned (Value.bool b3) ∧
     ((((!b3) = true →
        ∀ w4 : World,
        (w4 = World.alloc w2 (Obj.cells (Array.mk [Value.int IntKind.i64 33188, Value.string x0, Value.string (ByteArray.mk (Array.mk [101, 54, 57, 100, 101, 50, 57, 98, 98, 50, 100, 49, 100, 54, 52, 51, 52, 98, 56, 98, 50, 57, 97, 101, 55, 55, 53, 97, 100, 56, 99, 50, 101, 52, 56, 99, 53, 51, 57, 49]))]) 29) →
          Calls Tryd.prog (17 : Nat) (Array.mk [Value.slice (some (Addr.mk (Array.size (World.heap w2)) 0 none)) 1 1]) (w4) (fun e5 w6 =>
            ∃ s7 : ByteArray, ∃ n8 : Int, (e5 = Ending.returned (Value.tuple (Array.mk [Value.string s7, Value.int IntKind.i64 n8])) ∧
             Calls Tryd.prog (15 : Nat) (Array.mk []) (w6) (fun e9 w10 =>
               ∃ b11 : Bool, (e9 = Ending.returned (Value.bool b11) ∧
                (((b11 = true →
                   R (Value.bool (n8 == 4)) w10)) ∧
                 (b11 = false →
                   R (Value.bool false) w10))))))))) ∧
      ((!b3) = false →
        ∃ I12 : Int → World → Prop, ∃ I13 : Int → World → Nat, (I12 0 w2 ∧
         ∀ n14 : Int,
         ∀ w15 : World,
         (I12 n14 w15 →
           (((decide (n14 < (↑(ByteArray.size x0) : Int)) = true →
              ((0 ≤ n14 ∧
                n14 < (↑(ByteArray.size x0) : Int)) ∧
               ((((byteAt x0 n14 == 47) = true →
                  R (Value.bool false) w15)) ∧
                ((byteAt x0 n14 == 47) = false →
                  ((0 ≤ n14 ∧
                    n14 < (↑(ByteArray.size x0) : Int)) ∧
                   ((((byteAt x0 n14 == 0) = true →
                      R (Value.bool false) w15)) ∧
                    ((byteAt x0 n14 == 0) = false →
                      (I12 (IntKind.wrap IntKind.i64 (n14 + 1)) w15 ∧
                       I13 (IntKind.wrap IntKind.i64 (n14 + 1)) w15 < I13 n14 w15))))))))) ∧
            (decide (n14 < (↑(ByteArray.size x0) : Int)) = false →
              ∀ w16 : World,
              (w16 = World.alloc w15 (Obj.cells (Array.mk [Value.int IntKind.i64 33188, Value.string x0, Value.string (ByteArray.mk (Array.mk [101, 54, 57, 100, 101, 50, 57, 98, 98, 50, 100, 49, 100, 54, 52, 51, 52, 98, 56, 98, 50, 57, 97, 101, 55, 55, 53, 97, 100, 56, 99, 50, 101, 52, 56, 99, 53, 51, 57, 49]))]) 29) →
                Calls Tryd.prog (17 : Nat) (Array.mk [Value.slice (some (Addr.mk (Array.size (World.heap w15)) 0 none)) 1 1]) (w16) (fun e17 w18 =>
                  ∃ s19 : ByteArray, ∃ n20 : Int, (e17 = Ending.returned (Value.tuple (Array.mk [Value.string s19, Value.int IntKind.i64 n20])) ∧
                   Calls Tryd.prog (15 : Nat) (Array.mk []) (w18) (fun e21 w22 =>
                     ∃ b23 : Bool, (e21 = Ending.returned (Value.bool b23) ∧
                      (((b23 = true →
                         ((((n20 == 0) = true →
                            (((((↑(ByteArray.size s19) : Int) == IntKind.wrap IntKind.i64 ((↑(ByteArray.size x0) : Int) + 28)) = true →
                               (((decide ((↑(ByteArray.size x0) : Int) ≥ 1) = true →
                                  (((decide ((↑(ByteArray.size x0) : Int) ≤ 100) = true →
                                     ((((!ByteArray.toList x0 == ByteArray.toList (ByteArray.mk (Array.mk [46, 46]))) = true →
                                        Calls Tryd.prog (18 : Nat) (Array.mk [Value.string (ByteArray.mk (Array.mk [(46 : UInt8), (103 : UInt8), (73 : UInt8), (116 : UInt8)]))]) (w22) (fun e24 w25 =>
                                          ∃ b26 : Bool, (e24 = Ending.returned (Value.bool b26) ∧
                                           R (Value.bool !b26) w25)))) ∧
                                      ((!ByteArray.toList x0 == ByteArray.toList (ByteArray.mk (Array.mk [46, 46]))) = false →
                                        R (Value.bool false) w22)))) ∧
                                   (decide ((↑(ByteArray.size x0) : Int) ≤ 100) = false →
                                     R (Value.bool false) w22)))) ∧
                                (decide ((↑(ByteArray.size x0) : Int) ≥ 1) = false →
                                  R (Value.bool false) w22)))) ∧
                             (((↑(ByteArray.size s19) : Int) == IntKind.wrap IntKind.i64 ((↑(ByteArray.size x0) : Int) + 28)) = false →
                               R (Value.bool false) w22)))) ∧
                          ((n20 == 0) = false →
                            R (Value.bool false) w22)))) ∧
                       (b23 = false →
                         R (Value.bool false) w22)))))))))))))))
theorem vc_cartularylaw14_TreeNames_ok {x0 : ByteArray} {w : World} {R : Value → World → Prop} {R' : Ending → World → Prop} (h : vc_cartularylaw14_TreeNames x0 w R) (hR : ∀ v w', R v w' → R' (.returned v) w') :
    Calls Tryd.prog 5 #[.string x0] w R' :=
  calls_of_body (vs := [(.string x0, false)]) (ty := ty) (ann := ⟨[], [(5, [(5, .int .i64)])], [], []⟩) (c := Tryd.f5.body.getD .skip) (by kernel_rfl) Tryd.func5 (by kernel_rfl) (by kernel_rfl) (Eq.mp (by kernel_rfl) h) hR
/-- cartularylaw14.TreeReads -/
def vc_cartularylaw14_TreeReads (x0 : ByteArray) (w : World) (R : Value → World → Prop) : Prop :=
  Calls Tryd.prog (19 : Nat) (Array.mk [Value.string x0, Value.int IntKind.i64 2000]) (w) (fun e1 w2 =>
    ∃ s3 : ByteArray, (e1 = Ending.returned (Value.string s3) ∧
     Calls Tryd.prog (20 : Nat) (Array.mk [Value.string s3]) (w2) (fun e4 w5 =>
       ∃ l6 : Sl, ∃ n7 : Int, (e4 = Ending.returned (Value.tuple (Array.mk [Value.slice l6.1 l6.2 l6.3, Value.int IntKind.i64 n7])) ∧
        Calls Tryd.prog (21 : Nat) (Array.mk [Value.string s3]) (w5) (fun e8 w9 =>
          ∃ l10 : Sl, ∃ n11 : Int, (e8 = Ending.returned (Value.tuple (Array.mk [Value.slice l10.1 l10.2 l10.3, Value.int IntKind.i64 n11])) ∧
           Calls Tryd.prog (15 : Nat) (Array.mk []) (w9) (fun e12 w13 =>
             ∃ b14 : Bool, (e12 = Ending.returned (Value.bool b14) ∧
              ((((!b14) = true →
                 R (Value.bool false) w13)) ∧
               ((!b14) = false →
                 ((((n7 != n11) = true →
                    R (Value.bool false) w13)) ∧
                  ((n7 != n11) = false →
                    Calls Tryd.prog (22 : Nat) (Array.mk [Value.slice l6.1 l6.2 l6.3, Value.slice l10.1 l10.2 l10.3]) (w13) (fun e15 w16 =>
                      ∃ b17 : Bool, (e15 = Ending.returned (Value.bool b17) ∧
                       ((((!b17) = true →
                          R (Value.bool false) w16)) ∧
                        ((!b17) = false →
                          ((((n11 != 0) = true →
                             R (Value.bool true) w16)) ∧
                           ((n11 != 0) = false →
                             Calls Tryd.prog (17 : Nat) (Array.mk [Value.slice l6.1 l6.2 l6.3]) (w16) (fun e18 w19 =>
                               ∃ s20 : ByteArray, ∃ n21 : Int, (e18 = Ending.returned (Value.tuple (Array.mk [Value.string s20, Value.int IntKind.i64 n21])) ∧
                                ((((n21 == 0) = true →
                                   R (Value.bool (ByteArray.toList s20 == ByteArray.toList s3)) w19)) ∧
                                 ((n21 == 0) = false →
                                   R (Value.bool false) w19))))))))))))))))))))))
theorem vc_cartularylaw14_TreeReads_ok {x0 : ByteArray} {w : World} {R : Value → World → Prop} {R' : Ending → World → Prop} (h : vc_cartularylaw14_TreeReads x0 w R) (hR : ∀ v w', R v w' → R' (.returned v) w') :
    Calls Tryd.prog 6 #[.string x0] w R' :=
  calls_of_body (vs := [(.string x0, false)]) (ty := ty) (ann := ⟨[], [], [], []⟩) (c := Tryd.f6.body.getD .skip) (by kernel_rfl) Tryd.func6 (by kernel_rfl) (by kernel_rfl) (Eq.mp (by kernel_rfl) h) hR
/-- cartularylaw14.TreeFull -/
def vc_cartularylaw14_TreeFull (x0 : Int) (w : World) (R : Value → World → Prop) : Prop :=
  (((decide (x0 < 0) = true →
     Calls Tryd.prog (15 : Nat) (Array.mk []) (w) (fun e1 w2 =>
       ∃ b3 : Bool, (e1 = Ending.returned (Value.bool b3) ∧
        R (Value.bool b3) w2)))) ∧
   (decide (x0 < 0) = false →
     (((decide (x0 > 600) = true →
        Calls Tryd.prog (15 : Nat) (Array.mk []) (w) (fun e4 w5 =>
          ∃ b6 : Bool, (e4 = Ending.returned (Value.bool b6) ∧
           R (Value.bool b6) w5)))) ∧
      (decide (x0 > 600) = false →
        ∀ w7 : World,
        (w7 = World.alloc w (Obj.cells (Array.mk []) 29) →
          ∃ I8 : Sl → ByteArray → Int → World → Prop, ∃ I9 : Sl → ByteArray → Int → World → Nat, (I8 (Sl.mk (some (Addr.mk (Array.size (World.heap w)) 0 none)) 0 0) (ByteArray.mk (Array.mk [])) 0 w7 ∧
           ∀ l10 : Sl,
           ∀ s11 : ByteArray,
           ∀ n12 : Int,
           ∀ w13 : World,
           (I8 l10 s11 n12 w13 →
             (((decide (n12 < x0) = true →
                ((26 : Int) ≠ (0 : Int) ∧
                 ((26 : Int) ≠ (0 : Int) ∧
                  ∀ w14 : World,
                  (w14 = World.alloc w13 (Obj.cells (Array.mk [Value.int IntKind.u8 (IntKind.wrap IntKind.u8 (IntKind.wrap IntKind.i64 (97 + IntKind.wrap IntKind.i64 (Int.tdiv n12 26)))), Value.int IntKind.u8 (IntKind.wrap IntKind.u8 (IntKind.wrap IntKind.i64 (97 + Int.tmod n12 26)))]) 5) →
                    ∃ w15 : World, ∃ s16 : ByteArray, (Sem.run Tryd.prog (convert 41 9 (Value.slice (some (Addr.mk (Array.size (World.heap w13)) 0 none)) 2 2)) w14 = Result.ok (Value.string s16) w15 ∧
                     ∀ w17 : World,
                     (w17 = World.alloc w15 (Obj.cells (Array.mk [Value.int IntKind.i64 0, Value.string (ByteArray.mk (Array.mk [])), Value.string (ByteArray.mk (Array.mk []))]) 29) →
                       ∃ w18 : World, (Sem.run Tryd.prog (storeVar 29 (Addr.mk (Array.size (World.heap w15)) 0 none) (Value.agg (Array.mk [Value.int IntKind.i64 33188, Value.string s16, Value.string (ByteArray.mk (Array.mk [101, 54, 57, 100, 101, 50, 57, 98, 98, 50, 100, 49, 100, 54, 52, 51, 52, 98, 56, 98, 50, 57, 97, 101, 55, 55, 53, 97, 100, 56, 99, 50, 101, 52, 56, 99, 53, 51, 57, 49]))]))) w17 = Result.ok PUnit.unit w18 ∧
                        ∃ n19 : Int, ∃ s20 : ByteArray, ∃ s21 : ByteArray, (Sem.run Tryd.prog (loadVar 29 (Addr.mk (Array.size (World.heap w15)) 0 none)) w18 = Result.ok (Value.agg (Array.mk [Value.int IntKind.i64 n19, Value.string s20, Value.string s21])) w18 ∧
                         ∀ w22 : World,
                         (w22 = World.alloc w18 (Obj.cells (Array.mk [Value.int IntKind.i64 n19, Value.string s20, Value.string s21]) 29) →
                           ∃ w23 : World, ∃ l24 : Sl, (Sem.run Tryd.prog (Builtin.append_ (Array.mk [22, 22]) 22 (Array.mk [Value.slice l10.1 l10.2 l10.3, Value.slice (some (Addr.mk (Array.size (World.heap w18)) 0 none)) 1 1])) w22 = Result.ok (Value.slice l24.1 l24.2 l24.3) w23 ∧
                            ∃ n25 : Int, ∃ s26 : ByteArray, ∃ s27 : ByteArray, (Sem.run Tryd.prog (loadVar 29 (Addr.mk (Array.size (World.heap w15)) 0 none)) w23 = Result.ok (Value.agg (Array.mk [Value.int IntKind.i64 n25, Value.string s26, Value.string s27])) w23 ∧
                             ∀ w28 : World,
                             (w28 = World.alloc w23 (Obj.cells (Array.mk [Value.int IntKind.i64 n25, Value.string s26, Value.string s27]) 29) →
                               Calls Tryd.prog (23 : Nat) (Array.mk [Value.slice (some (Addr.mk (Array.size (World.heap w23)) 0 none)) 1 1]) (w28) (fun e29 w30 =>
                                 ∃ s31 : ByteArray, (e29 = Ending.returned (Value.string s31) ∧
                                  (ByteArray.size s11 + ByteArray.size s31 ≤ 9223372036854775807 ∧
                                   (I8 (Sl.mk l24.1 l24.2 l24.3) (s11 ++ s31) (IntKind.wrap IntKind.i64 (n12 + 1)) w30 ∧
                                    I9 (Sl.mk l24.1 l24.2 l24.3) (s11 ++ s31) (IntKind.wrap IntKind.i64 (n12 + 1)) w30 < I9 l10 s11 n12 w13))))))))))))))))) ∧
              (decide (n12 < x0) = false →
                Calls Tryd.prog (17 : Nat) (Array.mk [Value.slice l10.1 l10.2 l10.3]) (w13) (fun e32 w33 =>
                  ∃ s34 : ByteArray, ∃ n35 : Int, (e32 = Ending.returned (Value.tuple (Array.mk [Value.string s34, Value.int IntKind.i64 n35])) ∧
                   Calls Tryd.prog (20 : Nat) (Array.mk [Value.string s11]) (w33) (fun e36 w37 =>
                     ∃ l38 : Sl, ∃ n39 : Int, (e36 = Ending.returned (Value.tuple (Array.mk [Value.slice l38.1 l38.2 l38.3, Value.int IntKind.i64 n39])) ∧
                      (((decide (x0 > 500) = true →
                         Calls Tryd.prog (15 : Nat) (Array.mk []) (w37) (fun e40 w41 =>
                           ∃ b42 : Bool, (e40 = Ending.returned (Value.bool b42) ∧
                            (((b42 = true →
                               ((((n35 == 2) = true →
                                  ((((n39 == 2) = true →
                                     ((((ByteArray.toList s34 == ByteArray.toList (ByteArray.mk (Array.mk []))) = true →
                                        R (Value.bool ((↑l38.2 : Int) == 0)) w41)) ∧
                                      ((ByteArray.toList s34 == ByteArray.toList (ByteArray.mk (Array.mk []))) = false →
                                        R (Value.bool false) w41)))) ∧
                                   ((n39 == 2) = false →
                                     R (Value.bool false) w41)))) ∧
                                ((n35 == 2) = false →
                                  R (Value.bool false) w41)))) ∧
                             (b42 = false →
                               R (Value.bool false) w41)))))) ∧
                       (decide (x0 > 500) = false →
                         Calls Tryd.prog (15 : Nat) (Array.mk []) (w37) (fun e43 w44 =>
                           ∃ b45 : Bool, (e43 = Ending.returned (Value.bool b45) ∧
                            (((b45 = true →
                               ((((n35 == 0) = true →
                                  ((((n39 == 0) = true →
                                     ((((ByteArray.toList s34 == ByteArray.toList s11) = true →
                                        Calls Tryd.prog (22 : Nat) (Array.mk [Value.slice l38.1 l38.2 l38.3, Value.slice l10.1 l10.2 l10.3]) (w44) (fun e46 w47 =>
                                          ∃ b48 : Bool, (e46 = Ending.returned (Value.bool b48) ∧
                                           R (Value.bool b48) w47)))) ∧
                                      ((ByteArray.toList s34 == ByteArray.toList s11) = false →
                                        R (Value.bool false) w44)))) ∧
                                   ((n39 == 0) = false →
                                     R (Value.bool false) w44)))) ∧
                                ((n35 == 0) = false →
                                  R (Value.bool false) w44)))) ∧
                             (b45 = false →
                               R (Value.bool false) w44)))))))))))))))))))
theorem vc_cartularylaw14_TreeFull_ok {x0 : Int} {w : World} {R : Value → World → Prop} {R' : Ending → World → Prop} (h : vc_cartularylaw14_TreeFull x0 w R) (hR : ∀ v w', R v w' → R' (.returned v) w') :
    Calls Tryd.prog 7 #[.int .i64 x0] w R' :=
  calls_of_body (vs := [(.int .i64 x0, false)]) (ty := ty) (ann := ⟨[], [(6, [(3, .slice), (4, .str), (5, .int .i64)])], [], []⟩) (c := Tryd.f7.body.getD .skip) (by kernel_rfl) Tryd.func7 (by kernel_rfl) (by kernel_rfl) (Eq.mp (by kernel_rfl) h) hR
/-- cartularylaw14.TreeFormats -/
def vc_cartularylaw14_TreeFormats (x0a : Option Addr) (x0n : Nat) (x0c : Nat) (x1 : ByteArray) (w : World) (R : Value → World → Prop) : Prop :=
  Calls Tryd.prog (13 : Nat) (Array.mk [Value.slice x0a x0n x0c]) (w) (fun e1 w2 =>
    ∃ l3 : Sl, (e1 = Ending.returned (Value.slice l3.1 l3.2 l3.3) ∧
     Calls Tryd.prog (17 : Nat) (Array.mk [Value.slice l3.1 l3.2 l3.3]) (w2) (fun e4 w5 =>
       ∃ s6 : ByteArray, ∃ n7 : Int, (e4 = Ending.returned (Value.tuple (Array.mk [Value.string s6, Value.int IntKind.i64 n7])) ∧
        Calls Tryd.prog (16 : Nat) (Array.mk [Value.slice l3.1 l3.2 l3.3]) (w5) (fun e8 w9 =>
          ∃ n10 : Int, (e8 = Ending.returned (Value.int IntKind.i64 n10) ∧
           Calls Tryd.prog (24 : Nat) (Array.mk [Value.slice l3.1 l3.2 l3.3, Value.string x1]) (w9) (fun e11 w12 =>
             ∃ n13 : Int, ∃ s14 : ByteArray, ∃ s15 : ByteArray, ∃ n16 : Int, (e11 = Ending.returned (Value.tuple (Array.mk [Value.agg (Array.mk [Value.int IntKind.i64 n13, Value.string s14, Value.string s15]), Value.int IntKind.i64 n16])) ∧
              ∀ w17 : World,
              (w17 = World.alloc w12 (Obj.cells (Array.mk [Value.int IntKind.i64 0, Value.string (ByteArray.mk (Array.mk [])), Value.string (ByteArray.mk (Array.mk []))]) 29) →
                ∃ w18 : World, (Sem.run Tryd.prog (storeVar 29 (Addr.mk (Array.size (World.heap w12)) 0 none) (Value.agg (Array.mk [Value.int IntKind.i64 n13, Value.string s14, Value.string s15]))) w17 = Result.ok PUnit.unit w18 ∧
                 ∀ w19 : World,
                 (w19 = World.alloc w18 (Obj.cells (Array.mk [Value.int IntKind.i64 0, Value.string (ByteArray.mk (Array.mk [])), Value.string (ByteArray.mk (Array.mk []))]) 29) →
                   ∃ w20 : World, (Sem.run Tryd.prog (storeVar 29 (Addr.mk (Array.size (World.heap w18)) 0 none) (Value.agg (Array.mk [Value.int IntKind.i64 0, Value.string (ByteArray.mk (Array.mk [])), Value.string (ByteArray.mk (Array.mk []))]))) w19 = Result.ok PUnit.unit w20 ∧
                    ∃ I21 : Bool → Int → World → Prop, ∃ I22 : Bool → Int → World → Nat, (I21 false 0 w20 ∧
                     ∀ b23 : Bool,
                     ∀ n24 : Int,
                     ∀ w25 : World,
                     (I21 b23 n24 w25 →
                       (((decide (n24 < (↑l3.2 : Int)) = true →
                          ((0 ≤ n24 ∧
                            n24 < (↑l3.2 : Int)) ∧
                           ∃ a26 : Addr, (l3.1 = some a26 ∧
                            ∃ n27 : Int, ∃ s28 : ByteArray, ∃ s29 : ByteArray, (Sem.run Tryd.prog (loadVar 29 (Addr.add a26 (Int.toNat n24 * 3))) w25 = Result.ok (Value.agg (Array.mk [Value.int IntKind.i64 n27, Value.string s28, Value.string s29])) w25 ∧
                             ∀ w30 : World,
                             (w30 = World.alloc w25 (Obj.cells (Array.mk [Value.int IntKind.i64 0, Value.string (ByteArray.mk (Array.mk [])), Value.string (ByteArray.mk (Array.mk []))]) 29) →
                               ∃ w31 : World, (Sem.run Tryd.prog (storeVar 29 (Addr.mk (Array.size (World.heap w25)) 0 none) (Value.agg (Array.mk [Value.int IntKind.i64 n27, Value.string s28, Value.string s29]))) w30 = Result.ok PUnit.unit w31 ∧
                                ((((!b23) = true →
                                   ∃ s32 : ByteArray, (World.cell? w31 (Addr.mk (Array.size (World.heap w25)) 1 none) = some (Value.string s32) ∧
                                    ((((ByteArray.toList s32 == ByteArray.toList x1) = true →
                                       ∃ n33 : Int, ∃ s34 : ByteArray, ∃ s35 : ByteArray, (Sem.run Tryd.prog (loadVar 29 (Addr.mk (Array.size (World.heap w25)) 0 none)) w31 = Result.ok (Value.agg (Array.mk [Value.int IntKind.i64 n33, Value.string s34, Value.string s35])) w31 ∧
                                        ∃ w36 : World, (Sem.run Tryd.prog (storeVar 29 (Addr.mk (Array.size (World.heap w18)) 0 none) (Value.agg (Array.mk [Value.int IntKind.i64 n33, Value.string s34, Value.string s35]))) w31 = Result.ok PUnit.unit w36 ∧
                                         (I21 true (IntKind.wrap IntKind.i64 (n24 + 1)) w36 ∧
                                          I22 true (IntKind.wrap IntKind.i64 (n24 + 1)) w36 < I22 b23 n24 w25))))) ∧
                                     ((ByteArray.toList s32 == ByteArray.toList x1) = false →
                                       (I21 b23 (IntKind.wrap IntKind.i64 (n24 + 1)) w31 ∧
                                        I22 b23 (IntKind.wrap IntKind.i64 (n24 + 1)) w31 < I22 b23 n24 w25)))))) ∧
                                 ((!b23) = false →
                                   (I21 b23 (IntKind.wrap IntKind.i64 (n24 + 1)) w31 ∧
                                    I22 b23 (IntKind.wrap IntKind.i64 (n24 + 1)) w31 < I22 b23 n24 w25)))))))))) ∧
                        (decide (n24 < (↑l3.2 : Int)) = false →
                          ∃ I37 : World → Prop, (Calls Tryd.prog (15 : Nat) (Array.mk []) (w25) (fun e38 w39 =>
                             ∃ b40 : Bool, (e38 = Ending.returned (Value.bool b40) ∧
                              ((((!b40) = true →
                                 R (Value.bool false) w39)) ∧
                               ((!b40) = false →
                                 ((((n7 != n10) = true →
                                    R (Value.bool false) w39)) ∧
                                  ((n7 != n10) = false →
                                    Calls Tryd.prog (14 : Nat) (Array.mk [Value.slice l3.1 l3.2 l3.3]) (w39) (fun e41 w42 =>
                                      ∃ n43 : Int, (e41 = Ending.returned (Value.int IntKind.i64 n43) ∧
                                       ((((n43 != n10) = true →
                                          R (Value.bool false) w42)) ∧
                                        ((n43 != n10) = false →
                                          Calls Tryd.prog (18 : Nat) (Array.mk [Value.string x1]) (w42) (fun e44 w45 =>
                                            ∃ b46 : Bool, (e44 = Ending.returned (Value.bool b46) ∧
                                             Calls Tryd.prog (25 : Nat) (Array.mk [Value.string x1]) (w45) (fun e47 w48 =>
                                               ∃ b49 : Bool, (e47 = Ending.returned (Value.bool b49) ∧
                                                ((((!b46 == b49) = true →
                                                   R (Value.bool false) w48)) ∧
                                                 ((!b46 == b49) = false →
                                                   ∃ n50 : Int, ∃ s51 : ByteArray, ∃ s52 : ByteArray, (Sem.run Tryd.prog (loadVar 29 (Addr.mk (Array.size (World.heap w12)) 0 none)) w48 = Result.ok (Value.agg (Array.mk [Value.int IntKind.i64 n50, Value.string s51, Value.string s52])) w48 ∧
                                                    ∃ n53 : Int, ∃ s54 : ByteArray, ∃ s55 : ByteArray, (Sem.run Tryd.prog (loadVar 29 (Addr.mk (Array.size (World.heap w18)) 0 none)) w48 = Result.ok (Value.agg (Array.mk [Value.int IntKind.i64 n53, Value.string s54, Value.string s55])) w48 ∧
                                                     ((((!(n50 == n53 && (ByteArray.toList s51 == ByteArray.toList s54 && ByteArray.toList s52 == ByteArray.toList s55))) = true →
                                                        R (Value.bool false) w48)) ∧
                                                      ((!(n50 == n53 && (ByteArray.toList s51 == ByteArray.toList s54 && ByteArray.toList s52 == ByteArray.toList s55))) = false →
                                                        ((((!(n16 == 0) == b23) = true →
                                                           R (Value.bool false) w48)) ∧
                                                         ((!(n16 == 0) == b23) = false →
                                                           ((((!b23) = true →
                                                              ((((n16 != 7) = true →
                                                                 R (Value.bool false) w48)) ∧
                                                               ((n16 != 7) = false →
                                                                 Calls Tryd.prog (13 : Nat) (Array.mk [Value.slice x0a x0n x0c]) (w48) (fun e56 w57 =>
                                                                   ∃ l58 : Sl, (e56 = Ending.returned (Value.slice l58.1 l58.2 l58.3) ∧
                                                                    Calls Tryd.prog (22 : Nat) (Array.mk [Value.slice l3.1 l3.2 l3.3, Value.slice l58.1 l58.2 l58.3]) (w57) (fun e59 w60 =>
                                                                      ∃ b61 : Bool, (e59 = Ending.returned (Value.bool b61) ∧
                                                                       ((((!b61) = true →
                                                                          R (Value.bool false) w60)) ∧
                                                                        ((!b61) = false →
                                                                          I37 w60)))))))))) ∧
                                                            ((!b23) = false →
                                                              Calls Tryd.prog (13 : Nat) (Array.mk [Value.slice x0a x0n x0c]) (w48) (fun e62 w63 =>
                                                                ∃ l64 : Sl, (e62 = Ending.returned (Value.slice l64.1 l64.2 l64.3) ∧
                                                                 Calls Tryd.prog (22 : Nat) (Array.mk [Value.slice l3.1 l3.2 l3.3, Value.slice l64.1 l64.2 l64.3]) (w63) (fun e65 w66 =>
                                                                   ∃ b67 : Bool, (e65 = Ending.returned (Value.bool b67) ∧
                                                                    ((((!b67) = true →
                                                                       R (Value.bool false) w66)) ∧
                                                                     ((!b67) = false →
                                                                       I37 w66)))))))))))))))))))))))))))))) ∧
                           ∀ w68 : World,
                           (I37 w68 →
                             ((((n10 != 0) = true →
                                R (Value.bool (ByteArray.toList s6 == ByteArray.toList (ByteArray.mk (Array.mk [])))) w68)) ∧
                              ((n10 != 0) = false →
                                Calls Tryd.prog (20 : Nat) (Array.mk [Value.string s6]) (w68) (fun e69 w70 =>
                                  ∃ l71 : Sl, ∃ n72 : Int, (e69 = Ending.returned (Value.tuple (Array.mk [Value.slice l71.1 l71.2 l71.3, Value.int IntKind.i64 n72])) ∧
                                   Calls Tryd.prog (23 : Nat) (Array.mk [Value.slice l3.1 l3.2 l3.3]) (w70) (fun e73 w74 =>
                                     ∃ s75 : ByteArray, (e73 = Ending.returned (Value.string s75) ∧
                                      ((((ByteArray.toList s6 == ByteArray.toList s75) = true →
                                         ((((n72 == 0) = true →
                                            Calls Tryd.prog (22 : Nat) (Array.mk [Value.slice l71.1 l71.2 l71.3, Value.slice l3.1 l3.2 l3.3]) (w74) (fun e76 w77 =>
                                              ∃ b78 : Bool, (e76 = Ending.returned (Value.bool b78) ∧
                                               R (Value.bool b78) w77)))) ∧
                                          ((n72 == 0) = false →
                                            R (Value.bool false) w74)))) ∧
                                       ((ByteArray.toList s6 == ByteArray.toList s75) = false →
                                         R (Value.bool false) w74))))))))))))))))))))))))))
theorem vc_cartularylaw14_TreeFormats_ok {x0a : Option Addr} {x0n : Nat} {x0c : Nat} {x1 : ByteArray} {w : World} {R : Value → World → Prop} {R' : Ending → World → Prop} (h : vc_cartularylaw14_TreeFormats x0a x0n x0c x1 w R) (hR : ∀ v w', R v w' → R' (.returned v) w') :
    Calls Tryd.prog 8 #[.slice x0a x0n x0c, .string x1] w R' :=
  calls_of_body (vs := [(.slice x0a x0n x0c, false), (.string x1, false)]) (ty := ty) (ann := ⟨[(15, [])], [(7, [(12, .bool), (35, .int .i64)])], [], []⟩) (c := Tryd.f8.body.getD .skip) (by kernel_rfl) Tryd.func8 (by kernel_rfl) (by kernel_rfl) (Eq.mp (by kernel_rfl) h) hR
end Go.Proofs.YtmihbbgojkbaeaaDoor

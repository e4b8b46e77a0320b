/- Formulas of 5 Go functions of this seat (written by a program of the author's, vcgen.py), and that each is enough for the call. No condition. -/
import Derived.Test.YtoagdpjickippaaDoorTy
import Derived.Test.YtoagdpjickippaaDoorProg
set_option linter.unusedVariables false
namespace Go.Proofs.YtoagdpjickippaaDoor
open Go Vc Go.Proofs
set_option maxRecDepth 100000
/-- strings.Compare -/
def vc_strings_Compare (x0 : ByteArray) (x1 : ByteArray) (w : World) (R : Value → World → Prop) : Prop :=
  Calls Tryd.prog (53 : Nat) (Array.mk [Value.string x0, Value.string x1]) (w) (fun e1 w2 =>
    ∃ n3 : Int, (e1 = Ending.returned (Value.int IntKind.i64 n3) ∧
     R (Value.int IntKind.i64 n3) w2))
theorem vc_strings_Compare_ok {x0 : ByteArray} {x1 : ByteArray} {w : World} {R : Value → World → Prop} {R' : Ending → World → Prop} (h : vc_strings_Compare x0 x1 w R) (hR : ∀ v w', R v w' → R' (.returned v) w') :
    Calls Tryd.prog 31 #[.string x0, .string x1] w R' :=
  calls_of_body (vs := [(.string x0, false), (.string x1, false)]) (ty := ty) (ann := ⟨[], [], [], []⟩) (c := Tryd.f31.body.getD .skip) (by kernel_rfl) Tryd.func31 (by kernel_rfl) (by kernel_rfl) (Eq.mp (by kernel_rfl) h) hR
/-- snap.byPath -/
def vc_snap_byPath (x0_0 : ByteArray) (x0_1 : ByteArray) (x1_0 : ByteArray) (x1_1 : ByteArray) (w : World) (R : Value → World → Prop) : Prop :=
  ∀ w1 : World,
  (w1 = World.alloc w (Obj.cells (Array.mk [Value.string x0_0, Value.string x0_1]) 31) →
    ∀ w2 : World,
    (w2 = World.alloc w1 (Obj.cells (Array.mk [Value.string x1_0, Value.string x1_1]) 31) →
      ∃ s3 : ByteArray, (World.cell? w2 (Addr.mk (Array.size (World.heap w)) 0 none) = some (Value.string s3) ∧
       ∃ s4 : ByteArray, (World.cell? w2 (Addr.mk (Array.size (World.heap w1)) 0 none) = some (Value.string s4) ∧
        Calls Tryd.prog (31 : Nat) (Array.mk [Value.string s3, Value.string s4]) (w2) (fun e5 w6 =>
          ∃ n7 : Int, (e5 = Ending.returned (Value.int IntKind.i64 n7) ∧
           R (Value.int IntKind.i64 n7) w6))))))
theorem vc_snap_byPath_ok {x0_0 : ByteArray} {x0_1 : ByteArray} {x1_0 : ByteArray} {x1_1 : ByteArray} {w : World} {R : Value → World → Prop} {R' : Ending → World → Prop} (h : vc_snap_byPath x0_0 x0_1 x1_0 x1_1 w R) (hR : ∀ v w', R v w' → R' (.returned v) w') :
    Calls Tryd.prog 19 #[.agg #[.string x0_0, .string x0_1], .agg #[.string x1_0, .string x1_1]] w R' :=
  calls_of_body (vs := [(.agg #[.string x0_0, .string x0_1], false), (.agg #[.string x1_0, .string x1_1], false)]) (ty := ty) (ann := ⟨[], [], [], []⟩) (c := Tryd.f19.body.getD .skip) (by kernel_rfl) Tryd.func19 (by kernel_rfl) (by kernel_rfl) (Eq.mp (by kernel_rfl) h) hR
/-- snap.New -/
def vc_snap_New (x0a : Option Addr) (x0n : Nat) (x0c : Nat) (w : World) (R : Value → World → Prop) : Prop :=
  Calls Tryd.prog (17 : Nat) (Array.mk [Value.slice x0a x0n x0c]) (w) (fun e1 w2 =>
    ∃ l3 : Sl, (e1 = Ending.returned (Value.slice l3.1 l3.2 l3.3) ∧
     ∀ w4 : World,
     (w4 = World.alloc w2 (Obj.cells (Array.mk [Value.slice l3.1 l3.2 l3.3, Value.int IntKind.i64 0]) 47) →
       ∃ I5 : Int → World → Prop, ∃ I6 : Int → World → Nat, (I5 0 w4 ∧
        ∀ n7 : Int,
        ∀ w8 : World,
        (I5 n7 w8 →
          (((decide (n7 < (↑x0n : Int)) = true →
             ((0 ≤ n7 ∧
               n7 < (↑x0n : Int)) ∧
              ∃ a9 : Addr, (x0a = some a9 ∧
               ∃ s10 : ByteArray, ∃ s11 : ByteArray, (Sem.run Tryd.prog (loadVar 31 (Addr.add a9 (Int.toNat n7 * 2))) w8 = Result.ok (Value.agg (Array.mk [Value.string s10, Value.string s11])) w8 ∧
                ∀ w12 : World,
                (w12 = World.alloc w8 (Obj.cells (Array.mk [Value.string (ByteArray.mk (Array.mk [])), Value.string (ByteArray.mk (Array.mk []))]) 31) →
                  ∃ w13 : World, (Sem.run Tryd.prog (storeVar 31 (Addr.mk (Array.size (World.heap w8)) 0 none) (Value.agg (Array.mk [Value.string s10, Value.string s11]))) w12 = Result.ok PUnit.unit w13 ∧
                   ∀ w14 : World,
                   (Drew w13 w14 →
                     ∃ n15 : Int, (World.cell? w14 (Addr.mk (Array.size (World.heap w2)) 1 none) = some (Value.int IntKind.i64 n15) ∧
                      ∃ s16 : ByteArray, (World.cell? w14 (Addr.mk (Array.size (World.heap w8)) 1 none) = some (Value.string s16) ∧
                       (Wr w14 (Addr.mk (Array.size (World.heap w2)) 1 none) ∧
                        ∀ w17 : World,
                        (w17 = World.setCell w14 (Addr.mk (Array.size (World.heap w2)) 1 none) (Value.int IntKind.i64 (IntKind.wrap IntKind.i64 (n15 + (↑(ByteArray.size s16) : Int)))) →
                          (I5 (IntKind.wrap IntKind.i64 (n7 + 1)) w17 ∧
                           I6 (IntKind.wrap IntKind.i64 (n7 + 1)) w17 < I6 n7 w8))))))))))))) ∧
           (decide (n7 < (↑x0n : Int)) = false →
             (((decide ((↑x0n : Int) > 2000) = true →
                R (Value.tuple (Array.mk [Value.pointer none, Value.int IntKind.i64 2])) w8)) ∧
              (decide ((↑x0n : Int) > 2000) = false →
                ∃ n18 : Int, (World.cell? w8 (Addr.mk (Array.size (World.heap w2)) 1 none) = some (Value.int IntKind.i64 n18) ∧
                 (((decide (n18 > 4194304) = true →
                    R (Value.tuple (Array.mk [Value.pointer none, Value.int IntKind.i64 2])) w8)) ∧
                  (decide (n18 > 4194304) = false →
                    ∃ l19 : Sl, (World.cell? w8 (Addr.mk (Array.size (World.heap w2)) 0 none) = some (Value.slice l19.1 l19.2 l19.3) ∧
                     Calls Tryd.prog (18 : Nat) (Array.mk [Value.slice l19.1 l19.2 l19.3, Value.func (Fn.func 19) (Array.mk []) (Array.mk [])]) (w8) (fun e20 w21 =>
                       (e20 = Ending.returned (Value.tuple (Array.mk [])) ∧
                        ∃ l22 : Sl, (World.cell? w21 (Addr.mk (Array.size (World.heap w2)) 0 none) = some (Value.slice l22.1 l22.2 l22.3) ∧
                         ∃ I23 : Int → World → Prop, ∃ I24 : Int → World → Nat, (I23 0 w21 ∧
                          ∀ n25 : Int,
                          ∀ w26 : World,
                          (I23 n25 w26 →
                            (((decide (n25 < (↑l22.2 : Int)) = true →
                               ((0 ≤ n25 ∧
                                 n25 < (↑l22.2 : Int)) ∧
                                ∃ a27 : Addr, (l22.1 = some a27 ∧
                                 ∃ s28 : ByteArray, ∃ s29 : ByteArray, (Sem.run Tryd.prog (loadVar 31 (Addr.add a27 (Int.toNat n25 * 2))) w26 = Result.ok (Value.agg (Array.mk [Value.string s28, Value.string s29])) w26 ∧
                                  ∀ w30 : World,
                                  (w30 = World.alloc w26 (Obj.cells (Array.mk [Value.string (ByteArray.mk (Array.mk [])), Value.string (ByteArray.mk (Array.mk []))]) 31) →
                                    ∃ w31 : World, (Sem.run Tryd.prog (storeVar 31 (Addr.mk (Array.size (World.heap w26)) 0 none) (Value.agg (Array.mk [Value.string s28, Value.string s29]))) w30 = Result.ok PUnit.unit w31 ∧
                                     ∀ w32 : World,
                                     (Drew w31 w32 →
                                       ∃ I33 : World → Prop, (I33 w32 ∧
                                        ∃ s34 : ByteArray, ((∀ w35 : World,
                                         (I33 w35 →
                                           World.cell? w35 (Addr.mk (Array.size (World.heap w26)) 0 none) = some (Value.string s34))) ∧
                                         Calls Tryd.prog (20 : Nat) (Array.mk [Value.string s34]) (w32) (fun e36 w37 =>
                                           ∃ b38 : Bool, (e36 = Ending.returned (Value.bool b38) ∧
                                            (I33 w37 ∧
                                             ((((!b38) = true →
                                                R (Value.tuple (Array.mk [Value.pointer none, Value.int IntKind.i64 4])) w37)) ∧
                                              ((!b38) = false →
                                                (((decide (n25 > 0) = true →
                                                   ∃ l39 : Sl, ((∀ w40 : World,
                                                    (I33 w40 →
                                                      World.cell? w40 (Addr.mk (Array.size (World.heap w2)) 0 none) = some (Value.slice l39.1 l39.2 l39.3))) ∧
                                                    ((0 ≤ IntKind.wrap IntKind.i64 (n25 - 1) ∧
                                                      IntKind.wrap IntKind.i64 (n25 - 1) < (↑l39.2 : Int)) ∧
                                                     ∃ a41 : Addr, (l39.1 = some a41 ∧
                                                      ∃ s42 : ByteArray, ((∀ w43 : World,
                                                       (I33 w43 →
                                                         World.cell? w43 (Addr.add a41 (Int.toNat (IntKind.wrap IntKind.i64 (n25 - 1)) * 2)) = some (Value.string s42))) ∧
                                                       ∃ s44 : ByteArray, ((∀ w45 : World,
                                                        (I33 w45 →
                                                          World.cell? w45 (Addr.mk (Array.size (World.heap w26)) 0 none) = some (Value.string s44))) ∧
                                                        ((((ByteArray.toList s42 == ByteArray.toList s44) = true →
                                                           R (Value.tuple (Array.mk [Value.pointer none, Value.int IntKind.i64 4])) w37)) ∧
                                                         ((ByteArray.toList s42 == ByteArray.toList s44) = false →
                                                           (I23 (IntKind.wrap IntKind.i64 (n25 + 1)) w37 ∧
                                                            I24 (IntKind.wrap IntKind.i64 (n25 + 1)) w37 < I24 n25 w26)))))))))) ∧
                                                 (decide (n25 > 0) = false →
                                                   (I23 (IntKind.wrap IntKind.i64 (n25 + 1)) w37 ∧
                                                    I24 (IntKind.wrap IntKind.i64 (n25 + 1)) w37 < I24 n25 w26)))))))))))))))))) ∧
                             (decide (n25 < (↑l22.2 : Int)) = false →
                               ∃ l46 : Sl, (World.cell? w26 (Addr.mk (Array.size (World.heap w2)) 0 none) = some (Value.slice l46.1 l46.2 l46.3) ∧
                                ∃ I47 : Int → World → Prop, ∃ I48 : Int → World → Nat, (I47 0 w26 ∧
                                 ∀ n49 : Int,
                                 ∀ w50 : World,
                                 (I47 n49 w50 →
                                   (((decide (n49 < (↑l46.2 : Int)) = true →
                                      ((0 ≤ n49 ∧
                                        n49 < (↑l46.2 : Int)) ∧
                                       ∃ a51 : Addr, (l46.1 = some a51 ∧
                                        ∃ s52 : ByteArray, ∃ s53 : ByteArray, (Sem.run Tryd.prog (loadVar 31 (Addr.add a51 (Int.toNat n49 * 2))) w50 = Result.ok (Value.agg (Array.mk [Value.string s52, Value.string s53])) w50 ∧
                                         ∀ w54 : World,
                                         (w54 = World.alloc w50 (Obj.cells (Array.mk [Value.string (ByteArray.mk (Array.mk [])), Value.string (ByteArray.mk (Array.mk []))]) 31) →
                                           ∃ w55 : World, (Sem.run Tryd.prog (storeVar 31 (Addr.mk (Array.size (World.heap w50)) 0 none) (Value.agg (Array.mk [Value.string s52, Value.string s53]))) w54 = Result.ok PUnit.unit w55 ∧
                                            ∃ s56 : ByteArray, (World.cell? w55 (Addr.mk (Array.size (World.heap w50)) 0 none) = some (Value.string s56) ∧
                                             (ByteArray.size s56 + ByteArray.size (ByteArray.mk (Array.mk [47])) ≤ 9223372036854775807 ∧
                                              Calls Tryd.prog (9 : Nat) (Array.mk [Value.pointer (some (Addr.mk (Array.size (World.heap w2)) 0 none)), Value.string (s56 ++ ByteArray.mk (Array.mk [47]))]) (w55) (fun e57 w58 =>
                                                ∃ l59 : Sl, (e57 = Ending.returned (Value.slice l59.1 l59.2 l59.3) ∧
                                                 (((decide ((↑l59.2 : Int) > 0) = true →
                                                    R (Value.tuple (Array.mk [Value.pointer none, Value.int IntKind.i64 4])) w58)) ∧
                                                  (decide ((↑l59.2 : Int) > 0) = false →
                                                    (I47 (IntKind.wrap IntKind.i64 (n49 + 1)) w58 ∧
                                                     I48 (IntKind.wrap IntKind.i64 (n49 + 1)) w58 < I48 n49 w50)))))))))))))) ∧
                                    (decide (n49 < (↑l46.2 : Int)) = false →
                                      R (Value.tuple (Array.mk [Value.pointer (some (Addr.mk (Array.size (World.heap w2)) 0 none)), Value.int IntKind.i64 0])) w50)))))))))))))))))))))))))
theorem vc_snap_New_ok {x0a : Option Addr} {x0n : Nat} {x0c : Nat} {w : World} {R : Value → World → Prop} {R' : Ending → World → Prop} (h : vc_snap_New x0a x0n x0c w R) (hR : ∀ v w', R v w' → R' (.returned v) w') :
    Calls Tryd.prog 7 #[.slice x0a x0n x0c] w R' :=
  calls_of_body (vs := [(.slice x0a x0n x0c, false)]) (ty := ty) (ann := ⟨[], [(3, [(17, .int .i64)]), (11, [(52, .int .i64)]), (17, [(85, .int .i64)])], [(5, .tail 10), (13, .held [(0, true), (1, true), (2, false), (3, true), (4, true), (5, true), (6, true), (7, true), (8, true), (9, true), (10, true), (11, true), (12, true), (13, true), (14, true), (15, true), (16, true), (17, true), (18, true), (19, true), (20, true), (21, true)])], []⟩) (c := Tryd.f7.body.getD .skip) (by kernel_rfl) Tryd.func7 (by kernel_rfl) (by kernel_rfl) (Eq.mp (by kernel_rfl) h) hR
/-- (*snap.Snap).Get -/
def vc_snap_Snap_Get (x0 : Nat) (x1 : ByteArray) (w : World) (R : Value → World → Prop) : Prop :=
  ∃ l1 : Sl, (World.cell? w (Addr.mk x0 0 none) = some (Value.slice l1.1 l1.2 l1.3) ∧
   Calls Tryd.prog (21 : Nat) (Array.mk [Value.slice l1.1 l1.2 l1.3, Value.agg (Array.mk [Value.string x1, Value.string (ByteArray.mk (Array.mk []))]), Value.func (Fn.func 19) (Array.mk []) (Array.mk [])]) (w) (fun e2 w3 =>
     ∃ n4 : Int, ∃ b5 : Bool, (e2 = Ending.returned (Value.tuple (Array.mk [Value.int IntKind.i64 n4, Value.bool b5])) ∧
      ((((!b5) = true →
         R (Value.tuple (Array.mk [Value.string (ByteArray.mk (Array.mk [])), Value.int IntKind.i64 7])) w3)) ∧
       ((!b5) = false →
         ∃ l6 : Sl, (World.cell? w3 (Addr.mk x0 0 none) = some (Value.slice l6.1 l6.2 l6.3) ∧
          ((0 ≤ n4 ∧
            n4 < (↑l6.2 : Int)) ∧
           ∃ a7 : Addr, (l6.1 = some a7 ∧
            ∃ s8 : ByteArray, (World.cell? w3 (Addr.add (Addr.add a7 (Int.toNat n4 * 2)) 1) = some (Value.string s8) ∧
             R (Value.tuple (Array.mk [Value.string s8, Value.int IntKind.i64 0])) w3)))))))))
theorem vc_snap_Snap_Get_ok {x0 : Nat} {x1 : ByteArray} {w : World} {R : Value → World → Prop} {R' : Ending → World → Prop} (h : vc_snap_Snap_Get x0 x1 w R) (hR : ∀ v w', R v w' → R' (.returned v) w') :
    Calls Tryd.prog 10 #[.pointer (some ⟨x0, 0, none⟩), .string x1] w R' :=
  calls_of_body (vs := [(.pointer (some ⟨x0, 0, none⟩), true), (.string x1, false)]) (ty := ty) (ann := ⟨[], [], [], []⟩) (c := Tryd.f10.body.getD .skip) (by kernel_rfl) Tryd.func10 (by kernel_rfl) (by kernel_rfl) (Eq.mp (by kernel_rfl) h) hR
/-- (*snap.Snap).Under -/
def vc_snap_Snap_Under (x0 : Nat) (x1 : ByteArray) (w : World) (R : Value → World → Prop) : Prop :=
  ∃ l1 : Sl, (World.cell? w (Addr.mk x0 0 none) = some (Value.slice l1.1 l1.2 l1.3) ∧
   Calls Tryd.prog (21 : Nat) (Array.mk [Value.slice l1.1 l1.2 l1.3, Value.agg (Array.mk [Value.string x1, Value.string (ByteArray.mk (Array.mk []))]), Value.func (Fn.func 19) (Array.mk []) (Array.mk [])]) (w) (fun e2 w3 =>
     ∃ n4 : Int, ∃ b5 : Bool, (e2 = Ending.returned (Value.tuple (Array.mk [Value.int IntKind.i64 n4, Value.bool b5])) ∧
      ∃ I6 : Sl → Int → World → Prop, ∃ I7 : Sl → Int → World → Nat, (I6 (Sl.mk none 0 0) n4 w3 ∧
       ∀ l8 : Sl,
       ∀ n9 : Int,
       ∀ w10 : World,
       (I6 l8 n9 w10 →
         ∃ l11 : Sl, (World.cell? w10 (Addr.mk x0 0 none) = some (Value.slice l11.1 l11.2 l11.3) ∧
          (((decide (n9 < (↑l11.2 : Int)) = true →
             ∃ l12 : Sl, (World.cell? w10 (Addr.mk x0 0 none) = some (Value.slice l12.1 l12.2 l12.3) ∧
              ((0 ≤ n9 ∧
                n9 < (↑l12.2 : Int)) ∧
               ∃ a13 : Addr, (l12.1 = some a13 ∧
                ∃ s14 : ByteArray, (World.cell? w10 (Addr.add a13 (Int.toNat n9 * 2)) = some (Value.string s14) ∧
                 Calls Tryd.prog (22 : Nat) (Array.mk [Value.string s14, Value.string x1]) (w10) (fun e15 w16 =>
                   ∃ b17 : Bool, (e15 = Ending.returned (Value.bool b17) ∧
                    (((b17 = true →
                       ∃ l18 : Sl, (World.cell? w16 (Addr.mk x0 0 none) = some (Value.slice l18.1 l18.2 l18.3) ∧
                        ((0 ≤ n9 ∧
                          n9 < (↑l18.2 : Int)) ∧
                         ∃ a19 : Addr, (l18.1 = some a19 ∧
                          ∃ s20 : ByteArray, (World.cell? w16 (Addr.add a19 (Int.toNat n9 * 2)) = some (Value.string s20) ∧
                           ∀ w21 : World,
                           (w21 = World.alloc w16 (Obj.cells (Array.mk [Value.string s20]) 9) →
                             ∃ w22 : World, ∃ l23 : Sl, (Sem.run Tryd.prog (Builtin.append_ (Array.mk [36, 36]) 36 (Array.mk [Value.slice l8.1 l8.2 l8.3, Value.slice (some (Addr.mk (Array.size (World.heap w16)) 0 none)) 1 1])) w21 = Result.ok (Value.slice l23.1 l23.2 l23.3) w22 ∧
                              (I6 (Sl.mk l23.1 l23.2 l23.3) (IntKind.wrap IntKind.i64 (n9 + 1)) w22 ∧
                               I7 (Sl.mk l23.1 l23.2 l23.3) (IntKind.wrap IntKind.i64 (n9 + 1)) w22 < I7 l8 n9 w10))))))))) ∧
                     (b17 = false →
                       R (Value.slice l8.1 l8.2 l8.3) w16)))))))))) ∧
           (decide (n9 < (↑l11.2 : Int)) = false →
             R (Value.slice l8.1 l8.2 l8.3) w10))))))))
theorem vc_snap_Snap_Under_ok {x0 : Nat} {x1 : ByteArray} {w : World} {R : Value → World → Prop} {R' : Ending → World → Prop} (h : vc_snap_Snap_Under x0 x1 w R) (hR : ∀ v w', R v w' → R' (.returned v) w') :
    Calls Tryd.prog 9 #[.pointer (some ⟨x0, 0, none⟩), .string x1] w R' :=
  calls_of_body (vs := [(.pointer (some ⟨x0, 0, none⟩), true), (.string x1, false)]) (ty := ty) (ann := ⟨[], [(3, [(5, .slice), (6, .int .i64)])], [], []⟩) (c := Tryd.f9.body.getD .skip) (by kernel_rfl) Tryd.func9 (by kernel_rfl) (by kernel_rfl) (Eq.mp (by kernel_rfl) h) hR
end Go.Proofs.YtoagdpjickippaaDoor

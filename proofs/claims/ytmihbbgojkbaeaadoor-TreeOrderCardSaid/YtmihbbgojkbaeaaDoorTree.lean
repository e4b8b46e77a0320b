/- Formulas of 8 Go functions of this seat (written by a program of the author's, vcgen.py), and that each is enough for the call. No condition. -/
import Derived.Test.YtmihbbgojkbaeaaDoorTy
import Derived.Test.YtmihbbgojkbaeaaDoorProg
set_option linter.unusedVariables false
namespace Go.Proofs.YtmihbbgojkbaeaaDoor
open Go Vc Go.Proofs
set_option maxRecDepth 100000
/-- tree.mode -/
def vc_tree_mode (x0 : ByteArray) (w : World) (R : Value → World → Prop) : Prop :=
  ((((ByteArray.toList x0 == ByteArray.toList (ByteArray.mk (Array.mk [52, 48, 48, 48, 48]))) = true →
     R (Value.int IntKind.i64 16384) w)) ∧
   ((ByteArray.toList x0 == ByteArray.toList (ByteArray.mk (Array.mk [52, 48, 48, 48, 48]))) = false →
     ((((ByteArray.toList x0 == ByteArray.toList (ByteArray.mk (Array.mk [49, 48, 48, 54, 52, 52]))) = true →
        R (Value.int IntKind.i64 33188) w)) ∧
      ((ByteArray.toList x0 == ByteArray.toList (ByteArray.mk (Array.mk [49, 48, 48, 54, 52, 52]))) = false →
        ((((ByteArray.toList x0 == ByteArray.toList (ByteArray.mk (Array.mk [49, 48, 48, 55, 53, 53]))) = true →
           R (Value.int IntKind.i64 33261) w)) ∧
         ((ByteArray.toList x0 == ByteArray.toList (ByteArray.mk (Array.mk [49, 48, 48, 55, 53, 53]))) = false →
           ((((ByteArray.toList x0 == ByteArray.toList (ByteArray.mk (Array.mk [49, 50, 48, 48, 48, 48]))) = true →
              R (Value.int IntKind.i64 40960) w)) ∧
            ((ByteArray.toList x0 == ByteArray.toList (ByteArray.mk (Array.mk [49, 50, 48, 48, 48, 48]))) = false →
              ((((ByteArray.toList x0 == ByteArray.toList (ByteArray.mk (Array.mk [49, 54, 48, 48, 48, 48]))) = true →
                 R (Value.int IntKind.i64 57344) w)) ∧
               ((ByteArray.toList x0 == ByteArray.toList (ByteArray.mk (Array.mk [49, 54, 48, 48, 48, 48]))) = false →
                 R (Value.int IntKind.i64 0) w))))))))))
theorem vc_tree_mode_ok {x0 : ByteArray} {w : World} {R : Value → World → Prop} {R' : Ending → World → Prop} (h : vc_tree_mode x0 w R) (hR : ∀ v w', R v w' → R' (.returned v) w') :
    Calls Tryd.prog 54 #[.string x0] w R' :=
  calls_of_body (vs := [(.string x0, false)]) (ty := ty) (ann := ⟨[], [], [], []⟩) (c := Tryd.f54.body.getD .skip) (by kernel_rfl) Tryd.func54 (by kernel_rfl) (by kernel_rfl) (Eq.mp (by kernel_rfl) h) hR
/-- tree.text -/
def vc_tree_text (x0 : Int) (w : World) (R : Value → World → Prop) : Prop :=
  ((((x0 == 16384) = true →
     R (Value.string (ByteArray.mk (Array.mk [52, 48, 48, 48, 48]))) w)) ∧
   ((x0 == 16384) = false →
     ((((x0 == 33188) = true →
        R (Value.string (ByteArray.mk (Array.mk [49, 48, 48, 54, 52, 52]))) w)) ∧
      ((x0 == 33188) = false →
        ((((x0 == 33261) = true →
           R (Value.string (ByteArray.mk (Array.mk [49, 48, 48, 55, 53, 53]))) w)) ∧
         ((x0 == 33261) = false →
           ((((x0 == 40960) = true →
              R (Value.string (ByteArray.mk (Array.mk [49, 50, 48, 48, 48, 48]))) w)) ∧
            ((x0 == 40960) = false →
              ((((x0 == 57344) = true →
                 R (Value.string (ByteArray.mk (Array.mk [49, 54, 48, 48, 48, 48]))) w)) ∧
               ((x0 == 57344) = false →
                 R (Value.string (ByteArray.mk (Array.mk []))) w))))))))))
theorem vc_tree_text_ok {x0 : Int} {w : World} {R : Value → World → Prop} {R' : Ending → World → Prop} (h : vc_tree_text x0 w R) (hR : ∀ v w', R v w' → R' (.returned v) w') :
    Calls Tryd.prog 42 #[.int .i64 x0] w R' :=
  calls_of_body (vs := [(.int .i64 x0, false)]) (ty := ty) (ann := ⟨[], [], [], []⟩) (c := Tryd.f42.body.getD .skip) (by kernel_rfl) Tryd.func42 (by kernel_rfl) (by kernel_rfl) (Eq.mp (by kernel_rfl) h) hR
/-- tree.Name -/
def vc_tree_Name (x0 : ByteArray) (w : World) (R : Value → World → Prop) : Prop :=
  ((((!ByteArray.toList x0 == ByteArray.toList (ByteArray.mk (Array.mk []))) = true →
     (((decide ((↑(ByteArray.size x0) : Int) ≤ 100) = true →
        ((((!ByteArray.toList x0 == ByteArray.toList (ByteArray.mk (Array.mk [46]))) = true →
           ((((!ByteArray.toList x0 == ByteArray.toList (ByteArray.mk (Array.mk [46, 46]))) = true →
              Calls Tryd.prog (51 : Nat) (Array.mk [Value.string x0, Value.string (ByteArray.mk (Array.mk [46, 103, 105, 116]))]) (w) (fun e1 w2 =>
                ∃ b3 : Bool, (e1 = Ending.returned (Value.bool b3) ∧
                 ((((!b3) = true →
                    Calls Tryd.prog (52 : Nat) (Array.mk [Value.string x0, Value.string (ByteArray.mk (Array.mk [47, 0]))]) (w2) (fun e4 w5 =>
                      ∃ b6 : Bool, (e4 = Ending.returned (Value.bool b6) ∧
                       R (Value.bool !b6) w5)))) ∧
                  ((!b3) = false →
                    R (Value.bool false) w2)))))) ∧
            ((!ByteArray.toList x0 == ByteArray.toList (ByteArray.mk (Array.mk [46, 46]))) = false →
              R (Value.bool false) w)))) ∧
         ((!ByteArray.toList x0 == ByteArray.toList (ByteArray.mk (Array.mk [46]))) = false →
           R (Value.bool false) w)))) ∧
      (decide ((↑(ByteArray.size x0) : Int) ≤ 100) = false →
        R (Value.bool false) w)))) ∧
   ((!ByteArray.toList x0 == ByteArray.toList (ByteArray.mk (Array.mk []))) = false →
     R (Value.bool false) w))
theorem vc_tree_Name_ok {x0 : ByteArray} {w : World} {R : Value → World → Prop} {R' : Ending → World → Prop} (h : vc_tree_Name x0 w R) (hR : ∀ v w', R v w' → R' (.returned v) w') :
    Calls Tryd.prog 18 #[.string x0] w R' :=
  calls_of_body (vs := [(.string x0, false)]) (ty := ty) (ann := ⟨[], [], [], []⟩) (c := Tryd.f18.body.getD .skip) (by kernel_rfl) Tryd.func18 (by kernel_rfl) (by kernel_rfl) (Eq.mp (by kernel_rfl) h) hR
/-- tree.key -/
def vc_tree_key (x0_0 : Int) (x0_1 : ByteArray) (x0_2 : ByteArray) (w : World) (R : Value → World → Prop) : Prop :=
  ∀ w1 : World,
  (w1 = World.alloc w (Obj.cells (Array.mk [Value.int IntKind.i64 x0_0, Value.string x0_1, Value.string x0_2]) 29) →
    ∃ n2 : Int, (World.cell? w1 (Addr.mk (Array.size (World.heap w)) 0 none) = some (Value.int IntKind.i64 n2) ∧
     ((((n2 == 16384) = true →
        ∃ s3 : ByteArray, (World.cell? w1 (Addr.mk (Array.size (World.heap w)) 1 none) = some (Value.string s3) ∧
         (ByteArray.size s3 + ByteArray.size (ByteArray.mk (Array.mk [47])) ≤ 9223372036854775807 ∧
          R (Value.string (s3 ++ ByteArray.mk (Array.mk [47]))) w1)))) ∧
      ((n2 == 16384) = false →
        ∃ s4 : ByteArray, (World.cell? w1 (Addr.mk (Array.size (World.heap w)) 1 none) = some (Value.string s4) ∧
         R (Value.string s4) w1)))))
theorem vc_tree_key_ok {x0_0 : Int} {x0_1 : ByteArray} {x0_2 : ByteArray} {w : World} {R : Value → World → Prop} {R' : Ending → World → Prop} (h : vc_tree_key x0_0 x0_1 x0_2 w R) (hR : ∀ v w', R v w' → R' (.returned v) w') :
    Calls Tryd.prog 44 #[.agg #[.int .i64 x0_0, .string x0_1, .string x0_2]] w R' :=
  calls_of_body (vs := [(.agg #[.int .i64 x0_0, .string x0_1, .string x0_2], false)]) (ty := ty) (ann := ⟨[], [], [], []⟩) (c := Tryd.f44.body.getD .skip) (by kernel_rfl) Tryd.func44 (by kernel_rfl) (by kernel_rfl) (Eq.mp (by kernel_rfl) h) hR
/-- tree.Check -/
def vc_tree_Check (x0a : Option Addr) (x0n : Nat) (x0c : Nat) (w : World) (R : Value → World → Prop) : Prop :=
  (((decide ((↑x0n : Int) > 500) = true →
     R (Value.int IntKind.i64 2) w)) ∧
   (decide ((↑x0n : Int) > 500) = false →
     ∀ w1 : World,
     (w1 = World.alloc w (Obj.map (Array.mk []) 0) →
       ∃ I2 : Int → World → Prop, ∃ I3 : Int → World → Nat, (I2 0 w1 ∧
        ∀ n4 : Int,
        ∀ w5 : World,
        (I2 n4 w5 →
          (((decide (n4 < (↑x0n : Int)) = true →
             ((0 ≤ n4 ∧
               n4 < (↑x0n : Int)) ∧
              ∃ a6 : Addr, (x0a = some a6 ∧
               ∃ n7 : Int, ∃ s8 : ByteArray, ∃ s9 : ByteArray, (Sem.run Tryd.prog (loadVar 29 (Addr.add a6 (Int.toNat n4 * 3))) w5 = Result.ok (Value.agg (Array.mk [Value.int IntKind.i64 n7, Value.string s8, Value.string s9])) w5 ∧
                ∀ w10 : World,
                (w10 = World.alloc w5 (Obj.cells (Array.mk [Value.int IntKind.i64 0, Value.string (ByteArray.mk (Array.mk [])), Value.string (ByteArray.mk (Array.mk []))]) 29) →
                  ∃ w11 : World, (Sem.run Tryd.prog (storeVar 29 (Addr.mk (Array.size (World.heap w5)) 0 none) (Value.agg (Array.mk [Value.int IntKind.i64 n7, Value.string s8, Value.string s9]))) w10 = Result.ok PUnit.unit w11 ∧
                   ∀ w12 : World,
                   (Drew w11 w12 →
                     ∃ I13 : World → Prop, (I13 w12 ∧
                      ∃ n14 : Int, ((∀ w15 : World,
                       (I13 w15 →
                         World.cell? w15 (Addr.mk (Array.size (World.heap w5)) 0 none) = some (Value.int IntKind.i64 n14))) ∧
                       Calls Tryd.prog (42 : Nat) (Array.mk [Value.int IntKind.i64 n14]) (w12) (fun e16 w17 =>
                         ∃ s18 : ByteArray, (e16 = Ending.returned (Value.string s18) ∧
                          (I13 w17 ∧
                           ((((ByteArray.toList s18 == ByteArray.toList (ByteArray.mk (Array.mk []))) = true →
                              (I13 w17 ∧
                               (I13 w17 ∧
                                (I13 w17 ∧
                                 (I13 w17 ∧
                                  R (Value.int IntKind.i64 4) w17)))))) ∧
                            ((ByteArray.toList s18 == ByteArray.toList (ByteArray.mk (Array.mk []))) = false →
                              ∃ s19 : ByteArray, ((∀ w20 : World,
                               (I13 w20 →
                                 World.cell? w20 (Addr.mk (Array.size (World.heap w5)) 1 none) = some (Value.string s19))) ∧
                               Calls Tryd.prog (18 : Nat) (Array.mk [Value.string s19]) (w17) (fun e21 w22 =>
                                 ∃ b23 : Bool, (e21 = Ending.returned (Value.bool b23) ∧
                                  (I13 w22 ∧
                                   ((((!b23) = true →
                                      (I13 w22 ∧
                                       (I13 w22 ∧
                                        (I13 w22 ∧
                                         R (Value.int IntKind.i64 4) w22))))) ∧
                                    ((!b23) = false →
                                      ∃ s24 : ByteArray, ((∀ w25 : World,
                                       (I13 w25 →
                                         World.cell? w25 (Addr.mk (Array.size (World.heap w5)) 2 none) = some (Value.string s24))) ∧
                                       Calls Tryd.prog (43 : Nat) (Array.mk [Value.string s24]) (w22) (fun e26 w27 =>
                                         ∃ b28 : Bool, (e26 = Ending.returned (Value.bool b28) ∧
                                          (I13 w27 ∧
                                           ((((!b28) = true →
                                              (I13 w27 ∧
                                               (I13 w27 ∧
                                                R (Value.int IntKind.i64 4) w27)))) ∧
                                            ((!b28) = false →
                                              ∃ s29 : ByteArray, ((∀ w30 : World,
                                               (I13 w30 →
                                                 World.cell? w30 (Addr.mk (Array.size (World.heap w5)) 1 none) = some (Value.string s29))) ∧
                                               ∃ b31 : Bool, ((∀ w32 : World,
                                                (I13 w32 →
                                                  Sem.run Tryd.prog (Instr.lookup 71 (Value.map (some (Array.size (World.heap w)))) (Value.string s29) false) w32 = Result.ok (Value.bool b31) w32)) ∧
                                                (((b31 = true →
                                                   (I13 w27 ∧
                                                    (I13 w27 ∧
                                                     R (Value.int IntKind.i64 4) w27)))) ∧
                                                 (b31 = false →
                                                   (((decide (n4 > 0) = true →
                                                      ((0 ≤ IntKind.wrap IntKind.i64 (n4 - 1) ∧
                                                        IntKind.wrap IntKind.i64 (n4 - 1) < (↑x0n : Int)) ∧
                                                       ∃ a33 : Addr, (x0a = some a33 ∧
                                                        ∃ n34 : Int, ∃ s35 : ByteArray, ∃ s36 : ByteArray, ((∀ w37 : World,
                                                         (I13 w37 →
                                                           Sem.run Tryd.prog (loadVar 29 (Addr.add a33 (Int.toNat (IntKind.wrap IntKind.i64 (n4 - 1)) * 3))) w37 = Result.ok (Value.agg (Array.mk [Value.int IntKind.i64 n34, Value.string s35, Value.string s36])) w37)) ∧
                                                         ∃ n38 : Int, ∃ s39 : ByteArray, ∃ s40 : ByteArray, ((∀ w41 : World,
                                                          (I13 w41 →
                                                            Sem.run Tryd.prog (loadVar 29 (Addr.mk (Array.size (World.heap w5)) 0 none)) w41 = Result.ok (Value.agg (Array.mk [Value.int IntKind.i64 n38, Value.string s39, Value.string s40])) w41)) ∧
                                                          Calls Tryd.prog (44 : Nat) (Array.mk [Value.agg (Array.mk [Value.int IntKind.i64 n34, Value.string s35, Value.string s36])]) (w27) (fun e42 w43 =>
                                                            ∃ s44 : ByteArray, (e42 = Ending.returned (Value.string s44) ∧
                                                             (I13 w43 ∧
                                                              Calls Tryd.prog (44 : Nat) (Array.mk [Value.agg (Array.mk [Value.int IntKind.i64 n38, Value.string s39, Value.string s40])]) (w43) (fun e45 w46 =>
                                                                ∃ s47 : ByteArray, (e45 = Ending.returned (Value.string s47) ∧
                                                                 (I13 w46 ∧
                                                                  ((((!Op.bytesLess (ByteArray.toList s44) (ByteArray.toList s47)) = true →
                                                                     R (Value.int IntKind.i64 4) w46)) ∧
                                                                   ((!Op.bytesLess (ByteArray.toList s44) (ByteArray.toList s47)) = false →
                                                                     ∃ s48 : ByteArray, (World.cell? w46 (Addr.mk (Array.size (World.heap w5)) 1 none) = some (Value.string s48) ∧
                                                                      ∃ w49 : World, (Sem.run Tryd.prog (Instr.mapUpdate 71 (Value.map (some (Array.size (World.heap w)))) (Value.string s48) (Value.bool true)) w46 = Result.ok PUnit.unit w49 ∧
                                                                       (I2 (IntKind.wrap IntKind.i64 (n4 + 1)) w49 ∧
                                                                        I3 (IntKind.wrap IntKind.i64 (n4 + 1)) w49 < I3 n4 w5))))))))))))))))) ∧
                                                    (decide (n4 > 0) = false →
                                                      (I13 w27 ∧
                                                       (I13 w27 ∧
                                                        ∃ s50 : ByteArray, (World.cell? w27 (Addr.mk (Array.size (World.heap w5)) 1 none) = some (Value.string s50) ∧
                                                         ∃ w51 : World, (Sem.run Tryd.prog (Instr.mapUpdate 71 (Value.map (some (Array.size (World.heap w)))) (Value.string s50) (Value.bool true)) w27 = Result.ok PUnit.unit w51 ∧
                                                          (I2 (IntKind.wrap IntKind.i64 (n4 + 1)) w51 ∧
                                                           I3 (IntKind.wrap IntKind.i64 (n4 + 1)) w51 < I3 n4 w5)))))))))))))))))))))))))))))))))))))) ∧
           (decide (n4 < (↑x0n : Int)) = false →
             R (Value.int IntKind.i64 0) w5)))))))
theorem vc_tree_Check_ok {x0a : Option Addr} {x0n : Nat} {x0c : Nat} {w : World} {R : Value → World → Prop} {R' : Ending → World → Prop} (h : vc_tree_Check x0a x0n x0c w R) (hR : ∀ v w', R v w' → R' (.returned v) w') :
    Calls Tryd.prog 14 #[.slice x0a x0n x0c] w R' :=
  calls_of_body (vs := [(.slice x0a x0n x0c, false)]) (ty := ty) (ann := ⟨[], [(5, [(12, .int .i64)])], [(7, .held [(0, true), (1, true), (2, false), (3, true), (4, true), (5, true), (6, true), (7, false), (8, true), (9, true), (10, true), (11, true), (12, true), (13, false), (14, true), (15, true), (16, true), (17, true), (18, true), (19, true), (20, true), (21, true), (22, true), (23, true), (24, true), (25, true), (26, true), (27, true), (28, true), (29, true), (30, true), (32, true), (31, false), (33, false), (34, true), (35, true), (36, true)])], []⟩) (c := Tryd.f14.body.getD .skip) (by kernel_rfl) Tryd.func14 (by kernel_rfl) (by kernel_rfl) (Eq.mp (by kernel_rfl) h) hR
/-- tree.Format -/
def vc_tree_Format (x0a : Option Addr) (x0n : Nat) (x0c : Nat) (w : World) (R : Value → World → Prop) : Prop :=
  Calls Tryd.prog (14 : Nat) (Array.mk [Value.slice x0a x0n x0c]) (w) (fun e1 w2 =>
    ∃ n3 : Int, (e1 = Ending.returned (Value.int IntKind.i64 n3) ∧
     ((((n3 != 0) = true →
        R (Value.tuple (Array.mk [Value.string (ByteArray.mk (Array.mk [])), Value.int IntKind.i64 n3])) w2)) ∧
      ((n3 != 0) = false →
        ∀ w4 : World,
        (w4 = World.alloc w2 (Obj.cells (Array.mk [Value.pointer none, Value.slice none 0 0]) 76) →
          ∃ I5 : Int → World → Prop, ∃ I6 : Int → World → Nat, (I5 0 w4 ∧
           ∀ n7 : Int,
           ∀ w8 : World,
           (I5 n7 w8 →
             (((decide (n7 < (↑x0n : Int)) = true →
                ((0 ≤ n7 ∧
                  n7 < (↑x0n : Int)) ∧
                 ∃ a9 : Addr, (x0a = some a9 ∧
                  ∃ n10 : Int, ∃ s11 : ByteArray, ∃ s12 : ByteArray, (Sem.run Tryd.prog (loadVar 29 (Addr.add a9 (Int.toNat n7 * 3))) w8 = Result.ok (Value.agg (Array.mk [Value.int IntKind.i64 n10, Value.string s11, Value.string s12])) w8 ∧
                   ∀ w13 : World,
                   (w13 = World.alloc w8 (Obj.cells (Array.mk [Value.int IntKind.i64 0, Value.string (ByteArray.mk (Array.mk [])), Value.string (ByteArray.mk (Array.mk []))]) 29) →
                     ∃ w14 : World, (Sem.run Tryd.prog (storeVar 29 (Addr.mk (Array.size (World.heap w8)) 0 none) (Value.agg (Array.mk [Value.int IntKind.i64 n10, Value.string s11, Value.string s12]))) w13 = Result.ok PUnit.unit w14 ∧
                      ∃ s15 : ByteArray, (World.cell? w14 (Addr.mk (Array.size (World.heap w8)) 2 none) = some (Value.string s15) ∧
                       Calls Tryd.prog (48 : Nat) (Array.mk [Value.string s15]) (w14) (fun e16 w17 =>
                         ∃ s18 : ByteArray, ∃ b19 : Bool, (e16 = Ending.returned (Value.tuple (Array.mk [Value.string s18, Value.bool b19])) ∧
                          ∀ w20 : World,
                          (Drew w17 w20 →
                            ∃ I21 : World → Prop, (I21 w20 ∧
                             ∃ n22 : Int, ((∀ w23 : World,
                              (I21 w23 →
                                World.cell? w23 (Addr.mk (Array.size (World.heap w8)) 0 none) = some (Value.int IntKind.i64 n22))) ∧
                              ∃ s24 : ByteArray, ((∀ w25 : World,
                               (I21 w25 →
                                 World.cell? w25 (Addr.mk (Array.size (World.heap w8)) 1 none) = some (Value.string s24))) ∧
                               Calls Tryd.prog (42 : Nat) (Array.mk [Value.int IntKind.i64 n22]) (w20) (fun e26 w27 =>
                                 ∃ s28 : ByteArray, (e26 = Ending.returned (Value.string s28) ∧
                                  (I21 w27 ∧
                                   (ByteArray.size s28 + ByteArray.size (ByteArray.mk (Array.mk [32])) ≤ 9223372036854775807 ∧
                                    (ByteArray.size (s28 ++ ByteArray.mk (Array.mk [32])) + ByteArray.size s24 ≤ 9223372036854775807 ∧
                                     (ByteArray.size (s28 ++ ByteArray.mk (Array.mk [32]) ++ s24) + ByteArray.size (ByteArray.mk (Array.mk [0])) ≤ 9223372036854775807 ∧
                                      (ByteArray.size (s28 ++ ByteArray.mk (Array.mk [32]) ++ s24 ++ ByteArray.mk (Array.mk [0])) + ByteArray.size s18 ≤ 9223372036854775807 ∧
                                       Calls Tryd.prog (49 : Nat) (Array.mk [Value.pointer (some (Addr.mk (Array.size (World.heap w2)) 0 none)), Value.string (s28 ++ ByteArray.mk (Array.mk [32]) ++ s24 ++ ByteArray.mk (Array.mk [0]) ++ s18)]) (w27) (fun e29 w30 =>
                                         ∃ n31 : Int, ∃ v32 : Value, (e29 = Ending.returned (Value.tuple (Array.mk [Value.int IntKind.i64 n31, v32])) ∧
                                          (I5 (IntKind.wrap IntKind.i64 (n7 + 1)) w30 ∧
                                           I6 (IntKind.wrap IntKind.i64 (n7 + 1)) w30 < I6 n7 w8)))))))))))))))))))))))) ∧
              (decide (n7 < (↑x0n : Int)) = false →
                Calls Tryd.prog (50 : Nat) (Array.mk [Value.pointer (some (Addr.mk (Array.size (World.heap w2)) 0 none))]) (w8) (fun e33 w34 =>
                  ∃ s35 : ByteArray, (e33 = Ending.returned (Value.string s35) ∧
                   R (Value.tuple (Array.mk [Value.string s35, Value.int IntKind.i64 0])) w34)))))))))))
theorem vc_tree_Format_ok {x0a : Option Addr} {x0n : Nat} {x0c : Nat} {w : World} {R : Value → World → Prop} {R' : Ending → World → Prop} (h : vc_tree_Format x0a x0n x0c w R) (hR : ∀ v w', R v w' → R' (.returned v) w') :
    Calls Tryd.prog 17 #[.slice x0a x0n x0c] w R' :=
  calls_of_body (vs := [(.slice x0a x0n x0c, false)]) (ty := ty) (ann := ⟨[], [(6, [(17, .int .i64)])], [(9, .held [(0, true), (1, true), (4, true), (5, true), (8, true), (2, false), (3, true), (6, true), (7, true), (9, true), (10, false)])], []⟩) (c := Tryd.f17.body.getD .skip) (by kernel_rfl) Tryd.func17 (by kernel_rfl) (by kernel_rfl) (Eq.mp (by kernel_rfl) h) hR
/-- tree.Parse -/
def vc_tree_Parse (x0 : ByteArray) (w : World) (R : Value → World → Prop) : Prop :=
  ∃ I1 : ByteArray → Sl → World → Prop, ∃ I2 : ByteArray → Sl → World → Nat, (I1 x0 (Sl.mk none 0 0) w ∧
   ∀ s3 : ByteArray,
   ∀ l4 : Sl,
   ∀ w5 : World,
   (I1 s3 l4 w5 →
     ((((!ByteArray.toList s3 == ByteArray.toList (ByteArray.mk (Array.mk []))) = true →
        Calls Tryd.prog (53 : Nat) (Array.mk [Value.string s3, Value.string (ByteArray.mk (Array.mk [0]))]) (w5) (fun e6 w7 =>
          ∃ s8 : ByteArray, ∃ s9 : ByteArray, ∃ b10 : Bool, (e6 = Ending.returned (Value.tuple (Array.mk [Value.string s8, Value.string s9, Value.bool b10])) ∧
           ((((!b10) = true →
              R (Value.tuple (Array.mk [Value.slice none 0 0, Value.int IntKind.i64 6])) w7)) ∧
            ((!b10) = false →
              (((decide ((↑(ByteArray.size s9) : Int) < 20) = true →
                 R (Value.tuple (Array.mk [Value.slice none 0 0, Value.int IntKind.i64 6])) w7)) ∧
               (decide ((↑(ByteArray.size s9) : Int) < 20) = false →
                 Calls Tryd.prog (53 : Nat) (Array.mk [Value.string s8, Value.string (ByteArray.mk (Array.mk [32]))]) (w7) (fun e11 w12 =>
                   ∃ s13 : ByteArray, ∃ s14 : ByteArray, ∃ b15 : Bool, (e11 = Ending.returned (Value.tuple (Array.mk [Value.string s13, Value.string s14, Value.bool b15])) ∧
                    ((((!b15) = true →
                       R (Value.tuple (Array.mk [Value.slice none 0 0, Value.int IntKind.i64 3])) w12)) ∧
                     ((!b15) = false →
                       Calls Tryd.prog (54 : Nat) (Array.mk [Value.string s13]) (w12) (fun e16 w17 =>
                         ∃ n18 : Int, (e16 = Ending.returned (Value.int IntKind.i64 n18) ∧
                          ((((n18 == 0) = true →
                             R (Value.tuple (Array.mk [Value.slice none 0 0, Value.int IntKind.i64 3])) w17)) ∧
                           ((n18 == 0) = false →
                             ∀ w19 : World,
                             (Drew w17 w19 →
                               ∃ I20 : World → Prop, (I20 w19 ∧
                                (((0 : Int) ≤ (20 : Int) ∧
                                  20 ≤ (↑(ByteArray.size s9) : Int)) ∧
                                 Calls Tryd.prog (54 : Nat) (Array.mk [Value.string s13]) (w19) (fun e21 w22 =>
                                   ∃ n23 : Int, (e21 = Ending.returned (Value.int IntKind.i64 n23) ∧
                                    (I20 w22 ∧
                                     Calls Tryd.prog (55 : Nat) (Array.mk [Value.string (ByteArray.extract s9 0 (Int.toNat 20))]) (w22) (fun e24 w25 =>
                                       ∃ s26 : ByteArray, (e24 = Ending.returned (Value.string s26) ∧
                                        (I20 w25 ∧
                                         ∀ w27 : World,
                                         (w27 = World.alloc w25 (Obj.cells (Array.mk [Value.int IntKind.i64 n23, Value.string s14, Value.string s26]) 29) →
                                           (I20 w27 ∧
                                            ∃ w28 : World, ∃ l29 : Sl, (Sem.run Tryd.prog (Builtin.append_ (Array.mk [22, 22]) 22 (Array.mk [Value.slice l4.1 l4.2 l4.3, Value.slice (some (Addr.mk (Array.size (World.heap w25)) 0 none)) 1 1])) w27 = Result.ok (Value.slice l29.1 l29.2 l29.3) w28 ∧
                                             (I20 w28 ∧
                                              (((0 : Int) ≤ (20 : Int) ∧
                                                20 ≤ (↑(ByteArray.size s9) : Int)) ∧
                                               (((decide ((↑l29.2 : Int) > 500) = true →
                                                  R (Value.tuple (Array.mk [Value.slice none 0 0, Value.int IntKind.i64 2])) w28)) ∧
                                                (decide ((↑l29.2 : Int) > 500) = false →
                                                  (I1 (ByteArray.extract s9 (Int.toNat 20) (ByteArray.size s9)) (Sl.mk l29.1 l29.2 l29.3) w28 ∧
                                                   I2 (ByteArray.extract s9 (Int.toNat 20) (ByteArray.size s9)) (Sl.mk l29.1 l29.2 l29.3) w28 < I2 s3 l4 w5))))))))))))))))))))))))))))))))) ∧
      ((!ByteArray.toList s3 == ByteArray.toList (ByteArray.mk (Array.mk []))) = false →
        Calls Tryd.prog (14 : Nat) (Array.mk [Value.slice l4.1 l4.2 l4.3]) (w5) (fun e30 w31 =>
          ∃ n32 : Int, (e30 = Ending.returned (Value.int IntKind.i64 n32) ∧
           ((((n32 != 0) = true →
              R (Value.tuple (Array.mk [Value.slice none 0 0, Value.int IntKind.i64 n32])) w31)) ∧
            ((n32 != 0) = false →
              R (Value.tuple (Array.mk [Value.slice l4.1 l4.2 l4.3, Value.int IntKind.i64 0])) w31))))))))
theorem vc_tree_Parse_ok {x0 : ByteArray} {w : World} {R : Value → World → Prop} {R' : Ending → World → Prop} (h : vc_tree_Parse x0 w R) (hR : ∀ v w', R v w' → R' (.returned v) w') :
    Calls Tryd.prog 20 #[.string x0] w R' :=
  calls_of_body (vs := [(.string x0, false)]) (ty := ty) (ann := ⟨[], [(2, [(0, .str), (4, .slice)])], [(9, .held [(0, true), (1, true), (3, true), (4, true), (5, true), (2, false), (6, false), (7, true), (8, false), (9, false), (10, true)])], []⟩) (c := Tryd.f20.body.getD .skip) (by kernel_rfl) Tryd.func20 (by kernel_rfl) (by kernel_rfl) (Eq.mp (by kernel_rfl) h) hR
/-- tree.Find -/
def vc_tree_Find (x0a : Option Addr) (x0n : Nat) (x0c : Nat) (x1 : ByteArray) (w : World) (R : Value → World → Prop) : Prop :=
  ∀ w1 : World,
  (w1 = World.alloc w (Obj.cells (Array.mk [Value.int IntKind.i64 0, Value.string (ByteArray.mk (Array.mk [])), Value.string (ByteArray.mk (Array.mk []))]) 29) →
    ∃ I2 : Int → World → Prop, ∃ I3 : Int → World → Nat, (I2 0 w1 ∧
     ∀ n4 : Int,
     ∀ w5 : World,
     (I2 n4 w5 →
       (((decide (n4 < (↑x0n : Int)) = true →
          ((0 ≤ n4 ∧
            n4 < (↑x0n : Int)) ∧
           ∃ a6 : Addr, (x0a = some a6 ∧
            ∃ n7 : Int, ∃ s8 : ByteArray, ∃ s9 : ByteArray, (Sem.run Tryd.prog (loadVar 29 (Addr.add a6 (Int.toNat n4 * 3))) w5 = Result.ok (Value.agg (Array.mk [Value.int IntKind.i64 n7, Value.string s8, Value.string s9])) w5 ∧
             ∀ w10 : World,
             (w10 = World.alloc w5 (Obj.cells (Array.mk [Value.int IntKind.i64 0, Value.string (ByteArray.mk (Array.mk [])), Value.string (ByteArray.mk (Array.mk []))]) 29) →
               ∃ w11 : World, (Sem.run Tryd.prog (storeVar 29 (Addr.mk (Array.size (World.heap w5)) 0 none) (Value.agg (Array.mk [Value.int IntKind.i64 n7, Value.string s8, Value.string s9]))) w10 = Result.ok PUnit.unit w11 ∧
                ∃ s12 : ByteArray, (World.cell? w11 (Addr.mk (Array.size (World.heap w5)) 1 none) = some (Value.string s12) ∧
                 ((((ByteArray.toList s12 == ByteArray.toList x1) = true →
                    ∃ n13 : Int, ∃ s14 : ByteArray, ∃ s15 : ByteArray, (Sem.run Tryd.prog (loadVar 29 (Addr.mk (Array.size (World.heap w5)) 0 none)) w11 = Result.ok (Value.agg (Array.mk [Value.int IntKind.i64 n13, Value.string s14, Value.string s15])) w11 ∧
                     ∃ w16 : World, (Sem.run Tryd.prog (storeVar 29 (Addr.mk (Array.size (World.heap w)) 0 none) (Value.agg (Array.mk [Value.int IntKind.i64 n13, Value.string s14, Value.string s15]))) w11 = Result.ok PUnit.unit w16 ∧
                      ∃ n17 : Int, ∃ s18 : ByteArray, ∃ s19 : ByteArray, (Sem.run Tryd.prog (loadVar 29 (Addr.mk (Array.size (World.heap w)) 0 none)) w16 = Result.ok (Value.agg (Array.mk [Value.int IntKind.i64 n17, Value.string s18, Value.string s19])) w16 ∧
                       R (Value.tuple (Array.mk [Value.agg (Array.mk [Value.int IntKind.i64 n17, Value.string s18, Value.string s19]), Value.int IntKind.i64 0])) w16))))) ∧
                  ((ByteArray.toList s12 == ByteArray.toList x1) = false →
                    (I2 (IntKind.wrap IntKind.i64 (n4 + 1)) w11 ∧
                     I3 (IntKind.wrap IntKind.i64 (n4 + 1)) w11 < I3 n4 w5))))))))))) ∧
        (decide (n4 < (↑x0n : Int)) = false →
          ∃ w20 : World, (Sem.run Tryd.prog (storeVar 29 (Addr.mk (Array.size (World.heap w)) 0 none) (Value.agg (Array.mk [Value.int IntKind.i64 0, Value.string (ByteArray.mk (Array.mk [])), Value.string (ByteArray.mk (Array.mk []))]))) w5 = Result.ok PUnit.unit w20 ∧
           ∃ n21 : Int, ∃ s22 : ByteArray, ∃ s23 : ByteArray, (Sem.run Tryd.prog (loadVar 29 (Addr.mk (Array.size (World.heap w)) 0 none)) w20 = Result.ok (Value.agg (Array.mk [Value.int IntKind.i64 n21, Value.string s22, Value.string s23])) w20 ∧
            R (Value.tuple (Array.mk [Value.agg (Array.mk [Value.int IntKind.i64 n21, Value.string s22, Value.string s23]), Value.int IntKind.i64 7])) w20)))))))
theorem vc_tree_Find_ok {x0a : Option Addr} {x0n : Nat} {x0c : Nat} {x1 : ByteArray} {w : World} {R : Value → World → Prop} {R' : Ending → World → Prop} (h : vc_tree_Find x0a x0n x0c x1 w R) (hR : ∀ v w', R v w' → R' (.returned v) w') :
    Calls Tryd.prog 24 #[.slice x0a x0n x0c, .string x1] w R' :=
  calls_of_body (vs := [(.slice x0a x0n x0c, false), (.string x1, false)]) (ty := ty) (ann := ⟨[], [(2, [(10, .int .i64)])], [], []⟩) (c := Tryd.f24.body.getD .skip) (by kernel_rfl) Tryd.func24 (by kernel_rfl) (by kernel_rfl) (Eq.mp (by kernel_rfl) h) hR
end Go.Proofs.YtmihbbgojkbaeaaDoor

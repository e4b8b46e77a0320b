/- Formulas of 6 Go functions of this seat (written by a program of the author's, vcgen.py), and that each is enough for the call. No condition. -/
import Derived.Test.YtmhlmdnhpfhoeaaDoorTy
import Derived.Test.YtmhlmdnhpfhoeaaDoorProg
set_option linter.unusedVariables false
namespace Go.Proofs.YtmhlmdnhpfhoeaaDoor
open Go Vc Go.Proofs
set_option maxRecDepth 100000
/-- modfile.Path -/
def vc_modfile_Path (x0 : ByteArray) (w : World) (R : Value → World → Prop) : Prop :=
  (((decide ((↑(ByteArray.size x0) : Int) > 200) = true →
     R (Value.bool false) w)) ∧
   (decide ((↑(ByteArray.size x0) : Int) > 200) = false →
     Calls Tryd.prog (29 : Nat) (Array.mk [Value.string x0, Value.string (ByteArray.mk (Array.mk [47]))]) (w) (fun e1 w2 =>
       ∃ l3 : Sl, (e1 = Ending.returned (Value.slice l3.1 l3.2 l3.3) ∧
        ∃ I4 : Int → World → Prop, ∃ I5 : Int → World → Nat, (I4 0 w2 ∧
         ∀ n6 : Int,
         ∀ w7 : World,
         (I4 n6 w7 →
           (((decide (n6 < (↑l3.2 : Int)) = true →
              ((0 ≤ n6 ∧
                n6 < (↑l3.2 : Int)) ∧
               ∃ a8 : Addr, (l3.1 = some a8 ∧
                ∃ s9 : ByteArray, (World.cell? w7 (Addr.add a8 (Int.toNat n6 * 1)) = some (Value.string s9) ∧
                 ((((ByteArray.toList s9 == ByteArray.toList (ByteArray.mk (Array.mk []))) = true →
                    R (Value.bool false) w7)) ∧
                  ((ByteArray.toList s9 == ByteArray.toList (ByteArray.mk (Array.mk []))) = false →
                    (((0 : Int) ≤ (0 : Int) ∧
                      0 < (↑(ByteArray.size s9) : Int)) ∧
                     ((((byteAt s9 0 == 46) = true →
                        R (Value.bool false) w7)) ∧
                      ((byteAt s9 0 == 46) = false →
                        ((0 ≤ IntKind.wrap IntKind.i64 ((↑(ByteArray.size s9) : Int) - 1) ∧
                          IntKind.wrap IntKind.i64 ((↑(ByteArray.size s9) : Int) - 1) < (↑(ByteArray.size s9) : Int)) ∧
                         ((((byteAt s9 (IntKind.wrap IntKind.i64 ((↑(ByteArray.size s9) : Int) - 1)) == 46) = true →
                            R (Value.bool false) w7)) ∧
                          ((byteAt s9 (IntKind.wrap IntKind.i64 ((↑(ByteArray.size s9) : Int) - 1)) == 46) = false →
                            ∃ w10 : World, ∃ l11 : Sl, (Sem.run Tryd.prog (convert 9 37 (Value.string s9)) w7 = Result.ok (Value.slice l11.1 l11.2 l11.3) w10 ∧
                             ∃ I12 : Int → World → Prop, ∃ I13 : Int → World → Nat, (I12 0 w10 ∧
                              ∀ n14 : Int,
                              ∀ w15 : World,
                              (I12 n14 w15 →
                                (((decide (n14 < (↑l11.2 : Int)) = true →
                                   ((0 ≤ n14 ∧
                                     n14 < (↑l11.2 : Int)) ∧
                                    ∃ a16 : Addr, (l11.1 = some a16 ∧
                                     ∃ n17 : Int, (World.cell? w15 (Addr.add a16 (Int.toNat n14 * 1)) = some (Value.int IntKind.u8 n17) ∧
                                      ∃ I18 : Bool → World → Prop, ((((decide (n17 ≥ 97) = true →
                                          (((decide (n17 ≤ 122) = true →
                                             I18 true w15)) ∧
                                           (decide (n17 ≤ 122) = false →
                                             (((decide (n17 ≥ 48) = true →
                                                (((decide (n17 ≤ 57) = true →
                                                   I18 true w15)) ∧
                                                 (decide (n17 ≤ 57) = false →
                                                   ((((n17 == 45) = true →
                                                      I18 true w15)) ∧
                                                    ((n17 == 45) = false →
                                                      I18 (n17 == 46) w15)))))) ∧
                                              (decide (n17 ≥ 48) = false →
                                                ((((n17 == 45) = true →
                                                   I18 true w15)) ∧
                                                 ((n17 == 45) = false →
                                                   I18 (n17 == 46) w15)))))))) ∧
                                        (decide (n17 ≥ 97) = false →
                                          (((decide (n17 ≥ 48) = true →
                                             (((decide (n17 ≤ 57) = true →
                                                I18 true w15)) ∧
                                              (decide (n17 ≤ 57) = false →
                                                ((((n17 == 45) = true →
                                                   I18 true w15)) ∧
                                                 ((n17 == 45) = false →
                                                   I18 (n17 == 46) w15)))))) ∧
                                           (decide (n17 ≥ 48) = false →
                                             ((((n17 == 45) = true →
                                                I18 true w15)) ∧
                                              ((n17 == 45) = false →
                                                I18 (n17 == 46) w15)))))) ∧
                                       ∀ b19 : Bool,
                                       ∀ w20 : World,
                                       (I18 b19 w20 →
                                         ((((!b19) = true →
                                            ((((n6 == 0) = true →
                                               R (Value.bool false) w20)) ∧
                                             ((n6 == 0) = false →
                                               (((decide (n17 ≥ 65) = true →
                                                  (((decide (n17 ≤ 90) = true →
                                                     (I12 (IntKind.wrap IntKind.i64 (n14 + 1)) w20 ∧
                                                      I13 (IntKind.wrap IntKind.i64 (n14 + 1)) w20 < I13 n14 w15))) ∧
                                                   (decide (n17 ≤ 90) = false →
                                                     ((((n17 == 95) = true →
                                                        (I12 (IntKind.wrap IntKind.i64 (n14 + 1)) w20 ∧
                                                         I13 (IntKind.wrap IntKind.i64 (n14 + 1)) w20 < I13 n14 w15))) ∧
                                                      ((n17 == 95) = false →
                                                        ((((!n17 == 126) = true →
                                                           R (Value.bool false) w20)) ∧
                                                         ((!n17 == 126) = false →
                                                           (I12 (IntKind.wrap IntKind.i64 (n14 + 1)) w20 ∧
                                                            I13 (IntKind.wrap IntKind.i64 (n14 + 1)) w20 < I13 n14 w15))))))))) ∧
                                                (decide (n17 ≥ 65) = false →
                                                  ((((n17 == 95) = true →
                                                     (I12 (IntKind.wrap IntKind.i64 (n14 + 1)) w20 ∧
                                                      I13 (IntKind.wrap IntKind.i64 (n14 + 1)) w20 < I13 n14 w15))) ∧
                                                   ((n17 == 95) = false →
                                                     ((((!n17 == 126) = true →
                                                        R (Value.bool false) w20)) ∧
                                                      ((!n17 == 126) = false →
                                                        (I12 (IntKind.wrap IntKind.i64 (n14 + 1)) w20 ∧
                                                         I13 (IntKind.wrap IntKind.i64 (n14 + 1)) w20 < I13 n14 w15))))))))))) ∧
                                          ((!b19) = false →
                                            (I12 (IntKind.wrap IntKind.i64 (n14 + 1)) w20 ∧
                                             I13 (IntKind.wrap IntKind.i64 (n14 + 1)) w20 < I13 n14 w15)))))))))) ∧
                                 (decide (n14 < (↑l11.2 : Int)) = false →
                                   ((((n6 == 0) = true →
                                      (((0 : Int) ≤ (0 : Int) ∧
                                        0 < (↑(ByteArray.size s9) : Int)) ∧
                                       ((((byteAt s9 0 == 45) = true →
                                          R (Value.bool false) w15)) ∧
                                        ((byteAt s9 0 == 45) = false →
                                          Calls Tryd.prog (30 : Nat) (Array.mk [Value.string s9, Value.string (ByteArray.mk (Array.mk [46]))]) (w15) (fun e21 w22 =>
                                            ∃ b23 : Bool, (e21 = Ending.returned (Value.bool b23) ∧
                                             ((((!b23) = true →
                                                R (Value.bool false) w22)) ∧
                                              ((!b23) = false →
                                                (I4 (IntKind.wrap IntKind.i64 (n6 + 1)) w22 ∧
                                                 I5 (IntKind.wrap IntKind.i64 (n6 + 1)) w22 < I5 n6 w7)))))))))) ∧
                                    ((n6 == 0) = false →
                                      (I4 (IntKind.wrap IntKind.i64 (n6 + 1)) w15 ∧
                                       I5 (IntKind.wrap IntKind.i64 (n6 + 1)) w15 < I5 n6 w7))))))))))))))))))))) ∧
            (decide (n6 < (↑l3.2 : Int)) = false →
              R (Value.bool true) w7))))))))
theorem vc_modfile_Path_ok {x0 : ByteArray} {w : World} {R : Value → World → Prop} {R' : Ending → World → Prop} (h : vc_modfile_Path x0 w R) (hR : ∀ v w', R v w' → R' (.returned v) w') :
    Calls Tryd.prog 12 #[.string x0] w R' :=
  calls_of_body (vs := [(.string x0, false)]) (ty := ty) (ann := ⟨[(12, [(7, .bool)])], [(4, [(14, .int .i64)]), (9, [(37, .int .i64)])], [], []⟩) (c := Tryd.f12.body.getD .skip) (by kernel_rfl) Tryd.func12 (by kernel_rfl) (by kernel_rfl) (Eq.mp (by kernel_rfl) h) hR
/-- modfile.Module -/
def vc_modfile_Module (x0 : ByteArray) (w : World) (R : Value → World → Prop) : Prop :=
  Calls Tryd.prog (10 : Nat) (Array.mk [Value.string x0]) (w) (fun e1 w2 =>
    ∃ l3 : Sl, ∃ n4 : Int, ∃ n5 : Int, (e1 = Ending.returned (Value.tuple (Array.mk [Value.slice l3.1 l3.2 l3.3, Value.int IntKind.i64 n4, Value.int IntKind.i64 n5])) ∧
     ((((n5 != 0) = true →
        R (Value.tuple (Array.mk [Value.string (ByteArray.mk (Array.mk [])), Value.int IntKind.i64 n4, Value.int IntKind.i64 n5])) w2)) ∧
      ((n5 != 0) = false →
        ∃ I6 : ByteArray → Bool → Int → World → Prop, ∃ I7 : ByteArray → Bool → Int → World → Nat, (I6 (ByteArray.mk (Array.mk [])) false 0 w2 ∧
         ∀ s8 : ByteArray,
         ∀ b9 : Bool,
         ∀ n10 : Int,
         ∀ w11 : World,
         (I6 s8 b9 n10 w11 →
           (((decide (n10 < (↑l3.2 : Int)) = true →
              ((0 ≤ n10 ∧
                n10 < (↑l3.2 : Int)) ∧
               ∃ a12 : Addr, (l3.1 = some a12 ∧
                ∃ s13 : ByteArray, ∃ l14 : Sl, ∃ n15 : Int, (Sem.run Tryd.prog (loadVar 30 (Addr.add a12 (Int.toNat n10 * 3))) w11 = Result.ok (Value.agg (Array.mk [Value.string s13, Value.slice l14.1 l14.2 l14.3, Value.int IntKind.i64 n15])) w11 ∧
                 ∀ w16 : World,
                 (w16 = World.alloc w11 (Obj.cells (Array.mk [Value.string (ByteArray.mk (Array.mk [])), Value.slice none 0 0, Value.int IntKind.i64 0]) 30) →
                   ∃ w17 : World, (Sem.run Tryd.prog (storeVar 30 (Addr.mk (Array.size (World.heap w11)) 0 none) (Value.agg (Array.mk [Value.string s13, Value.slice l14.1 l14.2 l14.3, Value.int IntKind.i64 n15]))) w16 = Result.ok PUnit.unit w17 ∧
                    ∃ s18 : ByteArray, (World.cell? w17 (Addr.mk (Array.size (World.heap w11)) 0 none) = some (Value.string s18) ∧
                     ((((!ByteArray.toList s18 == ByteArray.toList (ByteArray.mk (Array.mk [109, 111, 100, 117, 108, 101]))) = true →
                        (I6 s8 b9 (IntKind.wrap IntKind.i64 (n10 + 1)) w17 ∧
                         I7 s8 b9 (IntKind.wrap IntKind.i64 (n10 + 1)) w17 < I7 s8 b9 n10 w11))) ∧
                      ((!ByteArray.toList s18 == ByteArray.toList (ByteArray.mk (Array.mk [109, 111, 100, 117, 108, 101]))) = false →
                        (((b9 = true →
                           ∃ n19 : Int, (World.cell? w17 (Addr.mk (Array.size (World.heap w11)) 2 none) = some (Value.int IntKind.i64 n19) ∧
                            ∀ w20 : World,
                            (Drew w17 w20 →
                              R (Value.tuple (Array.mk [Value.string (ByteArray.mk (Array.mk [])), Value.int IntKind.i64 n19, Value.int IntKind.i64 8])) w20)))) ∧
                         (b9 = false →
                           ∃ l21 : Sl, (World.cell? w17 (Addr.mk (Array.size (World.heap w11)) 1 none) = some (Value.slice l21.1 l21.2 l21.3) ∧
                            (((((↑l21.2 : Int) != 1) = true →
                               ∃ n22 : Int, (World.cell? w17 (Addr.mk (Array.size (World.heap w11)) 2 none) = some (Value.int IntKind.i64 n22) ∧
                                ∀ w23 : World,
                                (Drew w17 w23 →
                                  R (Value.tuple (Array.mk [Value.string (ByteArray.mk (Array.mk [])), Value.int IntKind.i64 n22, Value.int IntKind.i64 4])) w23)))) ∧
                             (((↑l21.2 : Int) != 1) = false →
                               ∃ l24 : Sl, (World.cell? w17 (Addr.mk (Array.size (World.heap w11)) 1 none) = some (Value.slice l24.1 l24.2 l24.3) ∧
                                (((0 : Int) ≤ (0 : Int) ∧
                                  0 < (↑l24.2 : Int)) ∧
                                 ∃ a25 : Addr, (l24.1 = some a25 ∧
                                  ∃ s26 : ByteArray, (World.cell? w17 (Addr.add a25 (Int.toNat 0 * 1)) = some (Value.string s26) ∧
                                   Calls Tryd.prog (12 : Nat) (Array.mk [Value.string s26]) (w17) (fun e27 w28 =>
                                     ∃ b29 : Bool, (e27 = Ending.returned (Value.bool b29) ∧
                                      ((((!b29) = true →
                                         ∃ n30 : Int, (World.cell? w28 (Addr.mk (Array.size (World.heap w11)) 2 none) = some (Value.int IntKind.i64 n30) ∧
                                          ∀ w31 : World,
                                          (Drew w28 w31 →
                                            R (Value.tuple (Array.mk [Value.string (ByteArray.mk (Array.mk [])), Value.int IntKind.i64 n30, Value.int IntKind.i64 4])) w31)))) ∧
                                       ((!b29) = false →
                                         ∃ l32 : Sl, (World.cell? w28 (Addr.mk (Array.size (World.heap w11)) 1 none) = some (Value.slice l32.1 l32.2 l32.3) ∧
                                          (((0 : Int) ≤ (0 : Int) ∧
                                            0 < (↑l32.2 : Int)) ∧
                                           ∃ a33 : Addr, (l32.1 = some a33 ∧
                                            ∃ s34 : ByteArray, (World.cell? w28 (Addr.add a33 (Int.toNat 0 * 1)) = some (Value.string s34) ∧
                                             (I6 s34 true (IntKind.wrap IntKind.i64 (n10 + 1)) w28 ∧
                                              I7 s34 true (IntKind.wrap IntKind.i64 (n10 + 1)) w28 < I7 s8 b9 n10 w11)))))))))))))))))))))))))))) ∧
            (decide (n10 < (↑l3.2 : Int)) = false →
              ((((!b9) = true →
                 R (Value.tuple (Array.mk [Value.string (ByteArray.mk (Array.mk [])), Value.int IntKind.i64 0, Value.int IntKind.i64 7])) w11)) ∧
               ((!b9) = false →
                 R (Value.tuple (Array.mk [Value.string s8, Value.int IntKind.i64 0, Value.int IntKind.i64 0])) w11))))))))))
theorem vc_modfile_Module_ok {x0 : ByteArray} {w : World} {R : Value → World → Prop} {R' : Ending → World → Prop} (h : vc_modfile_Module x0 w R) (hR : ∀ v w', R v w' → R' (.returned v) w') :
    Calls Tryd.prog 17 #[.string x0] w R' :=
  calls_of_body (vs := [(.string x0, false)]) (ty := ty) (ann := ⟨[], [(6, [(2, .str), (6, .bool), (21, .int .i64)])], [(11, .quiet), (13, .quiet)], []⟩) (c := Tryd.f17.body.getD .skip) (by kernel_rfl) Tryd.func17 (by kernel_rfl) (by kernel_rfl) (Eq.mp (by kernel_rfl) h) hR
/-- modfile.Plain -/
def vc_modfile_Plain (x0 : ByteArray) (w : World) (R : Value → World → Prop) : Prop :=
  (ByteArray.size (ByteArray.mk (Array.mk [109, 111, 100, 117, 108, 101, 32])) + ByteArray.size x0 ≤ 9223372036854775807 ∧
   (ByteArray.size (ByteArray.mk (Array.mk [109, 111, 100, 117, 108, 101, 32]) ++ x0) + ByteArray.size (ByteArray.mk (Array.mk [10])) ≤ 9223372036854775807 ∧
    R (Value.string (ByteArray.mk (Array.mk [109, 111, 100, 117, 108, 101, 32]) ++ x0 ++ ByteArray.mk (Array.mk [10]))) w))
theorem vc_modfile_Plain_ok {x0 : ByteArray} {w : World} {R : Value → World → Prop} {R' : Ending → World → Prop} (h : vc_modfile_Plain x0 w R) (hR : ∀ v w', R v w' → R' (.returned v) w') :
    Calls Tryd.prog 16 #[.string x0] w R' :=
  calls_of_body (vs := [(.string x0, false)]) (ty := ty) (ann := ⟨[], [], [], []⟩) (c := Tryd.f16.body.getD .skip) (by kernel_rfl) Tryd.func16 (by kernel_rfl) (by kernel_rfl) (Eq.mp (by kernel_rfl) h) hR
/-- cartularyref16.Ends -/
def vc_cartularyref16_Ends (x0 : ByteArray) (x1 : ByteArray) (w : World) (R : Value → World → Prop) : Prop :=
  (((decide ((↑(ByteArray.size x0) : Int) ≥ (↑(ByteArray.size x1) : Int)) = true →
     ((0 ≤ IntKind.wrap IntKind.i64 ((↑(ByteArray.size x0) : Int) - (↑(ByteArray.size x1) : Int)) ∧
       IntKind.wrap IntKind.i64 ((↑(ByteArray.size x0) : Int) - (↑(ByteArray.size x1) : Int)) ≤ (↑(ByteArray.size x0) : Int)) ∧
      R (Value.bool (ByteArray.toList (ByteArray.extract x0 (Int.toNat (IntKind.wrap IntKind.i64 ((↑(ByteArray.size x0) : Int) - (↑(ByteArray.size x1) : Int)))) (ByteArray.size x0)) == ByteArray.toList x1)) w))) ∧
   (decide ((↑(ByteArray.size x0) : Int) ≥ (↑(ByteArray.size x1) : Int)) = false →
     R (Value.bool false) w))
theorem vc_cartularyref16_Ends_ok {x0 : ByteArray} {x1 : ByteArray} {w : World} {R : Value → World → Prop} {R' : Ending → World → Prop} (h : vc_cartularyref16_Ends x0 x1 w R) (hR : ∀ v w', R v w' → R' (.returned v) w') :
    Calls Tryd.prog 37 #[.string x0, .string x1] w R' :=
  calls_of_body (vs := [(.string x0, false), (.string x1, false)]) (ty := ty) (ann := ⟨[], [], [], []⟩) (c := Tryd.f37.body.getD .skip) (by kernel_rfl) Tryd.func37 (by kernel_rfl) (by kernel_rfl) (Eq.mp (by kernel_rfl) h) hR
/-- cartularyref22.Path -/
def vc_cartularyref22_Path (x0 : ByteArray) (w : World) (R : Value → World → Prop) : Prop :=
  (((decide ((↑(ByteArray.size x0) : Int) > 200) = true →
     R (Value.bool false) w)) ∧
   (decide ((↑(ByteArray.size x0) : Int) > 200) = false →
     Calls Tryd.prog (34 : Nat) (Array.mk [Value.string x0]) (w) (fun e1 w2 =>
       ∃ l3 : Sl, (e1 = Ending.returned (Value.slice l3.1 l3.2 l3.3) ∧
        ∃ I4 : Int → World → Prop, ∃ I5 : Int → World → Nat, (I4 0 w2 ∧
         ∀ n6 : Int,
         ∀ w7 : World,
         (I4 n6 w7 →
           (((decide (n6 < (↑l3.2 : Int)) = true →
              ((0 ≤ n6 ∧
                n6 < (↑l3.2 : Int)) ∧
               ∃ a8 : Addr, (l3.1 = some a8 ∧
                ∃ s9 : ByteArray, (World.cell? w7 (Addr.add a8 (Int.toNat n6 * 1)) = some (Value.string s9) ∧
                 ((((ByteArray.toList s9 == ByteArray.toList (ByteArray.mk (Array.mk []))) = true →
                    R (Value.bool false) w7)) ∧
                  ((ByteArray.toList s9 == ByteArray.toList (ByteArray.mk (Array.mk []))) = false →
                    (((0 : Int) ≤ (0 : Int) ∧
                      0 < (↑(ByteArray.size s9) : Int)) ∧
                     ((((byteAt s9 0 == 46) = true →
                        R (Value.bool false) w7)) ∧
                      ((byteAt s9 0 == 46) = false →
                        ((0 ≤ IntKind.wrap IntKind.i64 ((↑(ByteArray.size s9) : Int) - 1) ∧
                          IntKind.wrap IntKind.i64 ((↑(ByteArray.size s9) : Int) - 1) < (↑(ByteArray.size s9) : Int)) ∧
                         ((((byteAt s9 (IntKind.wrap IntKind.i64 ((↑(ByteArray.size s9) : Int) - 1)) == 46) = true →
                            R (Value.bool false) w7)) ∧
                          ((byteAt s9 (IntKind.wrap IntKind.i64 ((↑(ByteArray.size s9) : Int) - 1)) == 46) = false →
                            ∃ I10 : Bool → Int → World → Prop, ∃ I11 : Bool → Int → World → Nat, (I10 false 0 w7 ∧
                             ∀ b12 : Bool,
                             ∀ n13 : Int,
                             ∀ w14 : World,
                             (I10 b12 n13 w14 →
                               (((decide (n13 < (↑(ByteArray.size s9) : Int)) = true →
                                  ((0 ≤ n13 ∧
                                    n13 < (↑(ByteArray.size s9) : Int)) ∧
                                   ∃ I15 : Bool → World → Prop, ((((b12 = true →
                                       I15 true w14)) ∧
                                     (b12 = false →
                                       I15 (byteAt s9 n13 == 46) w14)) ∧
                                    ∀ b16 : Bool,
                                    ∀ w17 : World,
                                    (I15 b16 w17 →
                                      ∃ I18 : World → Prop, ((((decide (byteAt s9 n13 ≥ 97) = true →
                                          (((decide (byteAt s9 n13 ≤ 122) = true →
                                             (I10 b16 (IntKind.wrap IntKind.i64 (n13 + 1)) w17 ∧
                                              I11 b16 (IntKind.wrap IntKind.i64 (n13 + 1)) w17 < I11 b12 n13 w14))) ∧
                                           (decide (byteAt s9 n13 ≤ 122) = false →
                                             (((decide (byteAt s9 n13 ≥ 48) = true →
                                                (((decide (byteAt s9 n13 ≤ 57) = true →
                                                   (I10 b16 (IntKind.wrap IntKind.i64 (n13 + 1)) w17 ∧
                                                    I11 b16 (IntKind.wrap IntKind.i64 (n13 + 1)) w17 < I11 b12 n13 w14))) ∧
                                                 (decide (byteAt s9 n13 ≤ 57) = false →
                                                   ((((byteAt s9 n13 == 45) = true →
                                                      (I10 b16 (IntKind.wrap IntKind.i64 (n13 + 1)) w17 ∧
                                                       I11 b16 (IntKind.wrap IntKind.i64 (n13 + 1)) w17 < I11 b12 n13 w14))) ∧
                                                    ((byteAt s9 n13 == 45) = false →
                                                      ((((byteAt s9 n13 == 46) = true →
                                                         (I10 b16 (IntKind.wrap IntKind.i64 (n13 + 1)) w17 ∧
                                                          I11 b16 (IntKind.wrap IntKind.i64 (n13 + 1)) w17 < I11 b12 n13 w14))) ∧
                                                       ((byteAt s9 n13 == 46) = false →
                                                         I18 w17)))))))) ∧
                                              (decide (byteAt s9 n13 ≥ 48) = false →
                                                ((((byteAt s9 n13 == 45) = true →
                                                   (I10 b16 (IntKind.wrap IntKind.i64 (n13 + 1)) w17 ∧
                                                    I11 b16 (IntKind.wrap IntKind.i64 (n13 + 1)) w17 < I11 b12 n13 w14))) ∧
                                                 ((byteAt s9 n13 == 45) = false →
                                                   ((((byteAt s9 n13 == 46) = true →
                                                      (I10 b16 (IntKind.wrap IntKind.i64 (n13 + 1)) w17 ∧
                                                       I11 b16 (IntKind.wrap IntKind.i64 (n13 + 1)) w17 < I11 b12 n13 w14))) ∧
                                                    ((byteAt s9 n13 == 46) = false →
                                                      I18 w17)))))))))) ∧
                                        (decide (byteAt s9 n13 ≥ 97) = false →
                                          (((decide (byteAt s9 n13 ≥ 48) = true →
                                             (((decide (byteAt s9 n13 ≤ 57) = true →
                                                (I10 b16 (IntKind.wrap IntKind.i64 (n13 + 1)) w17 ∧
                                                 I11 b16 (IntKind.wrap IntKind.i64 (n13 + 1)) w17 < I11 b12 n13 w14))) ∧
                                              (decide (byteAt s9 n13 ≤ 57) = false →
                                                ((((byteAt s9 n13 == 45) = true →
                                                   (I10 b16 (IntKind.wrap IntKind.i64 (n13 + 1)) w17 ∧
                                                    I11 b16 (IntKind.wrap IntKind.i64 (n13 + 1)) w17 < I11 b12 n13 w14))) ∧
                                                 ((byteAt s9 n13 == 45) = false →
                                                   ((((byteAt s9 n13 == 46) = true →
                                                      (I10 b16 (IntKind.wrap IntKind.i64 (n13 + 1)) w17 ∧
                                                       I11 b16 (IntKind.wrap IntKind.i64 (n13 + 1)) w17 < I11 b12 n13 w14))) ∧
                                                    ((byteAt s9 n13 == 46) = false →
                                                      I18 w17)))))))) ∧
                                           (decide (byteAt s9 n13 ≥ 48) = false →
                                             ((((byteAt s9 n13 == 45) = true →
                                                (I10 b16 (IntKind.wrap IntKind.i64 (n13 + 1)) w17 ∧
                                                 I11 b16 (IntKind.wrap IntKind.i64 (n13 + 1)) w17 < I11 b12 n13 w14))) ∧
                                              ((byteAt s9 n13 == 45) = false →
                                                ((((byteAt s9 n13 == 46) = true →
                                                   (I10 b16 (IntKind.wrap IntKind.i64 (n13 + 1)) w17 ∧
                                                    I11 b16 (IntKind.wrap IntKind.i64 (n13 + 1)) w17 < I11 b12 n13 w14))) ∧
                                                 ((byteAt s9 n13 == 46) = false →
                                                   I18 w17)))))))) ∧
                                       ∀ w19 : World,
                                       (I18 w19 →
                                         ((((n6 == 0) = true →
                                            R (Value.bool false) w19)) ∧
                                          ((n6 == 0) = false →
                                            (((decide (byteAt s9 n13 ≥ 65) = true →
                                               (((decide (byteAt s9 n13 ≤ 90) = true →
                                                  (I10 b16 (IntKind.wrap IntKind.i64 (n13 + 1)) w19 ∧
                                                   I11 b16 (IntKind.wrap IntKind.i64 (n13 + 1)) w19 < I11 b12 n13 w14))) ∧
                                                (decide (byteAt s9 n13 ≤ 90) = false →
                                                  ((((byteAt s9 n13 == 95) = true →
                                                     (I10 b16 (IntKind.wrap IntKind.i64 (n13 + 1)) w19 ∧
                                                      I11 b16 (IntKind.wrap IntKind.i64 (n13 + 1)) w19 < I11 b12 n13 w14))) ∧
                                                   ((byteAt s9 n13 == 95) = false →
                                                     ((((!byteAt s9 n13 == 126) = true →
                                                        R (Value.bool false) w19)) ∧
                                                      ((!byteAt s9 n13 == 126) = false →
                                                        (I10 b16 (IntKind.wrap IntKind.i64 (n13 + 1)) w19 ∧
                                                         I11 b16 (IntKind.wrap IntKind.i64 (n13 + 1)) w19 < I11 b12 n13 w14))))))))) ∧
                                             (decide (byteAt s9 n13 ≥ 65) = false →
                                               ((((byteAt s9 n13 == 95) = true →
                                                  (I10 b16 (IntKind.wrap IntKind.i64 (n13 + 1)) w19 ∧
                                                   I11 b16 (IntKind.wrap IntKind.i64 (n13 + 1)) w19 < I11 b12 n13 w14))) ∧
                                                ((byteAt s9 n13 == 95) = false →
                                                  ((((!byteAt s9 n13 == 126) = true →
                                                     R (Value.bool false) w19)) ∧
                                                   ((!byteAt s9 n13 == 126) = false →
                                                     (I10 b16 (IntKind.wrap IntKind.i64 (n13 + 1)) w19 ∧
                                                      I11 b16 (IntKind.wrap IntKind.i64 (n13 + 1)) w19 < I11 b12 n13 w14)))))))))))))))) ∧
                                (decide (n13 < (↑(ByteArray.size s9) : Int)) = false →
                                  ((((n6 == 0) = true →
                                     ((((!b12) = true →
                                        R (Value.bool false) w14)) ∧
                                      ((!b12) = false →
                                        (((0 : Int) ≤ (0 : Int) ∧
                                          0 < (↑(ByteArray.size s9) : Int)) ∧
                                         ((((byteAt s9 0 == 45) = true →
                                            R (Value.bool false) w14)) ∧
                                          ((byteAt s9 0 == 45) = false →
                                            (I4 (IntKind.wrap IntKind.i64 (n6 + 1)) w14 ∧
                                             I5 (IntKind.wrap IntKind.i64 (n6 + 1)) w14 < I5 n6 w7)))))))) ∧
                                   ((n6 == 0) = false →
                                     (I4 (IntKind.wrap IntKind.i64 (n6 + 1)) w14 ∧
                                      I5 (IntKind.wrap IntKind.i64 (n6 + 1)) w14 < I5 n6 w7)))))))))))))))))))) ∧
            (decide (n6 < (↑l3.2 : Int)) = false →
              R (Value.bool true) w7))))))))
theorem vc_cartularyref22_Path_ok {x0 : ByteArray} {w : World} {R : Value → World → Prop} {R' : Ending → World → Prop} (h : vc_cartularyref22_Path x0 w R) (hR : ∀ v w', R v w' → R' (.returned v) w') :
    Calls Tryd.prog 14 #[.string x0] w R' :=
  calls_of_body (vs := [(.string x0, false)]) (ty := ty) (ann := ⟨[(14, [(5, .bool)]), (15, [])], [(4, [(14, .int .i64)]), (10, [(5, .bool), (6, .int .i64)])], [], []⟩) (c := Tryd.f14.body.getD .skip) (by kernel_rfl) Tryd.func14 (by kernel_rfl) (by kernel_rfl) (Eq.mp (by kernel_rfl) h) hR
/-- cartularyref22.FilePath -/
def vc_cartularyref22_FilePath (x0 : ByteArray) (w : World) (R : Value → World → Prop) : Prop :=
  Calls Tryd.prog (35 : Nat) (Array.mk [Value.string x0]) (w) (fun e1 w2 =>
    ∃ b3 : Bool, (e1 = Ending.returned (Value.bool b3) ∧
     ((((!b3) = true →
        R (Value.bool false) w2)) ∧
      ((!b3) = false →
        ∃ I4 : Int → World → Prop, ∃ I5 : Int → World → Nat, (I4 0 w2 ∧
         ∀ n6 : Int,
         ∀ w7 : World,
         (I4 n6 w7 →
           (((decide (n6 < (↑(ByteArray.size x0) : Int)) = true →
              ((0 ≤ n6 ∧
                n6 < (↑(ByteArray.size x0) : Int)) ∧
               Calls Tryd.prog (36 : Nat) (Array.mk [Value.string (ByteArray.mk (Array.mk [34, 39, 42, 60, 62, 63, 124, 92, 58, 59])), Value.int IntKind.u8 (byteAt x0 n6)]) (w7) (fun e8 w9 =>
                 ∃ n10 : Int, (e8 = Ending.returned (Value.int IntKind.i64 n10) ∧
                  (((decide (n10 ≥ 0) = true →
                     R (Value.bool false) w9)) ∧
                   (decide (n10 ≥ 0) = false →
                     ((0 ≤ n6 ∧
                       n6 < (↑(ByteArray.size x0) : Int)) ∧
                      ((((byteAt x0 n6 == 96) = true →
                         R (Value.bool false) w9)) ∧
                       ((byteAt x0 n6 == 96) = false →
                         (I4 (IntKind.wrap IntKind.i64 (n6 + 1)) w9 ∧
                          I5 (IntKind.wrap IntKind.i64 (n6 + 1)) w9 < I5 n6 w7))))))))))) ∧
            (decide (n6 < (↑(ByteArray.size x0) : Int)) = false →
              Calls Tryd.prog (34 : Nat) (Array.mk [Value.string x0]) (w7) (fun e11 w12 =>
                ∃ l13 : Sl, (e11 = Ending.returned (Value.slice l13.1 l13.2 l13.3) ∧
                 ∃ I14 : Int → World → Prop, ∃ I15 : Int → World → Nat, (I14 0 w12 ∧
                  ∀ n16 : Int,
                  ∀ w17 : World,
                  (I14 n16 w17 →
                    (((decide (n16 < (↑l13.2 : Int)) = true →
                       ((0 ≤ n16 ∧
                         n16 < (↑l13.2 : Int)) ∧
                        ∃ a18 : Addr, (l13.1 = some a18 ∧
                         ∃ s19 : ByteArray, (World.cell? w17 (Addr.add a18 (Int.toNat n16 * 1)) = some (Value.string s19) ∧
                          Calls Tryd.prog (37 : Nat) (Array.mk [Value.string s19, Value.string (ByteArray.mk (Array.mk [46]))]) (w17) (fun e20 w21 =>
                            ∃ b22 : Bool, (e20 = Ending.returned (Value.bool b22) ∧
                             (((b22 = true →
                                R (Value.bool false) w21)) ∧
                              (b22 = false →
                                (I14 (IntKind.wrap IntKind.i64 (n16 + 1)) w21 ∧
                                 I15 (IntKind.wrap IntKind.i64 (n16 + 1)) w21 < I15 n16 w17)))))))))) ∧
                     (decide (n16 < (↑l13.2 : Int)) = false →
                       R (Value.bool true) w17))))))))))))))
theorem vc_cartularyref22_FilePath_ok {x0 : ByteArray} {w : World} {R : Value → World → Prop} {R' : Ending → World → Prop} (h : vc_cartularyref22_FilePath x0 w R) (hR : ∀ v w', R v w' → R' (.returned v) w') :
    Calls Tryd.prog 15 #[.string x0] w R' :=
  calls_of_body (vs := [(.string x0, false)]) (ty := ty) (ann := ⟨[], [(4, [(3, .int .i64)]), (9, [(29, .int .i64)])], [], []⟩) (c := Tryd.f15.body.getD .skip) (by kernel_rfl) Tryd.func15 (by kernel_rfl) (by kernel_rfl) (Eq.mp (by kernel_rfl) h) hR
end Go.Proofs.YtmhlmdnhpfhoeaaDoor

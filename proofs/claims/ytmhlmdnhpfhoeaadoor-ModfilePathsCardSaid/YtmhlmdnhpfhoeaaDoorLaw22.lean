/- Formulas of 4 Go functions of this seat (written by a program of the author's, vcgen.py), and that each is enough for the call. No condition. -/
import Derived.Test.YtmhlmdnhpfhoeaaDoorTy
import Derived.Test.YtmhlmdnhpfhoeaaDoorProg
set_option linter.unusedVariables false
namespace Go.Proofs.YtmhlmdnhpfhoeaaDoor
open Go Vc Go.Proofs
set_option maxRecDepth 100000
/-- cartularylaw22.awake -/
def vc_cartularylaw22_awake (w : World) (R : Value → World → Prop) : Prop :=
  Calls Tryd.prog (17 : Nat) (Array.mk [Value.string (ByteArray.mk (Array.mk [(109 : UInt8), (111 : UInt8), (100 : UInt8), (117 : UInt8), (108 : UInt8), (101 : UInt8), (32 : UInt8), (101 : UInt8), (120 : UInt8), (97 : UInt8), (109 : UInt8), (112 : UInt8), (108 : UInt8), (101 : UInt8), (46 : UInt8), (99 : UInt8), (111 : UInt8), (109 : UInt8), (47 : UInt8), (97 : UInt8), (32 : UInt8), (47 : UInt8), (47 : UInt8), (32 : UInt8), (120 : UInt8), (10 : UInt8)]))]) (w) (fun e1 w2 =>
    ∃ s3 : ByteArray, ∃ n4 : Int, ∃ n5 : Int, (e1 = Ending.returned (Value.tuple (Array.mk [Value.string s3, Value.int IntKind.i64 n4, Value.int IntKind.i64 n5])) ∧
     Calls Tryd.prog (17 : Nat) (Array.mk [Value.string (ByteArray.mk (Array.mk [(10 : UInt8), (34 : UInt8), (120 : UInt8), (10 : UInt8)]))]) (w2) (fun e6 w7 =>
       ∃ s8 : ByteArray, ∃ n9 : Int, ∃ n10 : Int, (e6 = Ending.returned (Value.tuple (Array.mk [Value.string s8, Value.int IntKind.i64 n9, Value.int IntKind.i64 n10])) ∧
        ((((n5 == 0) = true →
           ((((n4 == 0) = true →
              ((((ByteArray.toList s3 == ByteArray.toList (ByteArray.mk (Array.mk [101, 120, 97, 109, 112, 108, 101, 46, 99, 111, 109, 47, 97]))) = true →
                 ((((n9 == 2) = true →
                    R (Value.bool (n10 == 3)) w7)) ∧
                  ((n9 == 2) = false →
                    R (Value.bool false) w7)))) ∧
               ((ByteArray.toList s3 == ByteArray.toList (ByteArray.mk (Array.mk [101, 120, 97, 109, 112, 108, 101, 46, 99, 111, 109, 47, 97]))) = false →
                 R (Value.bool false) w7)))) ∧
            ((n4 == 0) = false →
              R (Value.bool false) w7)))) ∧
         ((n5 == 0) = false →
           R (Value.bool false) w7))))))
theorem vc_cartularylaw22_awake_ok {w : World} {R : Value → World → Prop} {R' : Ending → World → Prop} (h : vc_cartularylaw22_awake w R) (hR : ∀ v w', R v w' → R' (.returned v) w') :
    Calls Tryd.prog 11 #[] w R' :=
  calls_of_body (vs := []) (ty := ty) (ann := ⟨[], [], [], []⟩) (c := Tryd.f11.body.getD .skip) (by kernel_rfl) Tryd.func11 (by kernel_rfl) (by kernel_rfl) (Eq.mp (by kernel_rfl) h) hR
/-- cartularylaw22.ModfileJoins -/
def vc_cartularylaw22_ModfileJoins (x0 : ByteArray) (x1 : ByteArray) (w : World) (R : Value → World → Prop) : Prop :=
  Calls Tryd.prog (9 : Nat) (Array.mk [Value.string x0, Value.int IntKind.i64 2000]) (w) (fun e1 w2 =>
    ∃ s3 : ByteArray, (e1 = Ending.returned (Value.string s3) ∧
     (ByteArray.size s3 + ByteArray.size (ByteArray.mk (Array.mk [10])) ≤ 9223372036854775807 ∧
      Calls Tryd.prog (9 : Nat) (Array.mk [Value.string x1, Value.int IntKind.i64 2000]) (w2) (fun e4 w5 =>
        ∃ s6 : ByteArray, (e4 = Ending.returned (Value.string s6) ∧
         Calls Tryd.prog (10 : Nat) (Array.mk [Value.string (s3 ++ ByteArray.mk (Array.mk [10]))]) (w5) (fun e7 w8 =>
           ∃ l9 : Sl, ∃ n10 : Int, ∃ n11 : Int, (e7 = Ending.returned (Value.tuple (Array.mk [Value.slice l9.1 l9.2 l9.3, Value.int IntKind.i64 n10, Value.int IntKind.i64 n11])) ∧
            Calls Tryd.prog (10 : Nat) (Array.mk [Value.string s6]) (w8) (fun e12 w13 =>
              ∃ l14 : Sl, ∃ n15 : Int, ∃ n16 : Int, (e12 = Ending.returned (Value.tuple (Array.mk [Value.slice l14.1 l14.2 l14.3, Value.int IntKind.i64 n15, Value.int IntKind.i64 n16])) ∧
               (ByteArray.size (s3 ++ ByteArray.mk (Array.mk [10])) + ByteArray.size s6 ≤ 9223372036854775807 ∧
                Calls Tryd.prog (10 : Nat) (Array.mk [Value.string (s3 ++ ByteArray.mk (Array.mk [10]) ++ s6)]) (w13) (fun e17 w18 =>
                  ∃ l19 : Sl, ∃ n20 : Int, ∃ n21 : Int, (e17 = Ending.returned (Value.tuple (Array.mk [Value.slice l19.1 l19.2 l19.3, Value.int IntKind.i64 n20, Value.int IntKind.i64 n21])) ∧
                   ((((n11 != 0) = true →
                      Calls Tryd.prog (11 : Nat) (Array.mk []) (w18) (fun e22 w23 =>
                        ∃ b24 : Bool, (e22 = Ending.returned (Value.bool b24) ∧
                         (((b24 = true →
                            R (Value.bool ((↑l9.2 : Int) == 0)) w23)) ∧
                          (b24 = false →
                            R (Value.bool false) w23)))))) ∧
                    ((n11 != 0) = false →
                      ∃ I25 : Int → Int → World → Prop, ∃ I26 : Int → Int → World → Nat, (I25 0 0 w18 ∧
                       ∀ n27 : Int,
                       ∀ n28 : Int,
                       ∀ w29 : World,
                       (I25 n27 n28 w29 →
                         (((decide (n28 < (↑(ByteArray.size (s3 ++ ByteArray.mk (Array.mk [10]))) : Int)) = true →
                            ((0 ≤ n28 ∧
                              n28 < (↑(ByteArray.size (s3 ++ ByteArray.mk (Array.mk [10]))) : Int)) ∧
                             ((((byteAt (s3 ++ ByteArray.mk (Array.mk [10])) n28 == 10) = true →
                                (I25 (IntKind.wrap IntKind.i64 (n27 + 1)) (IntKind.wrap IntKind.i64 (n28 + 1)) w29 ∧
                                 I26 (IntKind.wrap IntKind.i64 (n27 + 1)) (IntKind.wrap IntKind.i64 (n28 + 1)) w29 < I26 n27 n28 w29))) ∧
                              ((byteAt (s3 ++ ByteArray.mk (Array.mk [10])) n28 == 10) = false →
                                (I25 n27 (IntKind.wrap IntKind.i64 (n28 + 1)) w29 ∧
                                 I26 n27 (IntKind.wrap IntKind.i64 (n28 + 1)) w29 < I26 n27 n28 w29)))))) ∧
                          (decide (n28 < (↑(ByteArray.size (s3 ++ ByteArray.mk (Array.mk [10]))) : Int)) = false →
                            ((((n16 != 0) = true →
                               Calls Tryd.prog (11 : Nat) (Array.mk []) (w29) (fun e30 w31 =>
                                 ∃ b32 : Bool, (e30 = Ending.returned (Value.bool b32) ∧
                                  (((b32 = true →
                                     ((((n21 == n16) = true →
                                        ((((n20 == IntKind.wrap IntKind.i64 (n15 + n27)) = true →
                                           R (Value.bool ((↑l19.2 : Int) == 0)) w31)) ∧
                                         ((n20 == IntKind.wrap IntKind.i64 (n15 + n27)) = false →
                                           R (Value.bool false) w31)))) ∧
                                      ((n21 == n16) = false →
                                        R (Value.bool false) w31)))) ∧
                                   (b32 = false →
                                     R (Value.bool false) w31)))))) ∧
                             ((n16 != 0) = false →
                               ((((n21 != 0) = true →
                                  R (Value.bool false) w29)) ∧
                                ((n21 != 0) = false →
                                  (((((↑l19.2 : Int) != IntKind.wrap IntKind.i64 ((↑l9.2 : Int) + (↑l14.2 : Int))) = true →
                                     R (Value.bool false) w29)) ∧
                                   (((↑l19.2 : Int) != IntKind.wrap IntKind.i64 ((↑l9.2 : Int) + (↑l14.2 : Int))) = false →
                                     ∃ I33 : Int → World → Prop, ∃ I34 : Int → World → Nat, (I33 0 w29 ∧
                                      ∀ n35 : Int,
                                      ∀ w36 : World,
                                      (I33 n35 w36 →
                                        (((decide (n35 < (↑l19.2 : Int)) = true →
                                           ((0 ≤ n35 ∧
                                             n35 < (↑l19.2 : Int)) ∧
                                            ∃ a37 : Addr, (l19.1 = some a37 ∧
                                             ∃ s38 : ByteArray, ∃ l39 : Sl, ∃ n40 : Int, (Sem.run Tryd.prog (loadVar 30 (Addr.add a37 (Int.toNat n35 * 3))) w36 = Result.ok (Value.agg (Array.mk [Value.string s38, Value.slice l39.1 l39.2 l39.3, Value.int IntKind.i64 n40])) w36 ∧
                                              ∀ w41 : World,
                                              (w41 = World.alloc w36 (Obj.cells (Array.mk [Value.string (ByteArray.mk (Array.mk [])), Value.slice none 0 0, Value.int IntKind.i64 0]) 30) →
                                                ∃ w42 : World, (Sem.run Tryd.prog (storeVar 30 (Addr.mk (Array.size (World.heap w36)) 0 none) (Value.agg (Array.mk [Value.string s38, Value.slice l39.1 l39.2 l39.3, Value.int IntKind.i64 n40]))) w41 = Result.ok PUnit.unit w42 ∧
                                                 (((decide (n35 < (↑l9.2 : Int)) = true →
                                                    ∃ s43 : ByteArray, (World.cell? w42 (Addr.mk (Array.size (World.heap w36)) 0 none) = some (Value.string s43) ∧
                                                     ((0 ≤ n35 ∧
                                                       n35 < (↑l9.2 : Int)) ∧
                                                      ∃ a44 : Addr, (l9.1 = some a44 ∧
                                                       ∃ s45 : ByteArray, (World.cell? w42 (Addr.add a44 (Int.toNat n35 * 3)) = some (Value.string s45) ∧
                                                        ((((!ByteArray.toList s43 == ByteArray.toList s45) = true →
                                                           ∀ w46 : World,
                                                           (Drew w42 w46 →
                                                             R (Value.bool false) w46))) ∧
                                                         ((!ByteArray.toList s43 == ByteArray.toList s45) = false →
                                                           ∃ n47 : Int, (World.cell? w42 (Addr.mk (Array.size (World.heap w36)) 2 none) = some (Value.int IntKind.i64 n47) ∧
                                                            ((0 ≤ n35 ∧
                                                              n35 < (↑l9.2 : Int)) ∧
                                                             ∃ a48 : Addr, (l9.1 = some a48 ∧
                                                              ∃ n49 : Int, (World.cell? w42 (Addr.add (Addr.add a48 (Int.toNat n35 * 3)) 2) = some (Value.int IntKind.i64 n49) ∧
                                                               ((((n47 != n49) = true →
                                                                  ∀ w50 : World,
                                                                  (Drew w42 w50 →
                                                                    R (Value.bool false) w50))) ∧
                                                                ((n47 != n49) = false →
                                                                  (((decide (n35 ≥ (↑l9.2 : Int)) = true →
                                                                     ∃ s51 : ByteArray, (World.cell? w42 (Addr.mk (Array.size (World.heap w36)) 0 none) = some (Value.string s51) ∧
                                                                      ((0 ≤ IntKind.wrap IntKind.i64 (n35 - (↑l9.2 : Int)) ∧
                                                                        IntKind.wrap IntKind.i64 (n35 - (↑l9.2 : Int)) < (↑l14.2 : Int)) ∧
                                                                       ∃ a52 : Addr, (l14.1 = some a52 ∧
                                                                        ∃ s53 : ByteArray, (World.cell? w42 (Addr.add a52 (Int.toNat (IntKind.wrap IntKind.i64 (n35 - (↑l9.2 : Int))) * 3)) = some (Value.string s53) ∧
                                                                         ((((!ByteArray.toList s51 == ByteArray.toList s53) = true →
                                                                            ∀ w54 : World,
                                                                            (Drew w42 w54 →
                                                                              R (Value.bool false) w54))) ∧
                                                                          ((!ByteArray.toList s51 == ByteArray.toList s53) = false →
                                                                            ∃ n55 : Int, (World.cell? w42 (Addr.mk (Array.size (World.heap w36)) 2 none) = some (Value.int IntKind.i64 n55) ∧
                                                                             ((0 ≤ IntKind.wrap IntKind.i64 (n35 - (↑l9.2 : Int)) ∧
                                                                               IntKind.wrap IntKind.i64 (n35 - (↑l9.2 : Int)) < (↑l14.2 : Int)) ∧
                                                                              ∃ a56 : Addr, (l14.1 = some a56 ∧
                                                                               ∃ n57 : Int, (World.cell? w42 (Addr.add (Addr.add a56 (Int.toNat (IntKind.wrap IntKind.i64 (n35 - (↑l9.2 : Int))) * 3)) 2) = some (Value.int IntKind.i64 n57) ∧
                                                                                ∀ w58 : World,
                                                                                (Drew w42 w58 →
                                                                                  ((((n55 != IntKind.wrap IntKind.i64 (n57 + n27)) = true →
                                                                                     R (Value.bool false) w58)) ∧
                                                                                   ((n55 != IntKind.wrap IntKind.i64 (n57 + n27)) = false →
                                                                                     (I33 (IntKind.wrap IntKind.i64 (n35 + 1)) w58 ∧
                                                                                      I34 (IntKind.wrap IntKind.i64 (n35 + 1)) w58 < I34 n35 w36)))))))))))))))) ∧
                                                                   (decide (n35 ≥ (↑l9.2 : Int)) = false →
                                                                     ∀ w59 : World,
                                                                     (Drew w42 w59 →
                                                                       (I33 (IntKind.wrap IntKind.i64 (n35 + 1)) w59 ∧
                                                                        I34 (IntKind.wrap IntKind.i64 (n35 + 1)) w59 < I34 n35 w36)))))))))))))))))) ∧
                                                  (decide (n35 < (↑l9.2 : Int)) = false →
                                                    (((decide (n35 ≥ (↑l9.2 : Int)) = true →
                                                       ∃ s60 : ByteArray, (World.cell? w42 (Addr.mk (Array.size (World.heap w36)) 0 none) = some (Value.string s60) ∧
                                                        ((0 ≤ IntKind.wrap IntKind.i64 (n35 - (↑l9.2 : Int)) ∧
                                                          IntKind.wrap IntKind.i64 (n35 - (↑l9.2 : Int)) < (↑l14.2 : Int)) ∧
                                                         ∃ a61 : Addr, (l14.1 = some a61 ∧
                                                          ∃ s62 : ByteArray, (World.cell? w42 (Addr.add a61 (Int.toNat (IntKind.wrap IntKind.i64 (n35 - (↑l9.2 : Int))) * 3)) = some (Value.string s62) ∧
                                                           ((((!ByteArray.toList s60 == ByteArray.toList s62) = true →
                                                              ∀ w63 : World,
                                                              (Drew w42 w63 →
                                                                R (Value.bool false) w63))) ∧
                                                            ((!ByteArray.toList s60 == ByteArray.toList s62) = false →
                                                              ∃ n64 : Int, (World.cell? w42 (Addr.mk (Array.size (World.heap w36)) 2 none) = some (Value.int IntKind.i64 n64) ∧
                                                               ((0 ≤ IntKind.wrap IntKind.i64 (n35 - (↑l9.2 : Int)) ∧
                                                                 IntKind.wrap IntKind.i64 (n35 - (↑l9.2 : Int)) < (↑l14.2 : Int)) ∧
                                                                ∃ a65 : Addr, (l14.1 = some a65 ∧
                                                                 ∃ n66 : Int, (World.cell? w42 (Addr.add (Addr.add a65 (Int.toNat (IntKind.wrap IntKind.i64 (n35 - (↑l9.2 : Int))) * 3)) 2) = some (Value.int IntKind.i64 n66) ∧
                                                                  ∀ w67 : World,
                                                                  (Drew w42 w67 →
                                                                    ((((n64 != IntKind.wrap IntKind.i64 (n66 + n27)) = true →
                                                                       R (Value.bool false) w67)) ∧
                                                                     ((n64 != IntKind.wrap IntKind.i64 (n66 + n27)) = false →
                                                                       (I33 (IntKind.wrap IntKind.i64 (n35 + 1)) w67 ∧
                                                                        I34 (IntKind.wrap IntKind.i64 (n35 + 1)) w67 < I34 n35 w36)))))))))))))))) ∧
                                                     (decide (n35 ≥ (↑l9.2 : Int)) = false →
                                                       ∀ w68 : World,
                                                       (Drew w42 w68 →
                                                         (I33 (IntKind.wrap IntKind.i64 (n35 + 1)) w68 ∧
                                                          I34 (IntKind.wrap IntKind.i64 (n35 + 1)) w68 < I34 n35 w36))))))))))))) ∧
                                         (decide (n35 < (↑l19.2 : Int)) = false →
                                           Calls Tryd.prog (11 : Nat) (Array.mk []) (w36) (fun e69 w70 =>
                                             ∃ b71 : Bool, (e69 = Ending.returned (Value.bool b71) ∧
                                              R (Value.bool b71) w70))))))))))))))))))))))))))))))
theorem vc_cartularylaw22_ModfileJoins_ok {x0 : ByteArray} {x1 : ByteArray} {w : World} {R : Value → World → Prop} {R' : Ending → World → Prop} (h : vc_cartularylaw22_ModfileJoins x0 x1 w R) (hR : ∀ v w', R v w' → R' (.returned v) w') :
    Calls Tryd.prog 3 #[.string x0, .string x1] w R' :=
  calls_of_body (vs := [(.string x0, false), (.string x1, false)]) (ty := ty) (ann := ⟨[], [(10, [(14, .int .i64), (15, .int .i64)]), (19, [(97, .int .i64)])], [(21, .quiet)], []⟩) (c := Tryd.f3.body.getD .skip) (by kernel_rfl) Tryd.func3 (by kernel_rfl) (by kernel_rfl) (Eq.mp (by kernel_rfl) h) hR
/-- cartularylaw22.ModfileParents -/
def vc_cartularylaw22_ModfileParents (x0 : ByteArray) (w : World) (R : Value → World → Prop) : Prop :=
  ∃ I1 : World → Prop, (Calls Tryd.prog (12 : Nat) (Array.mk [Value.string x0]) (w) (fun e2 w3 =>
     ∃ b4 : Bool, (e2 = Ending.returned (Value.bool b4) ∧
      (((b4 = true →
         ∃ I5 : Int → World → Prop, ∃ I6 : Int → World → Nat, (I5 0 w3 ∧
          ∀ n7 : Int,
          ∀ w8 : World,
          (I5 n7 w8 →
            (((decide (n7 < (↑(ByteArray.size x0) : Int)) = true →
               ((0 ≤ n7 ∧
                 n7 < (↑(ByteArray.size x0) : Int)) ∧
                ((((byteAt x0 n7 == 47) = true →
                   ((0 ≤ n7 ∧
                     n7 ≤ (↑(ByteArray.size x0) : Int)) ∧
                    Calls Tryd.prog (12 : Nat) (Array.mk [Value.string (ByteArray.extract x0 0 (Int.toNat n7))]) (w8) (fun e9 w10 =>
                      ∃ b11 : Bool, (e9 = Ending.returned (Value.bool b11) ∧
                       ((((!b11) = true →
                          R (Value.bool false) w10)) ∧
                        ((!b11) = false →
                          (I5 (IntKind.wrap IntKind.i64 (n7 + 1)) w10 ∧
                           I6 (IntKind.wrap IntKind.i64 (n7 + 1)) w10 < I6 n7 w8)))))))) ∧
                 ((byteAt x0 n7 == 47) = false →
                   (I5 (IntKind.wrap IntKind.i64 (n7 + 1)) w8 ∧
                    I6 (IntKind.wrap IntKind.i64 (n7 + 1)) w8 < I6 n7 w8)))))) ∧
             (decide (n7 < (↑(ByteArray.size x0) : Int)) = false →
               Calls Tryd.prog (13 : Nat) (Array.mk [Value.string x0]) (w8) (fun e12 w13 =>
                 ∃ b14 : Bool, (e12 = Ending.returned (Value.bool b14) ∧
                  ((((!b14) = true →
                     R (Value.bool false) w13)) ∧
                   ((!b14) = false →
                     I1 w13)))))))))) ∧
       (b4 = false →
         I1 w3)))) ∧
   ∀ w15 : World,
   (I1 w15 →
     Calls Tryd.prog (11 : Nat) (Array.mk []) (w15) (fun e16 w17 =>
       ∃ b18 : Bool, (e16 = Ending.returned (Value.bool b18) ∧
        (((b18 = true →
           Calls Tryd.prog (13 : Nat) (Array.mk [Value.string x0]) (w17) (fun e19 w20 =>
             ∃ b21 : Bool, (e19 = Ending.returned (Value.bool b21) ∧
              ((((!b21) = true →
                 R (Value.bool true) w20)) ∧
               ((!b21) = false →
                 (((decide ((↑(ByteArray.size x0) : Int) > 0) = true →
                    (((0 : Int) ≤ (0 : Int) ∧
                      0 < (↑(ByteArray.size x0) : Int)) ∧
                     ((((byteAt x0 0 != 47) = true →
                        ((0 ≤ IntKind.wrap IntKind.i64 ((↑(ByteArray.size x0) : Int) - 1) ∧
                          IntKind.wrap IntKind.i64 ((↑(ByteArray.size x0) : Int) - 1) < (↑(ByteArray.size x0) : Int)) ∧
                         R (Value.bool (byteAt x0 (IntKind.wrap IntKind.i64 ((↑(ByteArray.size x0) : Int) - 1)) != 47)) w20))) ∧
                      ((byteAt x0 0 != 47) = false →
                        R (Value.bool false) w20))))) ∧
                  (decide ((↑(ByteArray.size x0) : Int) > 0) = false →
                    R (Value.bool false) w20)))))))) ∧
         (b18 = false →
           R (Value.bool false) w17))))))
theorem vc_cartularylaw22_ModfileParents_ok {x0 : ByteArray} {w : World} {R : Value → World → Prop} {R' : Ending → World → Prop} (h : vc_cartularylaw22_ModfileParents x0 w R) (hR : ∀ v w', R v w' → R' (.returned v) w') :
    Calls Tryd.prog 4 #[.string x0] w R' :=
  calls_of_body (vs := [(.string x0, false)]) (ty := ty) (ann := ⟨[(9, [])], [(3, [(3, .int .i64)])], [], []⟩) (c := Tryd.f4.body.getD .skip) (by kernel_rfl) Tryd.func4 (by kernel_rfl) (by kernel_rfl) (Eq.mp (by kernel_rfl) h) hR
/-- cartularylaw22.ModfilePaths -/
def vc_cartularylaw22_ModfilePaths (x0 : ByteArray) (w : World) (R : Value → World → Prop) : Prop :=
  Calls Tryd.prog (14 : Nat) (Array.mk [Value.string x0]) (w) (fun e1 w2 =>
    ∃ b3 : Bool, (e1 = Ending.returned (Value.bool b3) ∧
     Calls Tryd.prog (11 : Nat) (Array.mk []) (w2) (fun e4 w5 =>
       ∃ b6 : Bool, (e4 = Ending.returned (Value.bool b6) ∧
        ((((!b6) = true →
           R (Value.bool false) w5)) ∧
         ((!b6) = false →
           Calls Tryd.prog (12 : Nat) (Array.mk [Value.string x0]) (w5) (fun e7 w8 =>
             ∃ b9 : Bool, (e7 = Ending.returned (Value.bool b9) ∧
              ((((!b9 == b3) = true →
                 R (Value.bool false) w8)) ∧
               ((!b9 == b3) = false →
                 Calls Tryd.prog (13 : Nat) (Array.mk [Value.string x0]) (w8) (fun e10 w11 =>
                   ∃ b12 : Bool, (e10 = Ending.returned (Value.bool b12) ∧
                    Calls Tryd.prog (15 : Nat) (Array.mk [Value.string x0]) (w11) (fun e13 w14 =>
                      ∃ b15 : Bool, (e13 = Ending.returned (Value.bool b15) ∧
                       ((((!b12 == b15) = true →
                          R (Value.bool false) w14)) ∧
                        ((!b12 == b15) = false →
                          Calls Tryd.prog (16 : Nat) (Array.mk [Value.string x0]) (w14) (fun e16 w17 =>
                            ∃ s18 : ByteArray, (e16 = Ending.returned (Value.string s18) ∧
                             (ByteArray.size (ByteArray.mk (Array.mk [109, 111, 100, 117, 108, 101, 32])) + ByteArray.size x0 ≤ 9223372036854775807 ∧
                              (ByteArray.size (ByteArray.mk (Array.mk [109, 111, 100, 117, 108, 101, 32]) ++ x0) + ByteArray.size (ByteArray.mk (Array.mk [10])) ≤ 9223372036854775807 ∧
                               ((((!ByteArray.toList s18 == ByteArray.toList (ByteArray.mk (Array.mk [109, 111, 100, 117, 108, 101, 32]) ++ x0 ++ ByteArray.mk (Array.mk [10]))) = true →
                                  R (Value.bool false) w17)) ∧
                                ((!ByteArray.toList s18 == ByteArray.toList (ByteArray.mk (Array.mk [109, 111, 100, 117, 108, 101, 32]) ++ x0 ++ ByteArray.mk (Array.mk [10]))) = false →
                                  ((((!b3) = true →
                                     R (Value.bool true) w17)) ∧
                                   ((!b3) = false →
                                     Calls Tryd.prog (16 : Nat) (Array.mk [Value.string x0]) (w17) (fun e19 w20 =>
                                       ∃ s21 : ByteArray, (e19 = Ending.returned (Value.string s21) ∧
                                        Calls Tryd.prog (17 : Nat) (Array.mk [Value.string s21]) (w20) (fun e22 w23 =>
                                          ∃ s24 : ByteArray, ∃ n25 : Int, ∃ n26 : Int, (e22 = Ending.returned (Value.tuple (Array.mk [Value.string s24, Value.int IntKind.i64 n25, Value.int IntKind.i64 n26])) ∧
                                           ((((ByteArray.toList s24 == ByteArray.toList x0) = true →
                                              ((((n25 == 0) = true →
                                                 R (Value.bool (n26 == 0)) w23)) ∧
                                               ((n25 == 0) = false →
                                                 R (Value.bool false) w23)))) ∧
                                            ((ByteArray.toList s24 == ByteArray.toList x0) = false →
                                              R (Value.bool false) w23))))))))))))))))))))))))))))))
theorem vc_cartularylaw22_ModfilePaths_ok {x0 : ByteArray} {w : World} {R : Value → World → Prop} {R' : Ending → World → Prop} (h : vc_cartularylaw22_ModfilePaths x0 w R) (hR : ∀ v w', R v w' → R' (.returned v) w') :
    Calls Tryd.prog 5 #[.string x0] w R' :=
  calls_of_body (vs := [(.string x0, false)]) (ty := ty) (ann := ⟨[], [], [], []⟩) (c := Tryd.f5.body.getD .skip) (by kernel_rfl) Tryd.func5 (by kernel_rfl) (by kernel_rfl) (Eq.mp (by kernel_rfl) h) hR
end Go.Proofs.YtmhlmdnhpfhoeaaDoor

/- Formulas of 1 Go functions of this seat (written by a program of the author's, vcgen.py), and that each is enough for the call. No condition. -/
import Derived.Test.YtoagdpjickippaaDoorTy
import Derived.Test.YtoagdpjickippaaDoorProg
set_option linter.unusedVariables false
namespace Go.Proofs.YtoagdpjickippaaDoor
open Go Vc Go.Proofs
set_option maxRecDepth 100000
/-- cartularytop.CartularyNames -/
def vc_cartularytop_CartularyNames (x0a : Option Addr) (x0n : Nat) (x0c : Nat) (w : World) (R : Value → World → Prop) : Prop :=
  Calls Tryd.prog (4 : Nat) (Array.mk [Value.agg (Array.mk [Value.int IntKind.i64 (3 : Int), Value.string (ByteArray.mk (Array.mk []))])]) (w) (fun e1 w2 =>
    ∃ s3 : ByteArray, ∃ n4 : Int, (e1 = Ending.returned (Value.tuple (Array.mk [Value.string s3, Value.int IntKind.i64 n4])) ∧
     ((((n4 != 0) = true →
        R (Value.bool false) w2)) ∧
      ((n4 != 0) = false →
        ((((!ByteArray.toList s3 == ByteArray.toList (ByteArray.mk (Array.mk [101, 54, 57, 100, 101, 50, 57, 98, 98, 50, 100, 49, 100, 54, 52, 51, 52, 98, 56, 98, 50, 57, 97, 101, 55, 55, 53, 97, 100, 56, 99, 50, 101, 52, 56, 99, 53, 51, 57, 49]))) = true →
           R (Value.bool false) w2)) ∧
         ((!ByteArray.toList s3 == ByteArray.toList (ByteArray.mk (Array.mk [101, 54, 57, 100, 101, 50, 57, 98, 98, 50, 100, 49, 100, 54, 52, 51, 52, 98, 56, 98, 50, 57, 97, 101, 55, 55, 53, 97, 100, 56, 99, 50, 101, 52, 56, 99, 53, 51, 57, 49]))) = false →
           ∀ w5 : World,
           (w5 = World.alloc w2 (Obj.cells (Array.mk []) 31) →
             ∃ I6 : Sl → World → Prop, ((∃ I7 : Sl → Int → World → Prop, ∃ I8 : Sl → Int → World → Nat, (I7 (Sl.mk (some (Addr.mk (Array.size (World.heap w2)) 0 none)) 0 0) 0 w5 ∧
               ∀ l9 : Sl,
               ∀ n10 : Int,
               ∀ w11 : World,
               (I7 l9 n10 w11 →
                 (((decide (n10 < (↑x0n : Int)) = true →
                    (((decide (n10 < 20) = true →
                       ∃ I12 : Addr → World → Prop, ((∀ w13 : World,
                        (Drew w11 w13 →
                          ∃ I14 : World → Prop, (I14 w13 ∧
                           ((0 ≤ n10 ∧
                             n10 < (↑x0n : Int)) ∧
                            ∃ a15 : Addr, (x0a = some a15 ∧
                             ∃ n16 : Int, ((∀ w17 : World,
                              (I14 w17 →
                                World.cell? w17 (Addr.add a15 (Int.toNat n10 * 2)) = some (Value.int IntKind.i64 n16))) ∧
                              ((0 ≤ n10 ∧
                                n10 < (↑x0n : Int)) ∧
                               ∃ a18 : Addr, (x0a = some a18 ∧
                                ∃ s19 : ByteArray, ((∀ w20 : World,
                                 (I14 w20 →
                                   World.cell? w20 (Addr.add (Addr.add a18 (Int.toNat n10 * 2)) 1) = some (Value.string s19))) ∧
                                 (Calls Tryd.prog (5 : Nat) (Array.mk [Value.string s19, Value.int IntKind.i64 300]) (w13) (fun e21 w22 =>
                                    ∃ s23 : ByteArray, (e21 = Ending.returned (Value.string s23) ∧
                                     (I14 w22 ∧
                                      ∀ w24 : World,
                                      (w24 = World.alloc w22 (Obj.cells (Array.mk [Value.int IntKind.i64 0, Value.string (ByteArray.mk (Array.mk []))]) 27) →
                                        (I14 w24 ∧
                                         ∃ w25 : World, (Sem.run Tryd.prog (storeVar 27 (Addr.mk (Array.size (World.heap w22)) 0 none) (Value.agg (Array.mk [Value.int IntKind.i64 n16, Value.string s23]))) w24 = Result.ok PUnit.unit w25 ∧
                                          I12 (Addr.mk (Array.size (World.heap w22)) 0 none) w25)))))) ∧
                                  ∀ w26 : World,
                                  (w26 = World.alloc w13 (Obj.cells (Array.mk [Value.int IntKind.i64 0, Value.string (ByteArray.mk (Array.mk []))]) 27) →
                                    (I14 w26 ∧
                                     Calls Tryd.prog (5 : Nat) (Array.mk [Value.string s19, Value.int IntKind.i64 300]) (w26) (fun e27 w28 =>
                                       ∃ s29 : ByteArray, (e27 = Ending.returned (Value.string s29) ∧
                                        (I14 w28 ∧
                                         ∃ w30 : World, (Sem.run Tryd.prog (storeVar 27 (Addr.mk (Array.size (World.heap w13)) 0 none) (Value.agg (Array.mk [Value.int IntKind.i64 n16, Value.string s29]))) w28 = Result.ok PUnit.unit w30 ∧
                                          I12 (Addr.mk (Array.size (World.heap w13)) 0 none) w30)))))))))))))))) ∧
                        ∀ a31 : Addr,
                        ∀ w32 : World,
                        (I12 a31 w32 →
                          ∃ n33 : Int, ∃ s34 : ByteArray, (Sem.run Tryd.prog (loadVar 27 a31) w32 = Result.ok (Value.agg (Array.mk [Value.int IntKind.i64 n33, Value.string s34])) w32 ∧
                           Calls Tryd.prog (4 : Nat) (Array.mk [Value.agg (Array.mk [Value.int IntKind.i64 n33, Value.string s34])]) (w32) (fun e35 w36 =>
                             ∃ s37 : ByteArray, ∃ n38 : Int, (e35 = Ending.returned (Value.tuple (Array.mk [Value.string s37, Value.int IntKind.i64 n38])) ∧
                              ((((n38 != 0) = true →
                                 ((((n38 != 10) = true →
                                    R (Value.bool false) w36)) ∧
                                  ((n38 != 10) = false →
                                    (I7 (Sl.mk l9.1 l9.2 l9.3) (IntKind.wrap IntKind.i64 (n10 + 1)) w36 ∧
                                     I8 (Sl.mk l9.1 l9.2 l9.3) (IntKind.wrap IntKind.i64 (n10 + 1)) w36 < I8 l9 n10 w11))))) ∧
                               ((n38 != 0) = false →
                                 ∃ n39 : Int, ∃ s40 : ByteArray, (Sem.run Tryd.prog (loadVar 27 a31) w36 = Result.ok (Value.agg (Array.mk [Value.int IntKind.i64 n39, Value.string s40])) w36 ∧
                                  Calls Tryd.prog (6 : Nat) (Array.mk [Value.agg (Array.mk [Value.int IntKind.i64 n39, Value.string s40])]) (w36) (fun e41 w42 =>
                                    ∃ s43 : ByteArray, ∃ n44 : Int, (e41 = Ending.returned (Value.tuple (Array.mk [Value.string s43, Value.int IntKind.i64 n44])) ∧
                                     ∃ I45 : Bool → Int → World → Prop, ∃ I46 : Bool → Int → World → Nat, (I45 false 0 w42 ∧
                                      ∀ b47 : Bool,
                                      ∀ n48 : Int,
                                      ∀ w49 : World,
                                      (I45 b47 n48 w49 →
                                        (((decide (n48 < (↑l9.2 : Int)) = true →
                                           ((0 ≤ n48 ∧
                                             n48 < (↑l9.2 : Int)) ∧
                                            ∃ a50 : Addr, (l9.1 = some a50 ∧
                                             ∃ s51 : ByteArray, ∃ s52 : ByteArray, (Sem.run Tryd.prog (loadVar 31 (Addr.add a50 (Int.toNat n48 * 2))) w49 = Result.ok (Value.agg (Array.mk [Value.string s51, Value.string s52])) w49 ∧
                                              ∀ w53 : World,
                                              (w53 = World.alloc w49 (Obj.cells (Array.mk [Value.string (ByteArray.mk (Array.mk [])), Value.string (ByteArray.mk (Array.mk []))]) 31) →
                                                ∃ w54 : World, (Sem.run Tryd.prog (storeVar 31 (Addr.mk (Array.size (World.heap w49)) 0 none) (Value.agg (Array.mk [Value.string s51, Value.string s52]))) w53 = Result.ok PUnit.unit w54 ∧
                                                 (((b47 = true →
                                                    (I45 true (IntKind.wrap IntKind.i64 (n48 + 1)) w54 ∧
                                                     I46 true (IntKind.wrap IntKind.i64 (n48 + 1)) w54 < I46 b47 n48 w49))) ∧
                                                  (b47 = false →
                                                    ∃ s55 : ByteArray, (World.cell? w54 (Addr.mk (Array.size (World.heap w49)) 0 none) = some (Value.string s55) ∧
                                                     (ByteArray.size (ByteArray.mk (Array.mk [120, 47])) + ByteArray.size s37 ≤ 9223372036854775807 ∧
                                                      ((((ByteArray.toList s55 == ByteArray.toList (ByteArray.mk (Array.mk [120, 47]) ++ s37)) = true →
                                                         ∃ s56 : ByteArray, (World.cell? w54 (Addr.mk (Array.size (World.heap w49)) 1 none) = some (Value.string s56) ∧
                                                          (I45 (ByteArray.toList s56 == ByteArray.toList s43) (IntKind.wrap IntKind.i64 (n48 + 1)) w54 ∧
                                                           I46 (ByteArray.toList s56 == ByteArray.toList s43) (IntKind.wrap IntKind.i64 (n48 + 1)) w54 < I46 b47 n48 w49)))) ∧
                                                       ((ByteArray.toList s55 == ByteArray.toList (ByteArray.mk (Array.mk [120, 47]) ++ s37)) = false →
                                                         (I45 false (IntKind.wrap IntKind.i64 (n48 + 1)) w54 ∧
                                                          I46 false (IntKind.wrap IntKind.i64 (n48 + 1)) w54 < I46 b47 n48 w49)))))))))))))) ∧
                                         (decide (n48 < (↑l9.2 : Int)) = false →
                                           ((((!b47) = true →
                                              (ByteArray.size (ByteArray.mk (Array.mk [120, 47])) + ByteArray.size s37 ≤ 9223372036854775807 ∧
                                               ∀ w57 : World,
                                               (w57 = World.alloc w49 (Obj.cells (Array.mk [Value.string (ByteArray.mk (Array.mk [120, 47]) ++ s37), Value.string s43]) 31) →
                                                 ∃ w58 : World, ∃ l59 : Sl, (Sem.run Tryd.prog (Builtin.append_ (Array.mk [28, 28]) 28 (Array.mk [Value.slice l9.1 l9.2 l9.3, Value.slice (some (Addr.mk (Array.size (World.heap w49)) 0 none)) 1 1])) w57 = Result.ok (Value.slice l59.1 l59.2 l59.3) w58 ∧
                                                  (I7 (Sl.mk l59.1 l59.2 l59.3) (IntKind.wrap IntKind.i64 (n10 + 1)) w58 ∧
                                                   I8 (Sl.mk l59.1 l59.2 l59.3) (IntKind.wrap IntKind.i64 (n10 + 1)) w58 < I8 l9 n10 w11)))))) ∧
                                            ((!b47) = false →
                                              (I7 (Sl.mk l9.1 l9.2 l9.3) (IntKind.wrap IntKind.i64 (n10 + 1)) w49 ∧
                                               I8 (Sl.mk l9.1 l9.2 l9.3) (IntKind.wrap IntKind.i64 (n10 + 1)) w49 < I8 l9 n10 w11))))))))))))))))))) ∧
                     (decide (n10 < 20) = false →
                       I6 (Sl.mk l9.1 l9.2 l9.3) w11)))) ∧
                  (decide (n10 < (↑x0n : Int)) = false →
                    I6 (Sl.mk l9.1 l9.2 l9.3) w11))))) ∧
              ∀ l60 : Sl,
              ∀ w61 : World,
              (I6 l60 w61 →
                Calls Tryd.prog (7 : Nat) (Array.mk [Value.slice l60.1 l60.2 l60.3]) (w61) (fun e62 w63 =>
                  ∃ p64 : Option Addr, ∃ n65 : Int, (e62 = Ending.returned (Value.tuple (Array.mk [Value.pointer p64, Value.int IntKind.i64 n65])) ∧
                   ((((n65 == 4) = true →
                      R (Value.bool (decide ((↑l60.2 : Int) > 1))) w63)) ∧
                    ((n65 == 4) = false →
                      ((((n65 != 0) = true →
                         R (Value.bool false) w63)) ∧
                       ((n65 != 0) = false →
                         (((Option.isNone p64 = true →
                            R (Value.bool false) w63)) ∧
                          (Option.isNone p64 = false →
                            Calls Tryd.prog (8 : Nat) (Array.mk [Value.pointer p64]) (w63) (fun e66 w67 =>
                              ∃ n68 : Int, (e66 = Ending.returned (Value.int IntKind.i64 n68) ∧
                               ((((n68 != (↑l60.2 : Int)) = true →
                                  R (Value.bool false) w67)) ∧
                                ((n68 != (↑l60.2 : Int)) = false →
                                  Calls Tryd.prog (9 : Nat) (Array.mk [Value.pointer p64, Value.string (ByteArray.mk (Array.mk [120, 47]))]) (w67) (fun e69 w70 =>
                                    ∃ l71 : Sl, (e69 = Ending.returned (Value.slice l71.1 l71.2 l71.3) ∧
                                     (((((↑l71.2 : Int) != (↑l60.2 : Int)) = true →
                                        R (Value.bool false) w70)) ∧
                                      (((↑l71.2 : Int) != (↑l60.2 : Int)) = false →
                                        Calls Tryd.prog (9 : Nat) (Array.mk [Value.pointer p64, Value.string (ByteArray.mk (Array.mk [120, 47]))]) (w70) (fun e72 w73 =>
                                          ∃ l74 : Sl, (e72 = Ending.returned (Value.slice l74.1 l74.2 l74.3) ∧
                                           ∃ I75 : Int → World → Prop, ∃ I76 : Int → World → Nat, (I75 0 w73 ∧
                                            ∀ n77 : Int,
                                            ∀ w78 : World,
                                            (I75 n77 w78 →
                                              (((decide (n77 < (↑l74.2 : Int)) = true →
                                                 ((0 ≤ n77 ∧
                                                   n77 < (↑l74.2 : Int)) ∧
                                                  ∃ a79 : Addr, (l74.1 = some a79 ∧
                                                   ∃ s80 : ByteArray, (World.cell? w78 (Addr.add a79 (Int.toNat n77 * 1)) = some (Value.string s80) ∧
                                                    Calls Tryd.prog (10 : Nat) (Array.mk [Value.pointer p64, Value.string s80]) (w78) (fun e81 w82 =>
                                                      ∃ s83 : ByteArray, ∃ n84 : Int, (e81 = Ending.returned (Value.tuple (Array.mk [Value.string s83, Value.int IntKind.i64 n84])) ∧
                                                       Calls Tryd.prog (11 : Nat) (Array.mk [Value.string s83]) (w82) (fun e85 w86 =>
                                                         ∃ n87 : Int, ∃ s88 : ByteArray, ∃ n89 : Int, (e85 = Ending.returned (Value.tuple (Array.mk [Value.agg (Array.mk [Value.int IntKind.i64 n87, Value.string s88]), Value.int IntKind.i64 n89])) ∧
                                                          ∀ w90 : World,
                                                          (w90 = World.alloc w86 (Obj.cells (Array.mk [Value.int IntKind.i64 0, Value.string (ByteArray.mk (Array.mk []))]) 27) →
                                                            ∃ w91 : World, (Sem.run Tryd.prog (storeVar 27 (Addr.mk (Array.size (World.heap w86)) 0 none) (Value.agg (Array.mk [Value.int IntKind.i64 n87, Value.string s88]))) w90 = Result.ok PUnit.unit w91 ∧
                                                             ∃ n92 : Int, ∃ s93 : ByteArray, (Sem.run Tryd.prog (loadVar 27 (Addr.mk (Array.size (World.heap w86)) 0 none)) w91 = Result.ok (Value.agg (Array.mk [Value.int IntKind.i64 n92, Value.string s93])) w91 ∧
                                                              Calls Tryd.prog (4 : Nat) (Array.mk [Value.agg (Array.mk [Value.int IntKind.i64 n92, Value.string s93])]) (w91) (fun e94 w95 =>
                                                                ∃ s96 : ByteArray, ∃ n97 : Int, (e94 = Ending.returned (Value.tuple (Array.mk [Value.string s96, Value.int IntKind.i64 n97])) ∧
                                                                 ((((n84 != 0) = true →
                                                                    R (Value.bool false) w95)) ∧
                                                                  ((n84 != 0) = false →
                                                                    ((((n89 != 0) = true →
                                                                       R (Value.bool false) w95)) ∧
                                                                     ((n89 != 0) = false →
                                                                       (ByteArray.size (ByteArray.mk (Array.mk [120, 47])) + ByteArray.size s96 ≤ 9223372036854775807 ∧
                                                                        ((((!ByteArray.toList (ByteArray.mk (Array.mk [120, 47]) ++ s96) == ByteArray.toList s80) = true →
                                                                           R (Value.bool false) w95)) ∧
                                                                         ((!ByteArray.toList (ByteArray.mk (Array.mk [120, 47]) ++ s96) == ByteArray.toList s80) = false →
                                                                           (I75 (IntKind.wrap IntKind.i64 (n77 + 1)) w95 ∧
                                                                            I76 (IntKind.wrap IntKind.i64 (n77 + 1)) w95 < I76 n77 w78)))))))))))))))))))))) ∧
                                               (decide (n77 < (↑l74.2 : Int)) = false →
                                                 R (Value.bool true) w78)))))))))))))))))))))))))))))))
theorem vc_cartularytop_CartularyNames_ok {x0a : Option Addr} {x0n : Nat} {x0c : Nat} {w : World} {R : Value → World → Prop} {R' : Ending → World → Prop} (h : vc_cartularytop_CartularyNames x0a x0n x0c w R) (hR : ∀ v w', R v w' → R' (.returned v) w') :
    Calls Tryd.prog 3 #[.slice x0a x0n x0c] w R' :=
  calls_of_body (vs := [(.slice x0a x0n x0c, false)]) (ty := ty) (ann := ⟨[(9, [(7, .addr)]), (22, [(5, .slice)])], [(6, [(5, .slice), (6, .int .i64)]), (16, [(12, .bool), (75, .int .i64)]), (28, [(137, .int .i64)])], [(8, .tree (.rd 0 (.rd 1 (.rd 2 (.rd 3 (.rd 4 (.rd 5 (.rd 6 (.rd 7 (.rd 8 (.rd 9 (.ef 10 (.rd 11 (.ef 12 (.ef 13 .done .done) .done)) (.ef 12 (.ef 10 (.rd 11 (.ef 13 .done .done)) .done) .done)))))))))))))], []⟩) (c := Tryd.f3.body.getD .skip) (by kernel_rfl) Tryd.func3 (by kernel_rfl) (by kernel_rfl) (Eq.mp (by kernel_rfl) h) hR
end Go.Proofs.YtoagdpjickippaaDoor

/- Formulas of 1 Go functions of this seat (written by a program of the author's, vcgen.py), and that each is enough for the call. No condition. -/
import Derived.Test.YtmhlmdnhpfhoeaaGreatDoorTy
import Derived.Test.YtmhlmdnhpfhoeaaGreatDoorProg
set_option linter.unusedVariables false
namespace Go.Proofs.YtmhlmdnhpfhoeaaGreatDoor
open Go Vc Go.Proofs
set_option maxRecDepth 100000
/-- cartularylaw16.RefsShadow -/
def vc_cartularylaw16_RefsShadow (x0a : Option Addr) (x0n : Nat) (x0c : Nat) (x1 : ByteArray) (x2 : ByteArray) (w : World) (R : Value → World → Prop) : Prop :=
  Calls Tryz.prog (5 : Nat) (Array.mk [Value.slice x0a x0n x0c, Value.int IntKind.i64 40]) (w) (fun e1 w2 =>
    ∃ l3 : Sl, (e1 = Ending.returned (Value.slice l3.1 l3.2 l3.3) ∧
     Calls Tryz.prog (19 : Nat) (Array.mk [Value.string x2]) (w2) (fun e4 w5 =>
       ∃ b6 : Bool, (e4 = Ending.returned (Value.bool b6) ∧
        ((((!b6) = true →
           Calls Tryz.prog (7 : Nat) (Array.mk []) (w5) (fun e7 w8 =>
             ∃ b9 : Bool, (e7 = Ending.returned (Value.bool b9) ∧
              R (Value.bool b9) w8)))) ∧
         ((!b6) = false →
           Calls Tryz.prog (11 : Nat) (Array.mk [Value.string x1]) (w5) (fun e10 w11 =>
             ∃ b12 : Bool, (e10 = Ending.returned (Value.bool b12) ∧
              ((((!b12) = true →
                 Calls Tryz.prog (7 : Nat) (Array.mk []) (w11) (fun e13 w14 =>
                   ∃ b15 : Bool, (e13 = Ending.returned (Value.bool b15) ∧
                    R (Value.bool b15) w14)))) ∧
               ((!b12) = false →
                 ∀ w16 : World,
                 (w16 = World.alloc w11 (Obj.cells (Array.mk []) 48) →
                   ∃ I17 : Sl → Int → World → Prop, ∃ I18 : Sl → Int → World → Nat, (I17 (Sl.mk (some (Addr.mk (Array.size (World.heap w11)) 0 none)) 0 0) 0 w16 ∧
                    ∀ l19 : Sl,
                    ∀ n20 : Int,
                    ∀ w21 : World,
                    (I17 l19 n20 w21 →
                      (((decide (n20 < (↑l3.2 : Int)) = true →
                         ((0 ≤ n20 ∧
                           n20 < (↑l3.2 : Int)) ∧
                          ∃ a22 : Addr, (l3.1 = some a22 ∧
                           ∃ s23 : ByteArray, ∃ s24 : ByteArray, (Sem.run Tryz.prog (loadVar 48 (Addr.add a22 (Int.toNat n20 * 2))) w21 = Result.ok (Value.agg (Array.mk [Value.string s23, Value.string s24])) w21 ∧
                            ∀ w25 : World,
                            (w25 = World.alloc w21 (Obj.cells (Array.mk [Value.string (ByteArray.mk (Array.mk [])), Value.string (ByteArray.mk (Array.mk []))]) 48) →
                              ∃ w26 : World, (Sem.run Tryz.prog (storeVar 48 (Addr.mk (Array.size (World.heap w21)) 0 none) (Value.agg (Array.mk [Value.string s23, Value.string s24]))) w25 = Result.ok PUnit.unit w26 ∧
                               ∃ s27 : ByteArray, (World.cell? w26 (Addr.mk (Array.size (World.heap w21)) 0 none) = some (Value.string s27) ∧
                                ((((!ByteArray.toList s27 == ByteArray.toList x1) = true →
                                   ∃ s28 : ByteArray, ∃ s29 : ByteArray, (Sem.run Tryz.prog (loadVar 48 (Addr.mk (Array.size (World.heap w21)) 0 none)) w26 = Result.ok (Value.agg (Array.mk [Value.string s28, Value.string s29])) w26 ∧
                                    ∀ w30 : World,
                                    (w30 = World.alloc w26 (Obj.cells (Array.mk [Value.string s28, Value.string s29]) 48) →
                                      ∃ w31 : World, ∃ l32 : Sl, (Sem.run Tryz.prog (Builtin.append_ (Array.mk [22, 22]) 22 (Array.mk [Value.slice l19.1 l19.2 l19.3, Value.slice (some (Addr.mk (Array.size (World.heap w26)) 0 none)) 1 1])) w30 = Result.ok (Value.slice l32.1 l32.2 l32.3) w31 ∧
                                       (I17 (Sl.mk l32.1 l32.2 l32.3) (IntKind.wrap IntKind.i64 (n20 + 1)) w31 ∧
                                        I18 (Sl.mk l32.1 l32.2 l32.3) (IntKind.wrap IntKind.i64 (n20 + 1)) w31 < I18 l19 n20 w21)))))) ∧
                                 ((!ByteArray.toList s27 == ByteArray.toList x1) = false →
                                   (I17 (Sl.mk l19.1 l19.2 l19.3) (IntKind.wrap IntKind.i64 (n20 + 1)) w26 ∧
                                    I18 (Sl.mk l19.1 l19.2 l19.3) (IntKind.wrap IntKind.i64 (n20 + 1)) w26 < I18 l19 n20 w21))))))))))) ∧
                       (decide (n20 < (↑l3.2 : Int)) = false →
                         Calls Tryz.prog (6 : Nat) (Array.mk [Value.slice l19.1 l19.2 l19.3]) (w21) (fun e33 w34 =>
                           ∃ p35 : Option Addr, ∃ n36 : Int, (e33 = Ending.returned (Value.tuple (Array.mk [Value.pointer p35, Value.int IntKind.i64 n36])) ∧
                            (ByteArray.size x2 + ByteArray.size (ByteArray.mk (Array.mk [10])) ≤ 9223372036854775807 ∧
                             ∀ w37 : World,
                             (w37 = World.alloc w34 (Obj.cells (Array.mk [Value.string x1, Value.string (x2 ++ ByteArray.mk (Array.mk [10]))]) 48) →
                               ∃ w38 : World, ∃ l39 : Sl, (Sem.run Tryz.prog (Builtin.append_ (Array.mk [22, 22]) 22 (Array.mk [Value.slice l19.1 l19.2 l19.3, Value.slice (some (Addr.mk (Array.size (World.heap w34)) 0 none)) 1 1])) w37 = Result.ok (Value.slice l39.1 l39.2 l39.3) w38 ∧
                                Calls Tryz.prog (6 : Nat) (Array.mk [Value.slice l39.1 l39.2 l39.3]) (w38) (fun e40 w41 =>
                                  ∃ p42 : Option Addr, ∃ n43 : Int, (e40 = Ending.returned (Value.tuple (Array.mk [Value.pointer p42, Value.int IntKind.i64 n43])) ∧
                                   ((((n36 != 0) = true →
                                      Calls Tryz.prog (7 : Nat) (Array.mk []) (w41) (fun e44 w45 =>
                                        ∃ b46 : Bool, (e44 = Ending.returned (Value.bool b46) ∧
                                         (((b46 = true →
                                            ((((n36 != 0) = true →
                                               R (Value.bool true) w45)) ∧
                                             ((n36 != 0) = false →
                                               R (Value.bool (n43 != 0)) w45)))) ∧
                                          (b46 = false →
                                            R (Value.bool false) w45)))))) ∧
                                    ((n36 != 0) = false →
                                      ((((n43 != 0) = true →
                                         Calls Tryz.prog (7 : Nat) (Array.mk []) (w41) (fun e47 w48 =>
                                           ∃ b49 : Bool, (e47 = Ending.returned (Value.bool b49) ∧
                                            (((b49 = true →
                                               ((((n36 != 0) = true →
                                                  R (Value.bool true) w48)) ∧
                                                ((n36 != 0) = false →
                                                  R (Value.bool (n43 != 0)) w48)))) ∧
                                             (b49 = false →
                                               R (Value.bool false) w48)))))) ∧
                                       ((n43 != 0) = false →
                                         (((Option.isNone p35 = true →
                                            Calls Tryz.prog (7 : Nat) (Array.mk []) (w41) (fun e50 w51 =>
                                              ∃ b52 : Bool, (e50 = Ending.returned (Value.bool b52) ∧
                                               (((b52 = true →
                                                  ((((n36 != 0) = true →
                                                     R (Value.bool true) w51)) ∧
                                                   ((n36 != 0) = false →
                                                     R (Value.bool (n43 != 0)) w51)))) ∧
                                                (b52 = false →
                                                  R (Value.bool false) w51)))))) ∧
                                          (Option.isNone p35 = false →
                                            (((Option.isNone p42 = true →
                                               Calls Tryz.prog (7 : Nat) (Array.mk []) (w41) (fun e53 w54 =>
                                                 ∃ b55 : Bool, (e53 = Ending.returned (Value.bool b55) ∧
                                                  (((b55 = true →
                                                     ((((n36 != 0) = true →
                                                        R (Value.bool true) w54)) ∧
                                                      ((n36 != 0) = false →
                                                        R (Value.bool (n43 != 0)) w54)))) ∧
                                                   (b55 = false →
                                                     R (Value.bool false) w54)))))) ∧
                                             (Option.isNone p42 = false →
                                               Calls Tryz.prog (8 : Nat) (Array.mk [Value.pointer p35]) (w41) (fun e56 w57 =>
                                                 ∃ p58 : Option Addr, ∃ n59 : Int, (e56 = Ending.returned (Value.tuple (Array.mk [Value.pointer p58, Value.int IntKind.i64 n59])) ∧
                                                  Calls Tryz.prog (8 : Nat) (Array.mk [Value.pointer p42]) (w57) (fun e60 w61 =>
                                                    ∃ p62 : Option Addr, ∃ n63 : Int, (e60 = Ending.returned (Value.tuple (Array.mk [Value.pointer p62, Value.int IntKind.i64 n63])) ∧
                                                     ((((n59 != n63) = true →
                                                        R (Value.bool false) w61)) ∧
                                                      ((n59 != n63) = false →
                                                        ((((n59 != 0) = true →
                                                           Calls Tryz.prog (7 : Nat) (Array.mk []) (w61) (fun e64 w65 =>
                                                             ∃ b66 : Bool, (e64 = Ending.returned (Value.bool b66) ∧
                                                              (((b66 = true →
                                                                 R (Value.bool (n59 != 0)) w65)) ∧
                                                               (b66 = false →
                                                                 R (Value.bool false) w65)))))) ∧
                                                         ((n59 != 0) = false →
                                                           (((Option.isNone p58 = true →
                                                              Calls Tryz.prog (7 : Nat) (Array.mk []) (w61) (fun e67 w68 =>
                                                                ∃ b69 : Bool, (e67 = Ending.returned (Value.bool b69) ∧
                                                                 (((b69 = true →
                                                                    R (Value.bool (n59 != 0)) w68)) ∧
                                                                  (b69 = false →
                                                                    R (Value.bool false) w68)))))) ∧
                                                            (Option.isNone p58 = false →
                                                              (((Option.isNone p62 = true →
                                                                 Calls Tryz.prog (7 : Nat) (Array.mk []) (w61) (fun e70 w71 =>
                                                                   ∃ b72 : Bool, (e70 = Ending.returned (Value.bool b72) ∧
                                                                    (((b72 = true →
                                                                       R (Value.bool (n59 != 0)) w71)) ∧
                                                                     (b72 = false →
                                                                       R (Value.bool false) w71)))))) ∧
                                                               (Option.isNone p62 = false →
                                                                 Calls Tryz.prog (15 : Nat) (Array.mk [Value.pointer p62, Value.string x1]) (w61) (fun e73 w74 =>
                                                                   ∃ s75 : ByteArray, ∃ n76 : Int, (e73 = Ending.returned (Value.tuple (Array.mk [Value.string s75, Value.int IntKind.i64 n76])) ∧
                                                                    Calls Tryz.prog (15 : Nat) (Array.mk [Value.pointer p58, Value.string x1]) (w74) (fun e77 w78 =>
                                                                      ∃ s79 : ByteArray, ∃ n80 : Int, (e77 = Ending.returned (Value.tuple (Array.mk [Value.string s79, Value.int IntKind.i64 n80])) ∧
                                                                       ∃ I81 : ByteArray → World → Prop, (((((n80 == 0) = true →
                                                                           I81 x1 w78)) ∧
                                                                         ((n80 == 0) = false →
                                                                           I81 (ByteArray.mk (Array.mk [])) w78)) ∧
                                                                        ∀ s82 : ByteArray,
                                                                        ∀ w83 : World,
                                                                        (I81 s82 w83 →
                                                                          Calls Tryz.prog (7 : Nat) (Array.mk []) (w83) (fun e84 w85 =>
                                                                            ∃ b86 : Bool, (e84 = Ending.returned (Value.bool b86) ∧
                                                                             (((b86 = true →
                                                                                ((((n76 == 0) = true →
                                                                                   ((((ByteArray.toList s75 == ByteArray.toList x2) = true →
                                                                                      Calls Tryz.prog (17 : Nat) (Array.mk [Value.pointer p62, Value.string x1]) (w85) (fun e87 w88 =>
                                                                                        ∃ s89 : ByteArray, (e87 = Ending.returned (Value.string s89) ∧
                                                                                         ((((ByteArray.toList s89 == ByteArray.toList (ByteArray.mk (Array.mk []))) = true →
                                                                                            ((((ByteArray.toList s82 == ByteArray.toList (ByteArray.mk (Array.mk []))) = true →
                                                                                               R (Value.bool true) w88)) ∧
                                                                                             ((ByteArray.toList s82 == ByteArray.toList (ByteArray.mk (Array.mk []))) = false →
                                                                                               Calls Tryz.prog (13 : Nat) (Array.mk [Value.pointer p58, Value.string x1]) (w88) (fun e90 w91 =>
                                                                                                 ∃ l92 : Sl, (e90 = Ending.returned (Value.slice l92.1 l92.2 l92.3) ∧
                                                                                                  (((decide ((↑l92.2 : Int) > 0) = true →
                                                                                                     R (Value.bool true) w91)) ∧
                                                                                                   (decide ((↑l92.2 : Int) > 0) = false →
                                                                                                     R (Value.bool (ByteArray.toList x1 == ByteArray.toList (ByteArray.mk (Array.mk [72, 69, 65, 68])))) w91)))))))) ∧
                                                                                          ((ByteArray.toList s89 == ByteArray.toList (ByteArray.mk (Array.mk []))) = false →
                                                                                            R (Value.bool false) w88)))))) ∧
                                                                                    ((ByteArray.toList s75 == ByteArray.toList x2) = false →
                                                                                      R (Value.bool false) w85)))) ∧
                                                                                 ((n76 == 0) = false →
                                                                                   R (Value.bool false) w85)))) ∧
                                                                              (b86 = false →
                                                                                R (Value.bool false) w85))))))))))))))))))))))))))))))))))))))))))))))))))))
theorem vc_cartularylaw16_RefsShadow_ok {x0a : Option Addr} {x0n : Nat} {x0c : Nat} {x1 : ByteArray} {x2 : ByteArray} {w : World} {R : Value → World → Prop} {R' : Ending → World → Prop} (h : vc_cartularylaw16_RefsShadow x0a x0n x0c x1 x2 w R) (hR : ∀ v w', R v w' → R' (.returned v) w') :
    Calls Tryz.prog 4 #[.slice x0a x0n x0c, .string x1, .string x2] w R' :=
  calls_of_body (vs := [(.slice x0a x0n x0c, false), (.string x1, false), (.string x2, false)]) (ty := ty) (ann := ⟨[(26, [(22, .str)])], [(6, [(7, .slice), (37, .int .i64)])], [], []⟩) (c := Tryz.f4.body.getD .skip) (by kernel_rfl) Tryz.func4 (by kernel_rfl) (by kernel_rfl) (Eq.mp (by kernel_rfl) h) hR
end Go.Proofs.YtmhlmdnhpfhoeaaGreatDoor

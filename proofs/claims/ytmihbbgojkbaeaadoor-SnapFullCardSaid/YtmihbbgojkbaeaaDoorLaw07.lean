/- Formulas of 7 Go functions of this seat (written by a program of the author's, vcgen.py), and that each is enough for the call. No condition. -/
import Derived.Test.YtmihbbgojkbaeaaDoorTy
import Derived.Test.YtmihbbgojkbaeaaDoorProg
set_option linter.unusedVariables false
namespace Go.Proofs.YtmihbbgojkbaeaaDoor
open Go Vc Go.Proofs
set_option maxRecDepth 100000
/-- cartularylaw07.Few -/
def vc_cartularylaw07_Few (x0a : Option Addr) (x0n : Nat) (x0c : Nat) (x1 : Int) (w : World) (R : Value → World → Prop) : Prop :=
  (((decide ((↑x0n : Int) > x1) = true →
     ((0 ≤ x1 ∧
       x1 ≤ (↑x0c : Int)) ∧
      ∀ w1 : World,
      (w1 = World.alloc w (Obj.cells (Array.mk []) 50) →
        ∃ w2 : World, ∃ l3 : Sl, (Sem.run Tryd.prog (Builtin.append_ (Array.mk [47, 47]) 47 (Array.mk [Value.slice (some (Addr.mk (Array.size (World.heap w)) 0 none)) 0 0, Value.slice (subA x0a x0c 0 2) (Int.toNat x1) x0c])) w1 = Result.ok (Value.slice l3.1 l3.2 l3.3) w2 ∧
         R (Value.slice l3.1 l3.2 l3.3) w2))))) ∧
   (decide ((↑x0n : Int) > x1) = false →
     ∀ w4 : World,
     (w4 = World.alloc w (Obj.cells (Array.mk []) 50) →
       ∃ w5 : World, ∃ l6 : Sl, (Sem.run Tryd.prog (Builtin.append_ (Array.mk [47, 47]) 47 (Array.mk [Value.slice (some (Addr.mk (Array.size (World.heap w)) 0 none)) 0 0, Value.slice x0a x0n x0c])) w4 = Result.ok (Value.slice l6.1 l6.2 l6.3) w5 ∧
        R (Value.slice l6.1 l6.2 l6.3) w5))))
theorem vc_cartularylaw07_Few_ok {x0a : Option Addr} {x0n : Nat} {x0c : Nat} {x1 : Int} {w : World} {R : Value → World → Prop} {R' : Ending → World → Prop} (h : vc_cartularylaw07_Few x0a x0n x0c x1 w R) (hR : ∀ v w', R v w' → R' (.returned v) w') :
    Calls Tryd.prog 26 #[.slice x0a x0n x0c, .int .i64 x1] w R' :=
  calls_of_body (vs := [(.slice x0a x0n x0c, false), (.int .i64 x1, false)]) (ty := ty) (ann := ⟨[], [], [], []⟩) (c := Tryd.f26.body.getD .skip) (by kernel_rfl) Tryd.func26 (by kernel_rfl) (by kernel_rfl) (Eq.mp (by kernel_rfl) h) hR
/-- cartularylaw07.awake -/
def vc_cartularylaw07_awake (w : World) (R : Value → World → Prop) : Prop :=
  ∀ w1 : World,
  (w1 = World.alloc w (Obj.cells (Array.mk [Value.string (ByteArray.mk (Array.mk [101])), Value.string (ByteArray.mk (Array.mk [49])), Value.string (ByteArray.mk (Array.mk [97, 47, 98])), Value.string (ByteArray.mk (Array.mk []))]) 50) →
    Calls Tryd.prog (27 : Nat) (Array.mk [Value.slice (some (Addr.mk (Array.size (World.heap w)) 0 none)) 2 2]) (w1) (fun e2 w3 =>
      ∃ p4 : Option Addr, ∃ n5 : Int, (e2 = Ending.returned (Value.tuple (Array.mk [Value.pointer p4, Value.int IntKind.i64 n5])) ∧
       ((((n5 != 0) = true →
          R (Value.bool false) w3)) ∧
        ((n5 != 0) = false →
          (((Option.isNone p4 = true →
             R (Value.bool false) w3)) ∧
           (Option.isNone p4 = false →
             Calls Tryd.prog (38 : Nat) (Array.mk [Value.pointer p4, Value.string (ByteArray.mk (Array.mk []))]) (w3) (fun e6 w7 =>
               ∃ l8 : Sl, ∃ n9 : Int, (e6 = Ending.returned (Value.tuple (Array.mk [Value.slice l8.1 l8.2 l8.3, Value.int IntKind.i64 n9])) ∧
                Calls Tryd.prog (36 : Nat) (Array.mk [Value.pointer p4, Value.string (ByteArray.mk (Array.mk [101]))]) (w7) (fun e10 w11 =>
                  ∃ s12 : ByteArray, ∃ n13 : Int, (e10 = Ending.returned (Value.tuple (Array.mk [Value.string s12, Value.int IntKind.i64 n13])) ∧
                   ((((n9 == 0) = true →
                      ((((n13 == 0) = true →
                         ((((ByteArray.toList s12 == ByteArray.toList (ByteArray.mk (Array.mk [49]))) = true →
                            ∀ w14 : World,
                            (w14 = World.alloc w11 (Obj.cells (Array.mk [Value.string (ByteArray.mk (Array.mk [97, 47])), Value.string (ByteArray.mk (Array.mk [101]))]) 9) →
                              Calls Tryd.prog (40 : Nat) (Array.mk [Value.slice l8.1 l8.2 l8.3, Value.slice (some (Addr.mk (Array.size (World.heap w11)) 0 none)) 2 2]) (w14) (fun e15 w16 =>
                                ∃ b17 : Bool, (e15 = Ending.returned (Value.bool b17) ∧
                                 R (Value.bool b17) w16))))) ∧
                          ((ByteArray.toList s12 == ByteArray.toList (ByteArray.mk (Array.mk [49]))) = false →
                            R (Value.bool false) w11)))) ∧
                       ((n13 == 0) = false →
                         R (Value.bool false) w11)))) ∧
                    ((n9 == 0) = false →
                      R (Value.bool false) w11)))))))))))))
theorem vc_cartularylaw07_awake_ok {w : World} {R : Value → World → Prop} {R' : Ending → World → Prop} (h : vc_cartularylaw07_awake w R) (hR : ∀ v w', R v w' → R' (.returned v) w') :
    Calls Tryd.prog 28 #[] w R' :=
  calls_of_body (vs := []) (ty := ty) (ann := ⟨[], [], [], []⟩) (c := Tryd.f28.body.getD .skip) (by kernel_rfl) Tryd.func28 (by kernel_rfl) (by kernel_rfl) (Eq.mp (by kernel_rfl) h) hR
/-- cartularylaw07.SnapTurns -/
def vc_cartularylaw07_SnapTurns (x0a : Option Addr) (x0n : Nat) (x0c : Nat) (w : World) (R : Value → World → Prop) : Prop :=
  Calls Tryd.prog (26 : Nat) (Array.mk [Value.slice x0a x0n x0c, Value.int IntKind.i64 60]) (w) (fun e1 w2 =>
    ∃ l3 : Sl, (e1 = Ending.returned (Value.slice l3.1 l3.2 l3.3) ∧
     ∀ w4 : World,
     (w4 = World.alloc w2 (Obj.cells (Array.mk []) 50) →
       ∃ I5 : Sl → Int → World → Prop, ∃ I6 : Sl → Int → World → Nat, (I5 (Sl.mk (some (Addr.mk (Array.size (World.heap w2)) 0 none)) 0 0) (IntKind.wrap IntKind.i64 ((↑l3.2 : Int) - 1)) w4 ∧
        ∀ l7 : Sl,
        ∀ n8 : Int,
        ∀ w9 : World,
        (I5 l7 n8 w9 →
          (((decide (n8 ≥ 0) = true →
             ((0 ≤ n8 ∧
               n8 < (↑l3.2 : Int)) ∧
              ∃ a10 : Addr, (l3.1 = some a10 ∧
               ∃ s11 : ByteArray, ∃ s12 : ByteArray, (Sem.run Tryd.prog (loadVar 50 (Addr.add a10 (Int.toNat n8 * 2))) w9 = Result.ok (Value.agg (Array.mk [Value.string s11, Value.string s12])) w9 ∧
                ∀ w13 : World,
                (w13 = World.alloc w9 (Obj.cells (Array.mk [Value.string s11, Value.string s12]) 50) →
                  ∃ w14 : World, ∃ l15 : Sl, (Sem.run Tryd.prog (Builtin.append_ (Array.mk [47, 47]) 47 (Array.mk [Value.slice l7.1 l7.2 l7.3, Value.slice (some (Addr.mk (Array.size (World.heap w9)) 0 none)) 1 1])) w13 = Result.ok (Value.slice l15.1 l15.2 l15.3) w14 ∧
                   (I5 (Sl.mk l15.1 l15.2 l15.3) (IntKind.wrap IntKind.i64 (n8 - 1)) w14 ∧
                    I6 (Sl.mk l15.1 l15.2 l15.3) (IntKind.wrap IntKind.i64 (n8 - 1)) w14 < I6 l7 n8 w9)))))))) ∧
           (decide (n8 ≥ 0) = false →
             Calls Tryd.prog (27 : Nat) (Array.mk [Value.slice l3.1 l3.2 l3.3]) (w9) (fun e16 w17 =>
               ∃ p18 : Option Addr, ∃ n19 : Int, (e16 = Ending.returned (Value.tuple (Array.mk [Value.pointer p18, Value.int IntKind.i64 n19])) ∧
                Calls Tryd.prog (27 : Nat) (Array.mk [Value.slice l7.1 l7.2 l7.3]) (w17) (fun e20 w21 =>
                  ∃ p22 : Option Addr, ∃ n23 : Int, (e20 = Ending.returned (Value.tuple (Array.mk [Value.pointer p22, Value.int IntKind.i64 n23])) ∧
                   ((((n19 != n23) = true →
                      R (Value.bool false) w21)) ∧
                    ((n19 != n23) = false →
                      ((((n19 != 0) = true →
                         Calls Tryd.prog (28 : Nat) (Array.mk []) (w21) (fun e24 w25 =>
                           ∃ b26 : Bool, (e24 = Ending.returned (Value.bool b26) ∧
                            R (Value.bool b26) w25)))) ∧
                       ((n19 != 0) = false →
                         (((Option.isNone p18 = true →
                            R (Value.bool false) w21)) ∧
                          (Option.isNone p18 = false →
                            (((Option.isNone p22 = true →
                               R (Value.bool false) w21)) ∧
                             (Option.isNone p22 = false →
                               Calls Tryd.prog (29 : Nat) (Array.mk [Value.pointer p18, Value.pointer p22, Value.string (ByteArray.mk (Array.mk []))]) (w21) (fun e27 w28 =>
                                 ∃ n29 : Int, (e27 = Ending.returned (Value.int IntKind.i64 n29) ∧
                                  Calls Tryd.prog (28 : Nat) (Array.mk []) (w28) (fun e30 w31 =>
                                    ∃ b32 : Bool, (e30 = Ending.returned (Value.bool b32) ∧
                                     (((b32 = true →
                                        ((((n29 == (↑l3.2 : Int)) = true →
                                           Calls Tryd.prog (30 : Nat) (Array.mk [Value.pointer p18]) (w31) (fun e33 w34 =>
                                             ∃ n35 : Int, (e33 = Ending.returned (Value.int IntKind.i64 n35) ∧
                                              Calls Tryd.prog (30 : Nat) (Array.mk [Value.pointer p22]) (w34) (fun e36 w37 =>
                                                ∃ n38 : Int, (e36 = Ending.returned (Value.int IntKind.i64 n38) ∧
                                                 R (Value.bool (n35 == n38)) w37)))))) ∧
                                         ((n29 == (↑l3.2 : Int)) = false →
                                           R (Value.bool false) w31)))) ∧
                                      (b32 = false →
                                        R (Value.bool false) w31)))))))))))))))))))))))))
theorem vc_cartularylaw07_SnapTurns_ok {x0a : Option Addr} {x0n : Nat} {x0c : Nat} {w : World} {R : Value → World → Prop} {R' : Ending → World → Prop} (h : vc_cartularylaw07_SnapTurns x0a x0n x0c w R) (hR : ∀ v w', R v w' → R' (.returned v) w') :
    Calls Tryd.prog 9 #[.slice x0a x0n x0c] w R' :=
  calls_of_body (vs := [(.slice x0a x0n x0c, false)]) (ty := ty) (ann := ⟨[], [(4, [(4, .slice), (5, .int .i64)])], [], []⟩) (c := Tryd.f9.body.getD .skip) (by kernel_rfl) Tryd.func9 (by kernel_rfl) (by kernel_rfl) (Eq.mp (by kernel_rfl) h) hR
/-- cartularylaw07.found -/
def vc_cartularylaw07_found (x0 : Nat) (x1 : Nat) (x2 : ByteArray) (w : World) (R : Value → World → Prop) : Prop :=
  Calls Tryd.prog (38 : Nat) (Array.mk [Value.pointer (some (Addr.mk x0 0 none)), Value.string x2]) (w) (fun e1 w2 =>
    ∃ l3 : Sl, ∃ n4 : Int, (e1 = Ending.returned (Value.tuple (Array.mk [Value.slice l3.1 l3.2 l3.3, Value.int IntKind.i64 n4])) ∧
     Calls Tryd.prog (38 : Nat) (Array.mk [Value.pointer (some (Addr.mk x1 0 none)), Value.string x2]) (w2) (fun e5 w6 =>
       ∃ l7 : Sl, ∃ n8 : Int, (e5 = Ending.returned (Value.tuple (Array.mk [Value.slice l7.1 l7.2 l7.3, Value.int IntKind.i64 n8])) ∧
        ((((n4 != n8) = true →
           R (Value.int IntKind.i64 (-1)) w6)) ∧
         ((n4 != n8) = false →
           (((((↑l3.2 : Int) != (↑l7.2 : Int)) = true →
              R (Value.int IntKind.i64 (-1)) w6)) ∧
            (((↑l3.2 : Int) != (↑l7.2 : Int)) = false →
              ∃ I9 : Int → Int → World → Prop, ∃ I10 : Int → Int → World → Nat, (I9 0 0 w6 ∧
               ∀ n11 : Int,
               ∀ n12 : Int,
               ∀ w13 : World,
               (I9 n11 n12 w13 →
                 (((decide (n12 < (↑l3.2 : Int)) = true →
                    ((0 ≤ n12 ∧
                      n12 < (↑l3.2 : Int)) ∧
                     ∃ a14 : Addr, (l3.1 = some a14 ∧
                      ∃ s15 : ByteArray, (World.cell? w13 (Addr.add a14 (Int.toNat n12 * 1)) = some (Value.string s15) ∧
                       ((0 ≤ n12 ∧
                         n12 < (↑l7.2 : Int)) ∧
                        ∃ a16 : Addr, (l7.1 = some a16 ∧
                         ∃ s17 : ByteArray, (World.cell? w13 (Addr.add a16 (Int.toNat n12 * 1)) = some (Value.string s17) ∧
                          ((((!ByteArray.toList s15 == ByteArray.toList s17) = true →
                             R (Value.int IntKind.i64 (-1)) w13)) ∧
                           ((!ByteArray.toList s15 == ByteArray.toList s17) = false →
                             ((((ByteArray.toList s15 == ByteArray.toList (ByteArray.mk (Array.mk []))) = true →
                                R (Value.int IntKind.i64 (-1)) w13)) ∧
                              ((ByteArray.toList s15 == ByteArray.toList (ByteArray.mk (Array.mk []))) = false →
                                ∃ I18 : ByteArray → World → Prop, (((((!ByteArray.toList x2 == ByteArray.toList (ByteArray.mk (Array.mk []))) = true →
                                    (ByteArray.size x2 + ByteArray.size (ByteArray.mk (Array.mk [47])) ≤ 9223372036854775807 ∧
                                     (ByteArray.size (x2 ++ ByteArray.mk (Array.mk [47])) + ByteArray.size s15 ≤ 9223372036854775807 ∧
                                      I18 (x2 ++ ByteArray.mk (Array.mk [47]) ++ s15) w13)))) ∧
                                  ((!ByteArray.toList x2 == ByteArray.toList (ByteArray.mk (Array.mk []))) = false →
                                    I18 s15 w13)) ∧
                                 ∀ s19 : ByteArray,
                                 ∀ w20 : World,
                                 (I18 s19 w20 →
                                   ((0 ≤ IntKind.wrap IntKind.i64 ((↑(ByteArray.size s15) : Int) - 1) ∧
                                     IntKind.wrap IntKind.i64 ((↑(ByteArray.size s15) : Int) - 1) < (↑(ByteArray.size s15) : Int)) ∧
                                    ((((byteAt s15 (IntKind.wrap IntKind.i64 ((↑(ByteArray.size s15) : Int) - 1)) != 47) = true →
                                       Calls Tryd.prog (36 : Nat) (Array.mk [Value.pointer (some (Addr.mk x0 0 none)), Value.string s19]) (w20) (fun e21 w22 =>
                                         ∃ s23 : ByteArray, ∃ n24 : Int, (e21 = Ending.returned (Value.tuple (Array.mk [Value.string s23, Value.int IntKind.i64 n24])) ∧
                                          Calls Tryd.prog (36 : Nat) (Array.mk [Value.pointer (some (Addr.mk x1 0 none)), Value.string s19]) (w22) (fun e25 w26 =>
                                            ∃ s27 : ByteArray, ∃ n28 : Int, (e25 = Ending.returned (Value.tuple (Array.mk [Value.string s27, Value.int IntKind.i64 n28])) ∧
                                             ((((n24 != 0) = true →
                                                R (Value.int IntKind.i64 (-1)) w26)) ∧
                                              ((n24 != 0) = false →
                                                ((((n28 != 0) = true →
                                                   R (Value.int IntKind.i64 (-1)) w26)) ∧
                                                 ((n28 != 0) = false →
                                                   ((((!ByteArray.toList s23 == ByteArray.toList s27) = true →
                                                      R (Value.int IntKind.i64 (-1)) w26)) ∧
                                                    ((!ByteArray.toList s23 == ByteArray.toList s27) = false →
                                                      (I9 (IntKind.wrap IntKind.i64 (n11 + 1)) (IntKind.wrap IntKind.i64 (n12 + 1)) w26 ∧
                                                       I10 (IntKind.wrap IntKind.i64 (n11 + 1)) (IntKind.wrap IntKind.i64 (n12 + 1)) w26 < I10 n11 n12 w13))))))))))))) ∧
                                     ((byteAt s15 (IntKind.wrap IntKind.i64 ((↑(ByteArray.size s15) : Int) - 1)) != 47) = false →
                                       ((0 ≤ IntKind.wrap IntKind.i64 ((↑(ByteArray.size s19) : Int) - 1) ∧
                                         IntKind.wrap IntKind.i64 ((↑(ByteArray.size s19) : Int) - 1) ≤ (↑(ByteArray.size s19) : Int)) ∧
                                        Calls Tryd.prog (29 : Nat) (Array.mk [Value.pointer (some (Addr.mk x0 0 none)), Value.pointer (some (Addr.mk x1 0 none)), Value.string (ByteArray.extract s19 0 (Int.toNat (IntKind.wrap IntKind.i64 ((↑(ByteArray.size s19) : Int) - 1))))]) (w20) (fun e29 w30 =>
                                          ∃ n31 : Int, (e29 = Ending.returned (Value.int IntKind.i64 n31) ∧
                                           (((decide (n31 < 0) = true →
                                              R (Value.int IntKind.i64 (-1)) w30)) ∧
                                            (decide (n31 < 0) = false →
                                              (I9 (IntKind.wrap IntKind.i64 (n11 + n31)) (IntKind.wrap IntKind.i64 (n12 + 1)) w30 ∧
                                               I10 (IntKind.wrap IntKind.i64 (n11 + n31)) (IntKind.wrap IntKind.i64 (n12 + 1)) w30 < I10 n11 n12 w13))))))))))))))))))))))) ∧
                  (decide (n12 < (↑l3.2 : Int)) = false →
                    R (Value.int IntKind.i64 n11) w13))))))))))))
theorem vc_cartularylaw07_found_ok {x0 : Nat} {x1 : Nat} {x2 : ByteArray} {w : World} {R : Value → World → Prop} {R' : Ending → World → Prop} (h : vc_cartularylaw07_found x0 x1 x2 w R) (hR : ∀ v w', R v w' → R' (.returned v) w') :
    Calls Tryd.prog 29 #[.pointer (some ⟨x0, 0, none⟩), .pointer (some ⟨x1, 0, none⟩), .string x2] w R' :=
  calls_of_body (vs := [(.pointer (some ⟨x0, 0, none⟩), true), (.pointer (some ⟨x1, 0, none⟩), true), (.string x2, false)]) (ty := ty) (ann := ⟨[(14, [(14, .str)])], [(7, [(11, .int .i64), (44, .int .i64)])], [], []⟩) (c := Tryd.f29.body.getD .skip) (by kernel_rfl) Tryd.func29 (by kernel_rfl) (by kernel_rfl) (Eq.mp (by kernel_rfl) h) hR
/-- cartularylaw07.SnapBeginnings -/
def vc_cartularylaw07_SnapBeginnings (x0a : Option Addr) (x0n : Nat) (x0c : Nat) (x1 : ByteArray) (x2 : ByteArray) (w : World) (R : Value → World → Prop) : Prop :=
  Calls Tryd.prog (26 : Nat) (Array.mk [Value.slice x0a x0n x0c, Value.int IntKind.i64 60]) (w) (fun e1 w2 =>
    ∃ l3 : Sl, (e1 = Ending.returned (Value.slice l3.1 l3.2 l3.3) ∧
     Calls Tryd.prog (27 : Nat) (Array.mk [Value.slice l3.1 l3.2 l3.3]) (w2) (fun e4 w5 =>
       ∃ p6 : Option Addr, ∃ n7 : Int, (e4 = Ending.returned (Value.tuple (Array.mk [Value.pointer p6, Value.int IntKind.i64 n7])) ∧
        ((((n7 != 0) = true →
           Calls Tryd.prog (28 : Nat) (Array.mk []) (w5) (fun e8 w9 =>
             ∃ b10 : Bool, (e8 = Ending.returned (Value.bool b10) ∧
              (((b10 = true →
                 R (Value.bool (n7 != 0)) w9)) ∧
               (b10 = false →
                 R (Value.bool false) w9)))))) ∧
         ((n7 != 0) = false →
           (((Option.isNone p6 = true →
              Calls Tryd.prog (28 : Nat) (Array.mk []) (w5) (fun e11 w12 =>
                ∃ b13 : Bool, (e11 = Ending.returned (Value.bool b13) ∧
                 (((b13 = true →
                    R (Value.bool (n7 != 0)) w12)) ∧
                  (b13 = false →
                    R (Value.bool false) w12)))))) ∧
            (Option.isNone p6 = false →
              Calls Tryd.prog (31 : Nat) (Array.mk [Value.pointer p6, Value.string x1]) (w5) (fun e14 w15 =>
                ∃ l16 : Sl, (e14 = Ending.returned (Value.slice l16.1 l16.2 l16.3) ∧
                 (ByteArray.size x1 + ByteArray.size x2 ≤ 9223372036854775807 ∧
                  Calls Tryd.prog (31 : Nat) (Array.mk [Value.pointer p6, Value.string (x1 ++ x2)]) (w15) (fun e17 w18 =>
                    ∃ l19 : Sl, (e17 = Ending.returned (Value.slice l19.1 l19.2 l19.3) ∧
                     ∃ I20 : Int → Int → World → Prop, ∃ I21 : Int → Int → World → Nat, (I20 0 0 w18 ∧
                      ∀ n22 : Int,
                      ∀ n23 : Int,
                      ∀ w24 : World,
                      (I20 n22 n23 w24 →
                        (((decide (n23 < (↑l16.2 : Int)) = true →
                           ((0 ≤ n23 ∧
                             n23 < (↑l16.2 : Int)) ∧
                            ∃ a25 : Addr, (l16.1 = some a25 ∧
                             ∃ s26 : ByteArray, (World.cell? w24 (Addr.add a25 (Int.toNat n23 * 1)) = some (Value.string s26) ∧
                              ∃ I27 : World → Prop, ((((decide ((↑(ByteArray.size s26) : Int) < (↑(ByteArray.size x1) : Int)) = true →
                                  R (Value.bool false) w24)) ∧
                                (decide ((↑(ByteArray.size s26) : Int) < (↑(ByteArray.size x1) : Int)) = false →
                                  ((0 ≤ (↑(ByteArray.size x1) : Int) ∧
                                    (↑(ByteArray.size x1) : Int) ≤ (↑(ByteArray.size s26) : Int)) ∧
                                   ((((!ByteArray.toList (ByteArray.extract s26 0 (Int.toNat (↑(ByteArray.size x1) : Int))) == ByteArray.toList x1) = true →
                                      R (Value.bool false) w24)) ∧
                                    ((!ByteArray.toList (ByteArray.extract s26 0 (Int.toNat (↑(ByteArray.size x1) : Int))) == ByteArray.toList x1) = false →
                                      (((decide (n23 > 0) = true →
                                         ((0 ≤ IntKind.wrap IntKind.i64 (n23 - 1) ∧
                                           IntKind.wrap IntKind.i64 (n23 - 1) < (↑l16.2 : Int)) ∧
                                          ∃ a28 : Addr, (l16.1 = some a28 ∧
                                           ∃ s29 : ByteArray, (World.cell? w24 (Addr.add a28 (Int.toNat (IntKind.wrap IntKind.i64 (n23 - 1)) * 1)) = some (Value.string s29) ∧
                                            ((((!Op.bytesLess (ByteArray.toList s29) (ByteArray.toList s26)) = true →
                                               R (Value.bool false) w24)) ∧
                                             ((!Op.bytesLess (ByteArray.toList s29) (ByteArray.toList s26)) = false →
                                               I27 w24))))))) ∧
                                       (decide (n23 > 0) = false →
                                         I27 w24))))))) ∧
                               ∀ w30 : World,
                               (I27 w30 →
                                 (((decide (n22 < (↑l19.2 : Int)) = true →
                                    ((0 ≤ n22 ∧
                                      n22 < (↑l19.2 : Int)) ∧
                                     ∃ a31 : Addr, (l19.1 = some a31 ∧
                                      ∃ s32 : ByteArray, (World.cell? w30 (Addr.add a31 (Int.toNat n22 * 1)) = some (Value.string s32) ∧
                                       ((((ByteArray.toList s32 == ByteArray.toList s26) = true →
                                          (I20 (IntKind.wrap IntKind.i64 (n22 + 1)) (IntKind.wrap IntKind.i64 (n23 + 1)) w30 ∧
                                           I21 (IntKind.wrap IntKind.i64 (n22 + 1)) (IntKind.wrap IntKind.i64 (n23 + 1)) w30 < I21 n22 n23 w24))) ∧
                                        ((ByteArray.toList s32 == ByteArray.toList s26) = false →
                                          (I20 n22 (IntKind.wrap IntKind.i64 (n23 + 1)) w30 ∧
                                           I21 n22 (IntKind.wrap IntKind.i64 (n23 + 1)) w30 < I21 n22 n23 w24)))))))) ∧
                                  (decide (n22 < (↑l19.2 : Int)) = false →
                                    (I20 n22 (IntKind.wrap IntKind.i64 (n23 + 1)) w30 ∧
                                     I21 n22 (IntKind.wrap IntKind.i64 (n23 + 1)) w30 < I21 n22 n23 w24)))))))))) ∧
                         (decide (n23 < (↑l16.2 : Int)) = false →
                           Calls Tryd.prog (28 : Nat) (Array.mk []) (w24) (fun e33 w34 =>
                             ∃ b35 : Bool, (e33 = Ending.returned (Value.bool b35) ∧
                              (((b35 = true →
                                 ((((n22 == (↑l19.2 : Int)) = true →
                                    Calls Tryd.prog (31 : Nat) (Array.mk [Value.pointer p6, Value.string (ByteArray.mk (Array.mk []))]) (w34) (fun e36 w37 =>
                                      ∃ l38 : Sl, (e36 = Ending.returned (Value.slice l38.1 l38.2 l38.3) ∧
                                       Calls Tryd.prog (32 : Nat) (Array.mk [Value.pointer p6]) (w37) (fun e39 w40 =>
                                         ∃ n41 : Int, (e39 = Ending.returned (Value.int IntKind.i64 n41) ∧
                                          R (Value.bool ((↑l38.2 : Int) == n41)) w40)))))) ∧
                                  ((n22 == (↑l19.2 : Int)) = false →
                                    R (Value.bool false) w34)))) ∧
                               (b35 = false →
                                 R (Value.bool false) w34)))))))))))))))))))))
theorem vc_cartularylaw07_SnapBeginnings_ok {x0a : Option Addr} {x0n : Nat} {x0c : Nat} {x1 : ByteArray} {x2 : ByteArray} {w : World} {R : Value → World → Prop} {R' : Ending → World → Prop} (h : vc_cartularylaw07_SnapBeginnings x0a x0n x0c x1 x2 w R) (hR : ∀ v w', R v w' → R' (.returned v) w') :
    Calls Tryd.prog 10 #[.slice x0a x0n x0c, .string x1, .string x2] w R' :=
  calls_of_body (vs := [(.slice x0a x0n x0c, false), (.string x1, false), (.string x2, false)]) (ty := ty) (ann := ⟨[(11, [])], [(7, [(11, .int .i64), (41, .int .i64)])], [], []⟩) (c := Tryd.f10.body.getD .skip) (by kernel_rfl) Tryd.func10 (by kernel_rfl) (by kernel_rfl) (Eq.mp (by kernel_rfl) h) hR
/-- cartularylaw07.SnapReads -/
def vc_cartularylaw07_SnapReads (x0a : Option Addr) (x0n : Nat) (x0c : Nat) (x1 : ByteArray) (x2 : ByteArray) (w : World) (R : Value → World → Prop) : Prop :=
  Calls Tryd.prog (26 : Nat) (Array.mk [Value.slice x0a x0n x0c, Value.int IntKind.i64 200]) (w) (fun e1 w2 =>
    ∃ l3 : Sl, (e1 = Ending.returned (Value.slice l3.1 l3.2 l3.3) ∧
     Calls Tryd.prog (27 : Nat) (Array.mk [Value.slice l3.1 l3.2 l3.3]) (w2) (fun e4 w5 =>
       ∃ p6 : Option Addr, ∃ n7 : Int, (e4 = Ending.returned (Value.tuple (Array.mk [Value.pointer p6, Value.int IntKind.i64 n7])) ∧
        Calls Tryd.prog (26 : Nat) (Array.mk [Value.slice x0a x0n x0c, Value.int IntKind.i64 200]) (w5) (fun e8 w9 =>
          ∃ l10 : Sl, (e8 = Ending.returned (Value.slice l10.1 l10.2 l10.3) ∧
           Calls Tryd.prog (33 : Nat) (Array.mk [Value.slice l10.1 l10.2 l10.3]) (w9) (fun e11 w12 =>
             ∃ n13 : Int, (e11 = Ending.returned (Value.int IntKind.i64 n13) ∧
              Calls Tryd.prog (28 : Nat) (Array.mk []) (w12) (fun e14 w15 =>
                ∃ b16 : Bool, (e14 = Ending.returned (Value.bool b16) ∧
                 ((((!b16) = true →
                    R (Value.bool false) w15)) ∧
                  ((!b16) = false →
                    ((((n7 != n13) = true →
                       R (Value.bool false) w15)) ∧
                     ((n7 != n13) = false →
                       Calls Tryd.prog (34 : Nat) (Array.mk [Value.string x1]) (w15) (fun e17 w18 =>
                         ∃ b19 : Bool, (e17 = Ending.returned (Value.bool b19) ∧
                          Calls Tryd.prog (35 : Nat) (Array.mk [Value.string x1]) (w18) (fun e20 w21 =>
                            ∃ b22 : Bool, (e20 = Ending.returned (Value.bool b22) ∧
                             ((((!b19 == b22) = true →
                                R (Value.bool false) w21)) ∧
                              ((!b19 == b22) = false →
                                ((((n13 != 0) = true →
                                   R (Value.bool (Option.isNone p6)) w21)) ∧
                                 ((n13 != 0) = false →
                                   ∃ I23 : Int → Int → World → Prop, ∃ I24 : Int → Int → World → Nat, (I23 0 0 w21 ∧
                                    ∀ n25 : Int,
                                    ∀ n26 : Int,
                                    ∀ w27 : World,
                                    (I23 n25 n26 w27 →
                                      (((decide (n26 < (↑l3.2 : Int)) = true →
                                         ((0 ≤ n26 ∧
                                           n26 < (↑l3.2 : Int)) ∧
                                          ∃ a28 : Addr, (l3.1 = some a28 ∧
                                           ∃ s29 : ByteArray, (World.cell? w27 (Addr.add (Addr.add a28 (Int.toNat n26 * 2)) 1) = some (Value.string s29) ∧
                                            ((0 ≤ n26 ∧
                                              n26 < (↑l3.2 : Int)) ∧
                                             ∃ a30 : Addr, (l3.1 = some a30 ∧
                                              (Wr w27 (Addr.add a30 (Int.toNat n26 * 2)) ∧
                                               ∀ w31 : World,
                                               (w31 = World.setCell w27 (Addr.add a30 (Int.toNat n26 * 2)) (Value.string (ByteArray.mk (Array.mk [120]))) →
                                                 (I23 (IntKind.wrap IntKind.i64 (n25 + (↑(ByteArray.size s29) : Int))) (IntKind.wrap IntKind.i64 (n26 + 1)) w31 ∧
                                                  I24 (IntKind.wrap IntKind.i64 (n25 + (↑(ByteArray.size s29) : Int))) (IntKind.wrap IntKind.i64 (n26 + 1)) w31 < I24 n25 n26 w27)))))))))) ∧
                                       (decide (n26 < (↑l3.2 : Int)) = false →
                                         Calls Tryd.prog (26 : Nat) (Array.mk [Value.slice x0a x0n x0c, Value.int IntKind.i64 200]) (w27) (fun e32 w33 =>
                                           ∃ l34 : Sl, (e32 = Ending.returned (Value.slice l34.1 l34.2 l34.3) ∧
                                            Calls Tryd.prog (36 : Nat) (Array.mk [Value.pointer p6, Value.string x1]) (w33) (fun e35 w36 =>
                                              ∃ s37 : ByteArray, ∃ n38 : Int, (e35 = Ending.returned (Value.tuple (Array.mk [Value.string s37, Value.int IntKind.i64 n38])) ∧
                                               Calls Tryd.prog (37 : Nat) (Array.mk [Value.slice l34.1 l34.2 l34.3, Value.string x1]) (w36) (fun e39 w40 =>
                                                 ∃ s41 : ByteArray, ∃ b42 : Bool, (e39 = Ending.returned (Value.tuple (Array.mk [Value.string s41, Value.bool b42])) ∧
                                                  Calls Tryd.prog (38 : Nat) (Array.mk [Value.pointer p6, Value.string x1]) (w40) (fun e43 w44 =>
                                                    ∃ l45 : Sl, ∃ n46 : Int, (e43 = Ending.returned (Value.tuple (Array.mk [Value.slice l45.1 l45.2 l45.3, Value.int IntKind.i64 n46])) ∧
                                                     Calls Tryd.prog (39 : Nat) (Array.mk [Value.slice l34.1 l34.2 l34.3, Value.string x1]) (w44) (fun e47 w48 =>
                                                       ∃ l49 : Sl, ∃ n50 : Int, (e47 = Ending.returned (Value.tuple (Array.mk [Value.slice l49.1 l49.2 l49.3, Value.int IntKind.i64 n50])) ∧
                                                        Calls Tryd.prog (32 : Nat) (Array.mk [Value.pointer p6]) (w48) (fun e51 w52 =>
                                                          ∃ n53 : Int, (e51 = Ending.returned (Value.int IntKind.i64 n53) ∧
                                                           ((((n53 == (↑l34.2 : Int)) = true →
                                                              Calls Tryd.prog (30 : Nat) (Array.mk [Value.pointer p6]) (w52) (fun e54 w55 =>
                                                                ∃ n56 : Int, (e54 = Ending.returned (Value.int IntKind.i64 n56) ∧
                                                                 ((((n56 == n25) = true →
                                                                    ((((ByteArray.toList s37 == ByteArray.toList s41) = true →
                                                                       (((((n38 == 0) == b42) = true →
                                                                          (((b42 = true →
                                                                             Calls Tryd.prog (40 : Nat) (Array.mk [Value.slice l45.1 l45.2 l45.3, Value.slice l49.1 l49.2 l49.3]) (w55) (fun e57 w58 =>
                                                                               ∃ b59 : Bool, (e57 = Ending.returned (Value.bool b59) ∧
                                                                                (((b59 = true →
                                                                                   ((((n46 == n50) = true →
                                                                                      Calls Tryd.prog (31 : Nat) (Array.mk [Value.pointer p6, Value.string x2]) (w58) (fun e60 w61 =>
                                                                                        ∃ l62 : Sl, (e60 = Ending.returned (Value.slice l62.1 l62.2 l62.3) ∧
                                                                                         Calls Tryd.prog (41 : Nat) (Array.mk [Value.slice l34.1 l34.2 l34.3, Value.string x2]) (w61) (fun e63 w64 =>
                                                                                           ∃ l65 : Sl, (e63 = Ending.returned (Value.slice l65.1 l65.2 l65.3) ∧
                                                                                            Calls Tryd.prog (40 : Nat) (Array.mk [Value.slice l62.1 l62.2 l62.3, Value.slice l65.1 l65.2 l65.3]) (w64) (fun e66 w67 =>
                                                                                              ∃ b68 : Bool, (e66 = Ending.returned (Value.bool b68) ∧
                                                                                               R (Value.bool b68) w67)))))))) ∧
                                                                                    ((n46 == n50) = false →
                                                                                      R (Value.bool false) w58)))) ∧
                                                                                 (b59 = false →
                                                                                   R (Value.bool false) w58)))))) ∧
                                                                           (b42 = false →
                                                                             ((((n38 == 7) = true →
                                                                                Calls Tryd.prog (40 : Nat) (Array.mk [Value.slice l45.1 l45.2 l45.3, Value.slice l49.1 l49.2 l49.3]) (w55) (fun e69 w70 =>
                                                                                  ∃ b71 : Bool, (e69 = Ending.returned (Value.bool b71) ∧
                                                                                   (((b71 = true →
                                                                                      ((((n46 == n50) = true →
                                                                                         Calls Tryd.prog (31 : Nat) (Array.mk [Value.pointer p6, Value.string x2]) (w70) (fun e72 w73 =>
                                                                                           ∃ l74 : Sl, (e72 = Ending.returned (Value.slice l74.1 l74.2 l74.3) ∧
                                                                                            Calls Tryd.prog (41 : Nat) (Array.mk [Value.slice l34.1 l34.2 l34.3, Value.string x2]) (w73) (fun e75 w76 =>
                                                                                              ∃ l77 : Sl, (e75 = Ending.returned (Value.slice l77.1 l77.2 l77.3) ∧
                                                                                               Calls Tryd.prog (40 : Nat) (Array.mk [Value.slice l74.1 l74.2 l74.3, Value.slice l77.1 l77.2 l77.3]) (w76) (fun e78 w79 =>
                                                                                                 ∃ b80 : Bool, (e78 = Ending.returned (Value.bool b80) ∧
                                                                                                  R (Value.bool b80) w79)))))))) ∧
                                                                                       ((n46 == n50) = false →
                                                                                         R (Value.bool false) w70)))) ∧
                                                                                    (b71 = false →
                                                                                      R (Value.bool false) w70)))))) ∧
                                                                              ((n38 == 7) = false →
                                                                                R (Value.bool false) w55)))))) ∧
                                                                        (((n38 == 0) == b42) = false →
                                                                          R (Value.bool false) w55)))) ∧
                                                                     ((ByteArray.toList s37 == ByteArray.toList s41) = false →
                                                                       R (Value.bool false) w55)))) ∧
                                                                  ((n56 == n25) = false →
                                                                    R (Value.bool false) w55)))))) ∧
                                                            ((n53 == (↑l34.2 : Int)) = false →
                                                              R (Value.bool false) w52))))))))))))))))))))))))))))))))))))))))
theorem vc_cartularylaw07_SnapReads_ok {x0a : Option Addr} {x0n : Nat} {x0c : Nat} {x1 : ByteArray} {x2 : ByteArray} {w : World} {R : Value → World → Prop} {R' : Ending → World → Prop} (h : vc_cartularylaw07_SnapReads x0a x0n x0c x1 x2 w R) (hR : ∀ v w', R v w' → R' (.returned v) w') :
    Calls Tryd.prog 11 #[.slice x0a x0n x0c, .string x1, .string x2] w R' :=
  calls_of_body (vs := [(.slice x0a x0n x0c, false), (.string x1, false), (.string x2, false)]) (ty := ty) (ann := ⟨[], [(10, [(11, .int .i64), (51, .int .i64)])], [], []⟩) (c := Tryd.f11.body.getD .skip) (by kernel_rfl) Tryd.func11 (by kernel_rfl) (by kernel_rfl) (Eq.mp (by kernel_rfl) h) hR
/-- cartularylaw07.SnapFull -/
def vc_cartularylaw07_SnapFull (x0 : Int) (x1 : Int) (w : World) (R : Value → World → Prop) : Prop :=
  (((decide (x0 < 0) = true →
     Calls Tryd.prog (28 : Nat) (Array.mk []) (w) (fun e1 w2 =>
       ∃ b3 : Bool, (e1 = Ending.returned (Value.bool b3) ∧
        R (Value.bool b3) w2)))) ∧
   (decide (x0 < 0) = false →
     (((decide (x0 > 2100) = true →
        Calls Tryd.prog (28 : Nat) (Array.mk []) (w) (fun e4 w5 =>
          ∃ b6 : Bool, (e4 = Ending.returned (Value.bool b6) ∧
           R (Value.bool b6) w5)))) ∧
      (decide (x0 > 2100) = false →
        (((decide (x1 < 0) = true →
           Calls Tryd.prog (28 : Nat) (Array.mk []) (w) (fun e7 w8 =>
             ∃ b9 : Bool, (e7 = Ending.returned (Value.bool b9) ∧
              R (Value.bool b9) w8)))) ∧
         (decide (x1 < 0) = false →
           (((decide (x1 > 5000) = true →
              Calls Tryd.prog (28 : Nat) (Array.mk []) (w) (fun e10 w11 =>
                ∃ b12 : Bool, (e10 = Ending.returned (Value.bool b12) ∧
                 R (Value.bool b12) w11)))) ∧
            (decide (x1 > 5000) = false →
              ∀ w13 : World,
              (w13 = World.alloc w (Obj.cells (Array.mk []) 50) →
                ∃ I14 : Sl → Int → World → Prop, ∃ I15 : Sl → Int → World → Nat, (I14 (Sl.mk (some (Addr.mk (Array.size (World.heap w)) 0 none)) 0 0) 0 w13 ∧
                 ∀ l16 : Sl,
                 ∀ n17 : Int,
                 ∀ w18 : World,
                 (I14 l16 n17 w18 →
                   (((decide (n17 < x0) = true →
                      ∀ w19 : World,
                      (Drew w18 w19 →
                        ∃ I20 : World → Prop, (I20 w19 ∧
                         ((676 : Int) ≠ (0 : Int) ∧
                          ((26 : Int) ≠ (0 : Int) ∧
                           ((26 : Int) ≠ (0 : Int) ∧
                            ((26 : Int) ≠ (0 : Int) ∧
                             ((∀ w21 : World,
                              (w21 = World.alloc w19 (Obj.cells (Array.mk [Value.int IntKind.u8 102, Value.int IntKind.u8 (IntKind.wrap IntKind.u8 (IntKind.wrap IntKind.i64 (97 + IntKind.wrap IntKind.i64 (Int.tdiv n17 676)))), Value.int IntKind.u8 (IntKind.wrap IntKind.u8 (IntKind.wrap IntKind.i64 (97 + Int.tmod (IntKind.wrap IntKind.i64 (Int.tdiv n17 26)) 26))), Value.int IntKind.u8 (IntKind.wrap IntKind.u8 (IntKind.wrap IntKind.i64 (97 + Int.tmod n17 26)))]) 5) →
                                (I20 w21 ∧
                                 ((∃ w22 : World, ∃ s23 : ByteArray, (Sem.run Tryd.prog (convert 41 9 (Value.slice (some (Addr.mk (Array.size (World.heap w19)) 0 none)) 4 4)) w21 = Result.ok (Value.string s23) w22 ∧
                                   (I20 w22 ∧
                                    ∃ w24 : World, ∃ l25 : Sl, (Sem.run Tryd.prog (Instr.makeSlice 41 (Value.int IntKind.i64 x1) (Value.int IntKind.i64 x1)) w22 = Result.ok (Value.slice l25.1 l25.2 l25.3) w24 ∧
                                     (I20 w24 ∧
                                      ∃ w26 : World, ∃ s27 : ByteArray, (Sem.run Tryd.prog (convert 41 9 (Value.slice l25.1 l25.2 l25.3)) w24 = Result.ok (Value.string s27) w26 ∧
                                       (I20 w26 ∧
                                        ∀ w28 : World,
                                        (w28 = World.alloc w26 (Obj.cells (Array.mk [Value.string s23, Value.string s27]) 50) →
                                          (I20 w28 ∧
                                           ∃ w29 : World, ∃ l30 : Sl, (Sem.run Tryd.prog (Builtin.append_ (Array.mk [47, 47]) 47 (Array.mk [Value.slice l16.1 l16.2 l16.3, Value.slice (some (Addr.mk (Array.size (World.heap w26)) 0 none)) 1 1])) w28 = Result.ok (Value.slice l30.1 l30.2 l30.3) w29 ∧
                                            (I20 w29 ∧
                                             (I14 (Sl.mk l30.1 l30.2 l30.3) (IntKind.wrap IntKind.i64 (n17 + 1)) w29 ∧
                                              I15 (Sl.mk l30.1 l30.2 l30.3) (IntKind.wrap IntKind.i64 (n17 + 1)) w29 < I15 l16 n17 w18)))))))))))) ∧
                                  ∃ w31 : World, ∃ l32 : Sl, (Sem.run Tryd.prog (Instr.makeSlice 41 (Value.int IntKind.i64 x1) (Value.int IntKind.i64 x1)) w21 = Result.ok (Value.slice l32.1 l32.2 l32.3) w31 ∧
                                   (I20 w31 ∧
                                    ((∃ w33 : World, ∃ s34 : ByteArray, (Sem.run Tryd.prog (convert 41 9 (Value.slice (some (Addr.mk (Array.size (World.heap w19)) 0 none)) 4 4)) w31 = Result.ok (Value.string s34) w33 ∧
                                      (I20 w33 ∧
                                       ∃ w35 : World, ∃ s36 : ByteArray, (Sem.run Tryd.prog (convert 41 9 (Value.slice l32.1 l32.2 l32.3)) w33 = Result.ok (Value.string s36) w35 ∧
                                        (I20 w35 ∧
                                         ∀ w37 : World,
                                         (w37 = World.alloc w35 (Obj.cells (Array.mk [Value.string s34, Value.string s36]) 50) →
                                           (I20 w37 ∧
                                            ∃ w38 : World, ∃ l39 : Sl, (Sem.run Tryd.prog (Builtin.append_ (Array.mk [47, 47]) 47 (Array.mk [Value.slice l16.1 l16.2 l16.3, Value.slice (some (Addr.mk (Array.size (World.heap w35)) 0 none)) 1 1])) w37 = Result.ok (Value.slice l39.1 l39.2 l39.3) w38 ∧
                                             (I20 w38 ∧
                                              (I14 (Sl.mk l39.1 l39.2 l39.3) (IntKind.wrap IntKind.i64 (n17 + 1)) w38 ∧
                                               I15 (Sl.mk l39.1 l39.2 l39.3) (IntKind.wrap IntKind.i64 (n17 + 1)) w38 < I15 l16 n17 w18)))))))))) ∧
                                     ∃ w40 : World, ∃ s41 : ByteArray, (Sem.run Tryd.prog (convert 41 9 (Value.slice l32.1 l32.2 l32.3)) w31 = Result.ok (Value.string s41) w40 ∧
                                      (I20 w40 ∧
                                       ∃ w42 : World, ∃ s43 : ByteArray, (Sem.run Tryd.prog (convert 41 9 (Value.slice (some (Addr.mk (Array.size (World.heap w19)) 0 none)) 4 4)) w40 = Result.ok (Value.string s43) w42 ∧
                                        (I20 w42 ∧
                                         ∀ w44 : World,
                                         (w44 = World.alloc w42 (Obj.cells (Array.mk [Value.string s43, Value.string s41]) 50) →
                                           (I20 w44 ∧
                                            ∃ w45 : World, ∃ l46 : Sl, (Sem.run Tryd.prog (Builtin.append_ (Array.mk [47, 47]) 47 (Array.mk [Value.slice l16.1 l16.2 l16.3, Value.slice (some (Addr.mk (Array.size (World.heap w42)) 0 none)) 1 1])) w44 = Result.ok (Value.slice l46.1 l46.2 l46.3) w45 ∧
                                             (I20 w45 ∧
                                              (I14 (Sl.mk l46.1 l46.2 l46.3) (IntKind.wrap IntKind.i64 (n17 + 1)) w45 ∧
                                               I15 (Sl.mk l46.1 l46.2 l46.3) (IntKind.wrap IntKind.i64 (n17 + 1)) w45 < I15 l16 n17 w18)))))))))))))))) ∧
                              ∃ w47 : World, ∃ l48 : Sl, (Sem.run Tryd.prog (Instr.makeSlice 41 (Value.int IntKind.i64 x1) (Value.int IntKind.i64 x1)) w19 = Result.ok (Value.slice l48.1 l48.2 l48.3) w47 ∧
                               (I20 w47 ∧
                                ((∀ w49 : World,
                                 (w49 = World.alloc w47 (Obj.cells (Array.mk [Value.int IntKind.u8 102, Value.int IntKind.u8 (IntKind.wrap IntKind.u8 (IntKind.wrap IntKind.i64 (97 + IntKind.wrap IntKind.i64 (Int.tdiv n17 676)))), Value.int IntKind.u8 (IntKind.wrap IntKind.u8 (IntKind.wrap IntKind.i64 (97 + Int.tmod (IntKind.wrap IntKind.i64 (Int.tdiv n17 26)) 26))), Value.int IntKind.u8 (IntKind.wrap IntKind.u8 (IntKind.wrap IntKind.i64 (97 + Int.tmod n17 26)))]) 5) →
                                   (I20 w49 ∧
                                    ((∃ w50 : World, ∃ s51 : ByteArray, (Sem.run Tryd.prog (convert 41 9 (Value.slice (some (Addr.mk (Array.size (World.heap w47)) 0 none)) 4 4)) w49 = Result.ok (Value.string s51) w50 ∧
                                      (I20 w50 ∧
                                       ∃ w52 : World, ∃ s53 : ByteArray, (Sem.run Tryd.prog (convert 41 9 (Value.slice l48.1 l48.2 l48.3)) w50 = Result.ok (Value.string s53) w52 ∧
                                        (I20 w52 ∧
                                         ∀ w54 : World,
                                         (w54 = World.alloc w52 (Obj.cells (Array.mk [Value.string s51, Value.string s53]) 50) →
                                           (I20 w54 ∧
                                            ∃ w55 : World, ∃ l56 : Sl, (Sem.run Tryd.prog (Builtin.append_ (Array.mk [47, 47]) 47 (Array.mk [Value.slice l16.1 l16.2 l16.3, Value.slice (some (Addr.mk (Array.size (World.heap w52)) 0 none)) 1 1])) w54 = Result.ok (Value.slice l56.1 l56.2 l56.3) w55 ∧
                                             (I20 w55 ∧
                                              (I14 (Sl.mk l56.1 l56.2 l56.3) (IntKind.wrap IntKind.i64 (n17 + 1)) w55 ∧
                                               I15 (Sl.mk l56.1 l56.2 l56.3) (IntKind.wrap IntKind.i64 (n17 + 1)) w55 < I15 l16 n17 w18)))))))))) ∧
                                     ∃ w57 : World, ∃ s58 : ByteArray, (Sem.run Tryd.prog (convert 41 9 (Value.slice l48.1 l48.2 l48.3)) w49 = Result.ok (Value.string s58) w57 ∧
                                      (I20 w57 ∧
                                       ∃ w59 : World, ∃ s60 : ByteArray, (Sem.run Tryd.prog (convert 41 9 (Value.slice (some (Addr.mk (Array.size (World.heap w47)) 0 none)) 4 4)) w57 = Result.ok (Value.string s60) w59 ∧
                                        (I20 w59 ∧
                                         ∀ w61 : World,
                                         (w61 = World.alloc w59 (Obj.cells (Array.mk [Value.string s60, Value.string s58]) 50) →
                                           (I20 w61 ∧
                                            ∃ w62 : World, ∃ l63 : Sl, (Sem.run Tryd.prog (Builtin.append_ (Array.mk [47, 47]) 47 (Array.mk [Value.slice l16.1 l16.2 l16.3, Value.slice (some (Addr.mk (Array.size (World.heap w59)) 0 none)) 1 1])) w61 = Result.ok (Value.slice l63.1 l63.2 l63.3) w62 ∧
                                             (I20 w62 ∧
                                              (I14 (Sl.mk l63.1 l63.2 l63.3) (IntKind.wrap IntKind.i64 (n17 + 1)) w62 ∧
                                               I15 (Sl.mk l63.1 l63.2 l63.3) (IntKind.wrap IntKind.i64 (n17 + 1)) w62 < I15 l16 n17 w18))))))))))))) ∧
                                 ∃ w64 : World, ∃ s65 : ByteArray, (Sem.run Tryd.prog (convert 41 9 (Value.slice l48.1 l48.2 l48.3)) w47 = Result.ok (Value.string s65) w64 ∧
                                  (I20 w64 ∧
                                   ∀ w66 : World,
                                   (w66 = World.alloc w64 (Obj.cells (Array.mk [Value.int IntKind.u8 102, Value.int IntKind.u8 (IntKind.wrap IntKind.u8 (IntKind.wrap IntKind.i64 (97 + IntKind.wrap IntKind.i64 (Int.tdiv n17 676)))), Value.int IntKind.u8 (IntKind.wrap IntKind.u8 (IntKind.wrap IntKind.i64 (97 + Int.tmod (IntKind.wrap IntKind.i64 (Int.tdiv n17 26)) 26))), Value.int IntKind.u8 (IntKind.wrap IntKind.u8 (IntKind.wrap IntKind.i64 (97 + Int.tmod n17 26)))]) 5) →
                                     (I20 w66 ∧
                                      ∃ w67 : World, ∃ s68 : ByteArray, (Sem.run Tryd.prog (convert 41 9 (Value.slice (some (Addr.mk (Array.size (World.heap w64)) 0 none)) 4 4)) w66 = Result.ok (Value.string s68) w67 ∧
                                       (I20 w67 ∧
                                        ∀ w69 : World,
                                        (w69 = World.alloc w67 (Obj.cells (Array.mk [Value.string s68, Value.string s65]) 50) →
                                          (I20 w69 ∧
                                           ∃ w70 : World, ∃ l71 : Sl, (Sem.run Tryd.prog (Builtin.append_ (Array.mk [47, 47]) 47 (Array.mk [Value.slice l16.1 l16.2 l16.3, Value.slice (some (Addr.mk (Array.size (World.heap w67)) 0 none)) 1 1])) w69 = Result.ok (Value.slice l71.1 l71.2 l71.3) w70 ∧
                                            (I20 w70 ∧
                                             (I14 (Sl.mk l71.1 l71.2 l71.3) (IntKind.wrap IntKind.i64 (n17 + 1)) w70 ∧
                                              I15 (Sl.mk l71.1 l71.2 l71.3) (IntKind.wrap IntKind.i64 (n17 + 1)) w70 < I15 l16 n17 w18))))))))))))))))))))))) ∧
                    (decide (n17 < x0) = false →
                      Calls Tryd.prog (27 : Nat) (Array.mk [Value.slice l16.1 l16.2 l16.3]) (w18) (fun e72 w73 =>
                        ∃ p74 : Option Addr, ∃ n75 : Int, (e72 = Ending.returned (Value.tuple (Array.mk [Value.pointer p74, Value.int IntKind.i64 n75])) ∧
                         (((decide (x0 > 2000) = true →
                            Calls Tryd.prog (28 : Nat) (Array.mk []) (w73) (fun e76 w77 =>
                              ∃ b78 : Bool, (e76 = Ending.returned (Value.bool b78) ∧
                               (((b78 = true →
                                  ((((n75 == 2) = true →
                                     R (Value.bool (Option.isNone p74)) w77)) ∧
                                   ((n75 == 2) = false →
                                     R (Value.bool false) w77)))) ∧
                                (b78 = false →
                                  R (Value.bool false) w77)))))) ∧
                          (decide (x0 > 2000) = false →
                            (((decide (IntKind.wrap IntKind.i64 (x0 * x1) > 4194304) = true →
                               Calls Tryd.prog (28 : Nat) (Array.mk []) (w73) (fun e79 w80 =>
                                 ∃ b81 : Bool, (e79 = Ending.returned (Value.bool b81) ∧
                                  (((b81 = true →
                                     ((((n75 == 2) = true →
                                        R (Value.bool (Option.isNone p74)) w80)) ∧
                                      ((n75 == 2) = false →
                                        R (Value.bool false) w80)))) ∧
                                   (b81 = false →
                                     R (Value.bool false) w80)))))) ∧
                             (decide (IntKind.wrap IntKind.i64 (x0 * x1) > 4194304) = false →
                               Calls Tryd.prog (28 : Nat) (Array.mk []) (w73) (fun e82 w83 =>
                                 ∃ b84 : Bool, (e82 = Ending.returned (Value.bool b84) ∧
                                  (((b84 = true →
                                     ((((n75 == 0) = true →
                                        ((((!Option.isNone p74) = true →
                                           Calls Tryd.prog (32 : Nat) (Array.mk [Value.pointer p74]) (w83) (fun e85 w86 =>
                                             ∃ n87 : Int, (e85 = Ending.returned (Value.int IntKind.i64 n87) ∧
                                              ((((n87 == x0) = true →
                                                 Calls Tryd.prog (30 : Nat) (Array.mk [Value.pointer p74]) (w86) (fun e88 w89 =>
                                                   ∃ n90 : Int, (e88 = Ending.returned (Value.int IntKind.i64 n90) ∧
                                                    ((((n90 == IntKind.wrap IntKind.i64 (x0 * x1)) = true →
                                                       Calls Tryd.prog (31 : Nat) (Array.mk [Value.pointer p74, Value.string (ByteArray.mk (Array.mk [102]))]) (w89) (fun e91 w92 =>
                                                         ∃ l93 : Sl, (e91 = Ending.returned (Value.slice l93.1 l93.2 l93.3) ∧
                                                          R (Value.bool ((↑l93.2 : Int) == x0)) w92)))) ∧
                                                     ((n90 == IntKind.wrap IntKind.i64 (x0 * x1)) = false →
                                                       R (Value.bool false) w89)))))) ∧
                                               ((n87 == x0) = false →
                                                 R (Value.bool false) w86)))))) ∧
                                         ((!Option.isNone p74) = false →
                                           R (Value.bool false) w83)))) ∧
                                      ((n75 == 0) = false →
                                        R (Value.bool false) w83)))) ∧
                                   (b84 = false →
                                     R (Value.bool false) w83)))))))))))))))))))))))
theorem vc_cartularylaw07_SnapFull_ok {x0 : Int} {x1 : Int} {w : World} {R : Value → World → Prop} {R' : Ending → World → Prop} (h : vc_cartularylaw07_SnapFull x0 x1 w R) (hR : ∀ v w', R v w' → R' (.returned v) w') :
    Calls Tryd.prog 12 #[.int .i64 x0, .int .i64 x1] w R' :=
  calls_of_body (vs := [(.int .i64 x0, false), (.int .i64 x1, false)]) (ty := ty) (ann := ⟨[], [(5, [(5, .slice), (6, .int .i64)])], [(7, .tree (.rd 0 (.rd 1 (.rd 2 (.rd 3 (.rd 4 (.rd 5 (.rd 6 (.rd 7 (.rd 8 (.rd 9 (.rd 10 (.rd 11 (.rd 12 (.rd 13 (.rd 16 (.ef 14 (.ef 15 (.ef 17 (.ef 18 (.rd 19 (.ef 20 (.ef 21 (.rd 22 .done) .done) .done)) .done) .done) (.ef 17 (.ef 15 (.ef 18 (.rd 19 (.ef 20 (.ef 21 (.rd 22 .done) .done) .done)) .done) (.ef 18 (.ef 15 (.rd 19 (.ef 20 (.ef 21 (.rd 22 .done) .done) .done)) .done) .done)) .done)) (.ef 17 (.ef 14 (.ef 15 (.ef 18 (.rd 19 (.ef 20 (.ef 21 (.rd 22 .done) .done) .done)) .done) (.ef 18 (.ef 15 (.rd 19 (.ef 20 (.ef 21 (.rd 22 .done) .done) .done)) .done) .done)) (.ef 18 (.ef 14 (.ef 15 (.rd 19 (.ef 20 (.ef 21 (.rd 22 .done) .done) .done)) .done) .done) .done)) .done))))))))))))))))))], []⟩) (c := Tryd.f12.body.getD .skip) (by kernel_rfl) Tryd.func12 (by kernel_rfl) (by kernel_rfl) (Eq.mp (by kernel_rfl) h) hR
end Go.Proofs.YtmihbbgojkbaeaaDoor

/- Formulas of 4 Go functions of this seat (written by a program of the author's, vcgen.py), and that each is enough for the call. No condition. -/
import Derived.Test.YtoagdpjickippaaDoorTy
import Derived.Test.YtoagdpjickippaaDoorProg
set_option linter.unusedVariables false
namespace Go.Proofs.YtoagdpjickippaaDoor
open Go Vc Go.Proofs
set_option maxRecDepth 100000
/-- internal/stringslite.Index -/
def vc_stringslite_Index (x0 : ByteArray) (x1 : ByteArray) (w : World) (R : Value → World → Prop) : Prop :=
  ∃ I1 : World → Prop, ((((((↑(ByteArray.size x1) : Int) == 0) = true →
      R (Value.int IntKind.i64 0) w)) ∧
    (((↑(ByteArray.size x1) : Int) == 0) = false →
      ((((ByteArray.toList x1 == ByteArray.toList x0) = true →
         R (Value.int IntKind.i64 0) w)) ∧
       ((ByteArray.toList x1 == ByteArray.toList x0) = false →
         (((((↑(ByteArray.size x1) : Int) == 1) = true →
            (((0 : Int) ≤ (0 : Int) ∧
              0 < (↑(ByteArray.size x1) : Int)) ∧
             Calls Tryd.prog (75 : Nat) (Array.mk [Value.string x0, Value.int IntKind.u8 (byteAt x1 0)]) (w) (fun e2 w3 =>
               ∃ n4 : Int, (e2 = Ending.returned (Value.int IntKind.i64 n4) ∧
                R (Value.int IntKind.i64 n4) w3))))) ∧
          (((↑(ByteArray.size x1) : Int) == 1) = false →
            (((decide ((↑(ByteArray.size x1) : Int) ≥ (↑(ByteArray.size x0) : Int)) = true →
               R (Value.int IntKind.i64 (-1)) w)) ∧
             (decide ((↑(ByteArray.size x1) : Int) ≥ (↑(ByteArray.size x0) : Int)) = false →
               ∃ n5 : Int, (World.cell? w (Addr.mk 0 0 none) = some (Value.int IntKind.i64 n5) ∧
                (((decide ((↑(ByteArray.size x1) : Int) ≤ n5) = true →
                   (((decide ((↑(ByteArray.size x0) : Int) ≤ 64) = true →
                      False)) ∧
                    (decide ((↑(ByteArray.size x0) : Int) ≤ 64) = false →
                      I1 w)))) ∧
                 (decide ((↑(ByteArray.size x1) : Int) ≤ n5) = false →
                   I1 w))))))))))) ∧
   ∀ w6 : World,
   (I1 w6 →
     (((0 : Int) ≤ (0 : Int) ∧
       0 < (↑(ByteArray.size x1) : Int)) ∧
      (((0 : Int) ≤ (1 : Int) ∧
        1 < (↑(ByteArray.size x1) : Int)) ∧
       ∃ I7 : Int → Int → World → Prop, ∃ I8 : Int → Int → World → Nat, (I7 0 0 w6 ∧
        ∀ n9 : Int,
        ∀ n10 : Int,
        ∀ w11 : World,
        (I7 n9 n10 w11 →
          (((decide (n9 < IntKind.wrap IntKind.i64 (IntKind.wrap IntKind.i64 ((↑(ByteArray.size x0) : Int) - (↑(ByteArray.size x1) : Int)) + 1)) = true →
             ∃ I12 : Int → World → Prop, (((0 ≤ n9 ∧
                n9 < (↑(ByteArray.size x0) : Int)) ∧
               ((((byteAt x0 n9 != byteAt x1 0) = true →
                  ((0 ≤ IntKind.wrap IntKind.i64 (n9 + 1) ∧
                    (IntKind.wrap IntKind.i64 (n9 + 1) ≤ IntKind.wrap IntKind.i64 (IntKind.wrap IntKind.i64 ((↑(ByteArray.size x0) : Int) - (↑(ByteArray.size x1) : Int)) + 1) ∧
                     IntKind.wrap IntKind.i64 (IntKind.wrap IntKind.i64 ((↑(ByteArray.size x0) : Int) - (↑(ByteArray.size x1) : Int)) + 1) ≤ (↑(ByteArray.size x0) : Int))) ∧
                   Calls Tryd.prog (75 : Nat) (Array.mk [Value.string (ByteArray.extract x0 (Int.toNat (IntKind.wrap IntKind.i64 (n9 + 1))) (Int.toNat (IntKind.wrap IntKind.i64 (IntKind.wrap IntKind.i64 ((↑(ByteArray.size x0) : Int) - (↑(ByteArray.size x1) : Int)) + 1)))), Value.int IntKind.u8 (byteAt x1 0)]) (w11) (fun e13 w14 =>
                     ∃ n15 : Int, (e13 = Ending.returned (Value.int IntKind.i64 n15) ∧
                      (((decide (n15 < 0) = true →
                         R (Value.int IntKind.i64 (-1)) w14)) ∧
                       (decide (n15 < 0) = false →
                         I12 (IntKind.wrap IntKind.i64 (n9 + IntKind.wrap IntKind.i64 (n15 + 1))) w14))))))) ∧
                ((byteAt x0 n9 != byteAt x1 0) = false →
                  I12 n9 w11))) ∧
              ∀ n16 : Int,
              ∀ w17 : World,
              (I12 n16 w17 →
                ∃ I18 : World → Prop, (((0 ≤ IntKind.wrap IntKind.i64 (n16 + 1) ∧
                   IntKind.wrap IntKind.i64 (n16 + 1) < (↑(ByteArray.size x0) : Int)) ∧
                  ((((byteAt x0 (IntKind.wrap IntKind.i64 (n16 + 1)) == byteAt x1 1) = true →
                     ((0 ≤ n16 ∧
                       (n16 ≤ IntKind.wrap IntKind.i64 (n16 + (↑(ByteArray.size x1) : Int)) ∧
                        IntKind.wrap IntKind.i64 (n16 + (↑(ByteArray.size x1) : Int)) ≤ (↑(ByteArray.size x0) : Int))) ∧
                      ((((ByteArray.toList (ByteArray.extract x0 (Int.toNat n16) (Int.toNat (IntKind.wrap IntKind.i64 (n16 + (↑(ByteArray.size x1) : Int))))) == ByteArray.toList x1) = true →
                         R (Value.int IntKind.i64 n16) w17)) ∧
                       ((ByteArray.toList (ByteArray.extract x0 (Int.toNat n16) (Int.toNat (IntKind.wrap IntKind.i64 (n16 + (↑(ByteArray.size x1) : Int))))) == ByteArray.toList x1) = false →
                         I18 w17))))) ∧
                   ((byteAt x0 (IntKind.wrap IntKind.i64 (n16 + 1)) == byteAt x1 1) = false →
                     I18 w17))) ∧
                 ∀ w19 : World,
                 (I18 w19 →
                   ∃ I20 : Bool → World → Prop, ((∃ n21 : Int, (World.cell? w19 (Addr.mk 0 0 none) = some (Value.int IntKind.i64 n21) ∧
                     (((decide ((↑(ByteArray.size x1) : Int) ≤ n21) = true →
                        Calls Tryd.prog (77 : Nat) (Array.mk [Value.int IntKind.i64 (IntKind.wrap IntKind.i64 (n16 + 1))]) (w19) (fun e22 w23 =>
                          ∃ n24 : Int, (e22 = Ending.returned (Value.int IntKind.i64 n24) ∧
                           I20 (decide (IntKind.wrap IntKind.i64 (n10 + 1) > n24)) w23)))) ∧
                      (decide ((↑(ByteArray.size x1) : Int) ≤ n21) = false →
                        I20 false w19)))) ∧
                    ∀ b25 : Bool,
                    ∀ w26 : World,
                    (I20 b25 w26 →
                      (((b25 = true →
                         ((0 ≤ IntKind.wrap IntKind.i64 (n16 + 1) ∧
                           IntKind.wrap IntKind.i64 (n16 + 1) ≤ (↑(ByteArray.size x0) : Int)) ∧
                          False))) ∧
                       (b25 = false →
                         ∃ n27 : Int, (World.cell? w26 (Addr.mk 0 0 none) = some (Value.int IntKind.i64 n27) ∧
                          (((decide ((↑(ByteArray.size x1) : Int) > n27) = true →
                             ((0 : Int) ≤ (4 : Int) ∧
                              (((decide (IntKind.wrap IntKind.i64 (n10 + 1) ≥ IntKind.wrap IntKind.i64 (4 + Int.fdiv (IntKind.wrap IntKind.i64 (n16 + 1)) (2 ^ min (Int.toNat 4) 64))) = true →
                                 (((decide (IntKind.wrap IntKind.i64 (n16 + 1) < IntKind.wrap IntKind.i64 (IntKind.wrap IntKind.i64 ((↑(ByteArray.size x0) : Int) - (↑(ByteArray.size x1) : Int)) + 1)) = true →
                                    ((0 ≤ IntKind.wrap IntKind.i64 (n16 + 1) ∧
                                      IntKind.wrap IntKind.i64 (n16 + 1) ≤ (↑(ByteArray.size x0) : Int)) ∧
                                     Calls Tryd.prog (78 : Nat) (Array.mk [Value.string (ByteArray.extract x0 (Int.toNat (IntKind.wrap IntKind.i64 (n16 + 1))) (ByteArray.size x0)), Value.string x1]) (w26) (fun e28 w29 =>
                                       ∃ n30 : Int, (e28 = Ending.returned (Value.int IntKind.i64 n30) ∧
                                        (((decide (n30 < 0) = true →
                                           R (Value.int IntKind.i64 (-1)) w29)) ∧
                                         (decide (n30 < 0) = false →
                                           R (Value.int IntKind.i64 (IntKind.wrap IntKind.i64 (IntKind.wrap IntKind.i64 (n16 + 1) + n30))) w29))))))) ∧
                                  (decide (IntKind.wrap IntKind.i64 (n16 + 1) < IntKind.wrap IntKind.i64 (IntKind.wrap IntKind.i64 ((↑(ByteArray.size x0) : Int) - (↑(ByteArray.size x1) : Int)) + 1)) = false →
                                    (I7 (IntKind.wrap IntKind.i64 (n16 + 1)) (IntKind.wrap IntKind.i64 (n10 + 1)) w26 ∧
                                     I8 (IntKind.wrap IntKind.i64 (n16 + 1)) (IntKind.wrap IntKind.i64 (n10 + 1)) w26 < I8 n9 n10 w11))))) ∧
                               (decide (IntKind.wrap IntKind.i64 (n10 + 1) ≥ IntKind.wrap IntKind.i64 (4 + Int.fdiv (IntKind.wrap IntKind.i64 (n16 + 1)) (2 ^ min (Int.toNat 4) 64))) = false →
                                 (I7 (IntKind.wrap IntKind.i64 (n16 + 1)) (IntKind.wrap IntKind.i64 (n10 + 1)) w26 ∧
                                  I8 (IntKind.wrap IntKind.i64 (n16 + 1)) (IntKind.wrap IntKind.i64 (n10 + 1)) w26 < I8 n9 n10 w11)))))) ∧
                           (decide ((↑(ByteArray.size x1) : Int) > n27) = false →
                             (I7 (IntKind.wrap IntKind.i64 (n16 + 1)) (IntKind.wrap IntKind.i64 (n10 + 1)) w26 ∧
                              I8 (IntKind.wrap IntKind.i64 (n16 + 1)) (IntKind.wrap IntKind.i64 (n10 + 1)) w26 < I8 n9 n10 w11)))))))))))))) ∧
           (decide (n9 < IntKind.wrap IntKind.i64 (IntKind.wrap IntKind.i64 ((↑(ByteArray.size x0) : Int) - (↑(ByteArray.size x1) : Int)) + 1)) = false →
             R (Value.int IntKind.i64 (-1)) w11))))))))
theorem vc_stringslite_Index_ok {x0 : ByteArray} {x1 : ByteArray} {w : World} {R : Value → World → Prop} {R' : Ending → World → Prop} (h : vc_stringslite_Index x0 x1 w R) (hR : ∀ v w', R v w' → R' (.returned v) w') :
    Calls Tryd.prog 56 #[.string x0, .string x1] w R' :=
  calls_of_body (vs := [(.string x0, false), (.string x1, false)]) (ty := ty) (ann := ⟨[(10, []), (21, [(8, .int .i64)]), (23, []), (26, [(107, .bool)])], [(15, [(8, .int .i64), (10, .int .i64)])], [], []⟩) (c := Tryd.f56.body.getD .skip) (by kernel_rfl) Tryd.func56 (by kernel_rfl) (by kernel_rfl) (Eq.mp (by kernel_rfl) h) hR
/-- strings.Index -/
def vc_strings_Index (x0 : ByteArray) (x1 : ByteArray) (w : World) (R : Value → World → Prop) : Prop :=
  Calls Tryd.prog (56 : Nat) (Array.mk [Value.string x0, Value.string x1]) (w) (fun e1 w2 =>
    ∃ n3 : Int, (e1 = Ending.returned (Value.int IntKind.i64 n3) ∧
     R (Value.int IntKind.i64 n3) w2))
theorem vc_strings_Index_ok {x0 : ByteArray} {x1 : ByteArray} {w : World} {R : Value → World → Prop} {R' : Ending → World → Prop} (h : vc_strings_Index x0 x1 w R) (hR : ∀ v w', R v w' → R' (.returned v) w') :
    Calls Tryd.prog 73 #[.string x0, .string x1] w R' :=
  calls_of_body (vs := [(.string x0, false), (.string x1, false)]) (ty := ty) (ann := ⟨[], [], [], []⟩) (c := Tryd.f73.body.getD .skip) (by kernel_rfl) Tryd.func73 (by kernel_rfl) (by kernel_rfl) (Eq.mp (by kernel_rfl) h) hR
/-- internal/stringslite.Cut -/
def vc_stringslite_Cut (x0 : ByteArray) (x1 : ByteArray) (w : World) (R : Value → World → Prop) : Prop :=
  Calls Tryd.prog (56 : Nat) (Array.mk [Value.string x0, Value.string x1]) (w) (fun e1 w2 =>
    ∃ n3 : Int, (e1 = Ending.returned (Value.int IntKind.i64 n3) ∧
     (((decide (n3 ≥ 0) = true →
        ((0 ≤ n3 ∧
          n3 ≤ (↑(ByteArray.size x0) : Int)) ∧
         ((0 ≤ IntKind.wrap IntKind.i64 (n3 + (↑(ByteArray.size x1) : Int)) ∧
           IntKind.wrap IntKind.i64 (n3 + (↑(ByteArray.size x1) : Int)) ≤ (↑(ByteArray.size x0) : Int)) ∧
          ∀ w4 : World,
          (Drew w2 w4 →
            R (Value.tuple (Array.mk [Value.string (ByteArray.extract x0 0 (Int.toNat n3)), Value.string (ByteArray.extract x0 (Int.toNat (IntKind.wrap IntKind.i64 (n3 + (↑(ByteArray.size x1) : Int)))) (ByteArray.size x0)), Value.bool true])) w4))))) ∧
      (decide (n3 ≥ 0) = false →
        R (Value.tuple (Array.mk [Value.string x0, Value.string (ByteArray.mk (Array.mk [])), Value.bool false])) w2))))
theorem vc_stringslite_Cut_ok {x0 : ByteArray} {x1 : ByteArray} {w : World} {R : Value → World → Prop} {R' : Ending → World → Prop} (h : vc_stringslite_Cut x0 x1 w R) (hR : ∀ v w', R v w' → R' (.returned v) w') :
    Calls Tryd.prog 36 #[.string x0, .string x1] w R' :=
  calls_of_body (vs := [(.string x0, false), (.string x1, false)]) (ty := ty) (ann := ⟨[], [], [(3, .quiet)], []⟩) (c := Tryd.f36.body.getD .skip) (by kernel_rfl) Tryd.func36 (by kernel_rfl) (by kernel_rfl) (Eq.mp (by kernel_rfl) h) hR
/-- strings.Cut -/
def vc_strings_Cut (x0 : ByteArray) (x1 : ByteArray) (w : World) (R : Value → World → Prop) : Prop :=
  Calls Tryd.prog (36 : Nat) (Array.mk [Value.string x0, Value.string x1]) (w) (fun e1 w2 =>
    ∃ s3 : ByteArray, ∃ s4 : ByteArray, ∃ b5 : Bool, (e1 = Ending.returned (Value.tuple (Array.mk [Value.string s3, Value.string s4, Value.bool b5])) ∧
     R (Value.tuple (Array.mk [Value.string s3, Value.string s4, Value.bool b5])) w2))
theorem vc_strings_Cut_ok {x0 : ByteArray} {x1 : ByteArray} {w : World} {R : Value → World → Prop} {R' : Ending → World → Prop} (h : vc_strings_Cut x0 x1 w R) (hR : ∀ v w', R v w' → R' (.returned v) w') :
    Calls Tryd.prog 23 #[.string x0, .string x1] w R' :=
  calls_of_body (vs := [(.string x0, false), (.string x1, false)]) (ty := ty) (ann := ⟨[], [], [], []⟩) (c := Tryd.f23.body.getD .skip) (by kernel_rfl) Tryd.func23 (by kernel_rfl) (by kernel_rfl) (Eq.mp (by kernel_rfl) h) hR
end Go.Proofs.YtoagdpjickippaaDoor

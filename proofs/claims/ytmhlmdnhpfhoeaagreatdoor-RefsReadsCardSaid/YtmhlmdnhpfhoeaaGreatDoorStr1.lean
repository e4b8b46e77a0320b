/- Formulas of 13 Go functions of this seat (written by a program of the author's, vcgen.py), and that each is enough for the call. No condition. -/
import Derived.Test.YtmhlmdnhpfhoeaaGreatDoorTy
import Derived.Test.YtmhlmdnhpfhoeaaGreatDoorProg
set_option linter.unusedVariables false
namespace Go.Proofs.YtmhlmdnhpfhoeaaGreatDoor
open Go Vc Go.Proofs
set_option maxRecDepth 100000
/-- strings.IndexByte -/
def vc_strings_IndexByte (x0 : ByteArray) (x1 : Int) (w : World) (R : Value → World → Prop) : Prop :=
  Calls Tryz.prog (102 : Nat) (Array.mk [Value.string x0, Value.int IntKind.u8 x1]) (w) (fun e1 w2 =>
    ∃ n3 : Int, (e1 = Ending.returned (Value.int IntKind.i64 n3) ∧
     R (Value.int IntKind.i64 n3) w2))
theorem vc_strings_IndexByte_ok {x0 : ByteArray} {x1 : Int} {w : World} {R : Value → World → Prop} {R' : Ending → World → Prop} (h : vc_strings_IndexByte x0 x1 w R) (hR : ∀ v w', R v w' → R' (.returned v) w') :
    Calls Tryz.prog 106 #[.string x0, .int .u8 x1] w R' :=
  calls_of_body (vs := [(.string x0, false), (.int .u8 x1, false)]) (ty := ty) (ann := ⟨[], [], [], []⟩) (c := Tryz.f106.body.getD .skip) (by kernel_rfl) Tryz.func106 (by kernel_rfl) (by kernel_rfl) (Eq.mp (by kernel_rfl) h) hR
/-- internal/stringslite.Index -/
def vc_stringslite_Index (x0 : ByteArray) (x1 : ByteArray) (w : World) (R : Value → World → Prop) : Prop :=
  ∃ I1 : World → Prop, ((((((↑(ByteArray.size x1) : Int) == 0) = true →
      R (Value.int IntKind.i64 0) w)) ∧
    (((↑(ByteArray.size x1) : Int) == 0) = false →
      ((((ByteArray.toList x1 == ByteArray.toList x0) = true →
         R (Value.int IntKind.i64 0) w)) ∧
       ((ByteArray.toList x1 == ByteArray.toList x0) = false →
         (((((↑(ByteArray.size x1) : Int) == 1) = true →
            (((0 : Int) ≤ (0 : Int) ∧
              0 < (↑(ByteArray.size x1) : Int)) ∧
             Calls Tryz.prog (102 : Nat) (Array.mk [Value.string x0, Value.int IntKind.u8 (byteAt x1 0)]) (w) (fun e2 w3 =>
               ∃ n4 : Int, (e2 = Ending.returned (Value.int IntKind.i64 n4) ∧
                R (Value.int IntKind.i64 n4) w3))))) ∧
          (((↑(ByteArray.size x1) : Int) == 1) = false →
            (((decide ((↑(ByteArray.size x1) : Int) ≥ (↑(ByteArray.size x0) : Int)) = true →
               R (Value.int IntKind.i64 (-1)) w)) ∧
             (decide ((↑(ByteArray.size x1) : Int) ≥ (↑(ByteArray.size x0) : Int)) = false →
               ∃ n5 : Int, (World.cell? w (Addr.mk 0 0 none) = some (Value.int IntKind.i64 n5) ∧
                (((decide ((↑(ByteArray.size x1) : Int) ≤ n5) = true →
                   (((decide ((↑(ByteArray.size x0) : Int) ≤ 64) = true →
                      False)) ∧
                    (decide ((↑(ByteArray.size x0) : Int) ≤ 64) = false →
                      I1 w)))) ∧
                 (decide ((↑(ByteArray.size x1) : Int) ≤ n5) = false →
                   I1 w))))))))))) ∧
   ∀ w6 : World,
   (I1 w6 →
     (((0 : Int) ≤ (0 : Int) ∧
       0 < (↑(ByteArray.size x1) : Int)) ∧
      (((0 : Int) ≤ (1 : Int) ∧
        1 < (↑(ByteArray.size x1) : Int)) ∧
       ∃ I7 : Int → Int → World → Prop, ∃ I8 : Int → Int → World → Nat, (I7 0 0 w6 ∧
        ∀ n9 : Int,
        ∀ n10 : Int,
        ∀ w11 : World,
        (I7 n9 n10 w11 →
          (((decide (n9 < IntKind.wrap IntKind.i64 (IntKind.wrap IntKind.i64 ((↑(ByteArray.size x0) : Int) - (↑(ByteArray.size x1) : Int)) + 1)) = true →
             ∃ I12 : Int → World → Prop, (((0 ≤ n9 ∧
                n9 < (↑(ByteArray.size x0) : Int)) ∧
               ((((byteAt x0 n9 != byteAt x1 0) = true →
                  ((0 ≤ IntKind.wrap IntKind.i64 (n9 + 1) ∧
                    (IntKind.wrap IntKind.i64 (n9 + 1) ≤ IntKind.wrap IntKind.i64 (IntKind.wrap IntKind.i64 ((↑(ByteArray.size x0) : Int) - (↑(ByteArray.size x1) : Int)) + 1) ∧
                     IntKind.wrap IntKind.i64 (IntKind.wrap IntKind.i64 ((↑(ByteArray.size x0) : Int) - (↑(ByteArray.size x1) : Int)) + 1) ≤ (↑(ByteArray.size x0) : Int))) ∧
                   Calls Tryz.prog (102 : Nat) (Array.mk [Value.string (ByteArray.extract x0 (Int.toNat (IntKind.wrap IntKind.i64 (n9 + 1))) (Int.toNat (IntKind.wrap IntKind.i64 (IntKind.wrap IntKind.i64 ((↑(ByteArray.size x0) : Int) - (↑(ByteArray.size x1) : Int)) + 1)))), Value.int IntKind.u8 (byteAt x1 0)]) (w11) (fun e13 w14 =>
                     ∃ n15 : Int, (e13 = Ending.returned (Value.int IntKind.i64 n15) ∧
                      (((decide (n15 < 0) = true →
                         R (Value.int IntKind.i64 (-1)) w14)) ∧
                       (decide (n15 < 0) = false →
                         I12 (IntKind.wrap IntKind.i64 (n9 + IntKind.wrap IntKind.i64 (n15 + 1))) w14))))))) ∧
                ((byteAt x0 n9 != byteAt x1 0) = false →
                  I12 n9 w11))) ∧
              ∀ n16 : Int,
              ∀ w17 : World,
              (I12 n16 w17 →
                ∃ I18 : World → Prop, (((0 ≤ IntKind.wrap IntKind.i64 (n16 + 1) ∧
                   IntKind.wrap IntKind.i64 (n16 + 1) < (↑(ByteArray.size x0) : Int)) ∧
                  ((((byteAt x0 (IntKind.wrap IntKind.i64 (n16 + 1)) == byteAt x1 1) = true →
                     ((0 ≤ n16 ∧
                       (n16 ≤ IntKind.wrap IntKind.i64 (n16 + (↑(ByteArray.size x1) : Int)) ∧
                        IntKind.wrap IntKind.i64 (n16 + (↑(ByteArray.size x1) : Int)) ≤ (↑(ByteArray.size x0) : Int))) ∧
                      ((((ByteArray.toList (ByteArray.extract x0 (Int.toNat n16) (Int.toNat (IntKind.wrap IntKind.i64 (n16 + (↑(ByteArray.size x1) : Int))))) == ByteArray.toList x1) = true →
                         R (Value.int IntKind.i64 n16) w17)) ∧
                       ((ByteArray.toList (ByteArray.extract x0 (Int.toNat n16) (Int.toNat (IntKind.wrap IntKind.i64 (n16 + (↑(ByteArray.size x1) : Int))))) == ByteArray.toList x1) = false →
                         I18 w17))))) ∧
                   ((byteAt x0 (IntKind.wrap IntKind.i64 (n16 + 1)) == byteAt x1 1) = false →
                     I18 w17))) ∧
                 ∀ w19 : World,
                 (I18 w19 →
                   ∃ I20 : Bool → World → Prop, ((∃ n21 : Int, (World.cell? w19 (Addr.mk 0 0 none) = some (Value.int IntKind.i64 n21) ∧
                     (((decide ((↑(ByteArray.size x1) : Int) ≤ n21) = true →
                        Calls Tryz.prog (104 : Nat) (Array.mk [Value.int IntKind.i64 (IntKind.wrap IntKind.i64 (n16 + 1))]) (w19) (fun e22 w23 =>
                          ∃ n24 : Int, (e22 = Ending.returned (Value.int IntKind.i64 n24) ∧
                           I20 (decide (IntKind.wrap IntKind.i64 (n10 + 1) > n24)) w23)))) ∧
                      (decide ((↑(ByteArray.size x1) : Int) ≤ n21) = false →
                        I20 false w19)))) ∧
                    ∀ b25 : Bool,
                    ∀ w26 : World,
                    (I20 b25 w26 →
                      (((b25 = true →
                         ((0 ≤ IntKind.wrap IntKind.i64 (n16 + 1) ∧
                           IntKind.wrap IntKind.i64 (n16 + 1) ≤ (↑(ByteArray.size x0) : Int)) ∧
                          False))) ∧
                       (b25 = false →
                         ∃ n27 : Int, (World.cell? w26 (Addr.mk 0 0 none) = some (Value.int IntKind.i64 n27) ∧
                          (((decide ((↑(ByteArray.size x1) : Int) > n27) = true →
                             ((0 : Int) ≤ (4 : Int) ∧
                              (((decide (IntKind.wrap IntKind.i64 (n10 + 1) ≥ IntKind.wrap IntKind.i64 (4 + Int.fdiv (IntKind.wrap IntKind.i64 (n16 + 1)) (2 ^ min (Int.toNat 4) 64))) = true →
                                 (((decide (IntKind.wrap IntKind.i64 (n16 + 1) < IntKind.wrap IntKind.i64 (IntKind.wrap IntKind.i64 ((↑(ByteArray.size x0) : Int) - (↑(ByteArray.size x1) : Int)) + 1)) = true →
                                    ((0 ≤ IntKind.wrap IntKind.i64 (n16 + 1) ∧
                                      IntKind.wrap IntKind.i64 (n16 + 1) ≤ (↑(ByteArray.size x0) : Int)) ∧
                                     Calls Tryz.prog (105 : Nat) (Array.mk [Value.string (ByteArray.extract x0 (Int.toNat (IntKind.wrap IntKind.i64 (n16 + 1))) (ByteArray.size x0)), Value.string x1]) (w26) (fun e28 w29 =>
                                       ∃ n30 : Int, (e28 = Ending.returned (Value.int IntKind.i64 n30) ∧
                                        (((decide (n30 < 0) = true →
                                           R (Value.int IntKind.i64 (-1)) w29)) ∧
                                         (decide (n30 < 0) = false →
                                           R (Value.int IntKind.i64 (IntKind.wrap IntKind.i64 (IntKind.wrap IntKind.i64 (n16 + 1) + n30))) w29))))))) ∧
                                  (decide (IntKind.wrap IntKind.i64 (n16 + 1) < IntKind.wrap IntKind.i64 (IntKind.wrap IntKind.i64 ((↑(ByteArray.size x0) : Int) - (↑(ByteArray.size x1) : Int)) + 1)) = false →
                                    (I7 (IntKind.wrap IntKind.i64 (n16 + 1)) (IntKind.wrap IntKind.i64 (n10 + 1)) w26 ∧
                                     I8 (IntKind.wrap IntKind.i64 (n16 + 1)) (IntKind.wrap IntKind.i64 (n10 + 1)) w26 < I8 n9 n10 w11))))) ∧
                               (decide (IntKind.wrap IntKind.i64 (n10 + 1) ≥ IntKind.wrap IntKind.i64 (4 + Int.fdiv (IntKind.wrap IntKind.i64 (n16 + 1)) (2 ^ min (Int.toNat 4) 64))) = false →
                                 (I7 (IntKind.wrap IntKind.i64 (n16 + 1)) (IntKind.wrap IntKind.i64 (n10 + 1)) w26 ∧
                                  I8 (IntKind.wrap IntKind.i64 (n16 + 1)) (IntKind.wrap IntKind.i64 (n10 + 1)) w26 < I8 n9 n10 w11)))))) ∧
                           (decide ((↑(ByteArray.size x1) : Int) > n27) = false →
                             (I7 (IntKind.wrap IntKind.i64 (n16 + 1)) (IntKind.wrap IntKind.i64 (n10 + 1)) w26 ∧
                              I8 (IntKind.wrap IntKind.i64 (n16 + 1)) (IntKind.wrap IntKind.i64 (n10 + 1)) w26 < I8 n9 n10 w11)))))))))))))) ∧
           (decide (n9 < IntKind.wrap IntKind.i64 (IntKind.wrap IntKind.i64 ((↑(ByteArray.size x0) : Int) - (↑(ByteArray.size x1) : Int)) + 1)) = false →
             R (Value.int IntKind.i64 (-1)) w11))))))))
theorem vc_stringslite_Index_ok {x0 : ByteArray} {x1 : ByteArray} {w : World} {R : Value → World → Prop} {R' : Ending → World → Prop} (h : vc_stringslite_Index x0 x1 w R) (hR : ∀ v w', R v w' → R' (.returned v) w') :
    Calls Tryz.prog 77 #[.string x0, .string x1] w R' :=
  calls_of_body (vs := [(.string x0, false), (.string x1, false)]) (ty := ty) (ann := ⟨[(10, []), (21, [(8, .int .i64)]), (23, []), (26, [(107, .bool)])], [(15, [(8, .int .i64), (10, .int .i64)])], [], []⟩) (c := Tryz.f77.body.getD .skip) (by kernel_rfl) Tryz.func77 (by kernel_rfl) (by kernel_rfl) (Eq.mp (by kernel_rfl) h) hR
/-- strings.Index -/
def vc_strings_Index (x0 : ByteArray) (x1 : ByteArray) (w : World) (R : Value → World → Prop) : Prop :=
  Calls Tryz.prog (77 : Nat) (Array.mk [Value.string x0, Value.string x1]) (w) (fun e1 w2 =>
    ∃ n3 : Int, (e1 = Ending.returned (Value.int IntKind.i64 n3) ∧
     R (Value.int IntKind.i64 n3) w2))
theorem vc_strings_Index_ok {x0 : ByteArray} {x1 : ByteArray} {w : World} {R : Value → World → Prop} {R' : Ending → World → Prop} (h : vc_strings_Index x0 x1 w R) (hR : ∀ v w', R v w' → R' (.returned v) w') :
    Calls Tryz.prog 59 #[.string x0, .string x1] w R' :=
  calls_of_body (vs := [(.string x0, false), (.string x1, false)]) (ty := ty) (ann := ⟨[], [], [], []⟩) (c := Tryz.f59.body.getD .skip) (by kernel_rfl) Tryz.func59 (by kernel_rfl) (by kernel_rfl) (Eq.mp (by kernel_rfl) h) hR
/-- internal/stringslite.Cut -/
def vc_stringslite_Cut (x0 : ByteArray) (x1 : ByteArray) (w : World) (R : Value → World → Prop) : Prop :=
  Calls Tryz.prog (77 : Nat) (Array.mk [Value.string x0, Value.string x1]) (w) (fun e1 w2 =>
    ∃ n3 : Int, (e1 = Ending.returned (Value.int IntKind.i64 n3) ∧
     (((decide (n3 ≥ 0) = true →
        ((0 ≤ n3 ∧
          n3 ≤ (↑(ByteArray.size x0) : Int)) ∧
         ((0 ≤ IntKind.wrap IntKind.i64 (n3 + (↑(ByteArray.size x1) : Int)) ∧
           IntKind.wrap IntKind.i64 (n3 + (↑(ByteArray.size x1) : Int)) ≤ (↑(ByteArray.size x0) : Int)) ∧
          ∀ w4 : World,
          (Drew w2 w4 →
            R (Value.tuple (Array.mk [Value.string (ByteArray.extract x0 0 (Int.toNat n3)), Value.string (ByteArray.extract x0 (Int.toNat (IntKind.wrap IntKind.i64 (n3 + (↑(ByteArray.size x1) : Int)))) (ByteArray.size x0)), Value.bool true])) w4))))) ∧
      (decide (n3 ≥ 0) = false →
        R (Value.tuple (Array.mk [Value.string x0, Value.string (ByteArray.mk (Array.mk [])), Value.bool false])) w2))))
theorem vc_stringslite_Cut_ok {x0 : ByteArray} {x1 : ByteArray} {w : World} {R : Value → World → Prop} {R' : Ending → World → Prop} (h : vc_stringslite_Cut x0 x1 w R) (hR : ∀ v w', R v w' → R' (.returned v) w') :
    Calls Tryz.prog 55 #[.string x0, .string x1] w R' :=
  calls_of_body (vs := [(.string x0, false), (.string x1, false)]) (ty := ty) (ann := ⟨[], [], [(3, .quiet)], []⟩) (c := Tryz.f55.body.getD .skip) (by kernel_rfl) Tryz.func55 (by kernel_rfl) (by kernel_rfl) (Eq.mp (by kernel_rfl) h) hR
/-- strings.Cut -/
def vc_strings_Cut (x0 : ByteArray) (x1 : ByteArray) (w : World) (R : Value → World → Prop) : Prop :=
  Calls Tryz.prog (55 : Nat) (Array.mk [Value.string x0, Value.string x1]) (w) (fun e1 w2 =>
    ∃ s3 : ByteArray, ∃ s4 : ByteArray, ∃ b5 : Bool, (e1 = Ending.returned (Value.tuple (Array.mk [Value.string s3, Value.string s4, Value.bool b5])) ∧
     R (Value.tuple (Array.mk [Value.string s3, Value.string s4, Value.bool b5])) w2))
theorem vc_strings_Cut_ok {x0 : ByteArray} {x1 : ByteArray} {w : World} {R : Value → World → Prop} {R' : Ending → World → Prop} (h : vc_strings_Cut x0 x1 w R) (hR : ∀ v w', R v w' → R' (.returned v) w') :
    Calls Tryz.prog 28 #[.string x0, .string x1] w R' :=
  calls_of_body (vs := [(.string x0, false), (.string x1, false)]) (ty := ty) (ann := ⟨[], [], [], []⟩) (c := Tryz.f28.body.getD .skip) (by kernel_rfl) Tryz.func28 (by kernel_rfl) (by kernel_rfl) (Eq.mp (by kernel_rfl) h) hR
/-- strings.IndexRune -/
def vc_strings_IndexRune (x0 : ByteArray) (x1 : Int) (w : World) (R : Value → World → Prop) : Prop :=
  ∃ I1 : Bool → World → Prop, ((((decide (0 ≤ x1) = true →
      I1 (decide (x1 < 128)) w)) ∧
    (decide (0 ≤ x1) = false →
      I1 false w)) ∧
   ∀ b2 : Bool,
   ∀ w3 : World,
   (I1 b2 w3 →
     (((b2 = true →
        Calls Tryz.prog (106 : Nat) (Array.mk [Value.string x0, Value.int IntKind.u8 (IntKind.wrap IntKind.u8 x1)]) (w3) (fun e4 w5 =>
          ∃ n6 : Int, (e4 = Ending.returned (Value.int IntKind.i64 n6) ∧
           R (Value.int IntKind.i64 n6) w5)))) ∧
      (b2 = false →
        ((((x1 == 65533) = true →
           ∃ w7 : World, ∃ a8 : Addr, (Sem.run Tryz.prog (Instr.range 9 (Value.string x0)) w3 = Result.ok (Value.pointer (some a8)) w7 ∧
            ∃ I9 : World → Prop, ∃ I10 : World → Nat, (I9 w7 ∧
             ∀ w11 : World,
             (I9 w11 →
               ((∃ w12 : World, (Sem.run Tryz.prog (Instr.next (Value.pointer (some a8)) true 0) w11 = Result.ok (Value.tuple (Array.mk [Value.bool false])) w12 ∧
                 (((false = true →
                    False)) ∧
                  (false = false →
                    R (Value.int IntKind.i64 (-1)) w12)))) ∨
                (∃ w13 : World, ∃ n14 : Int, ∃ n15 : Int, (Sem.run Tryz.prog (Instr.next (Value.pointer (some a8)) true 0) w11 = Result.ok (Value.tuple (Array.mk [Value.bool true, Value.int IntKind.i64 n14, Value.int IntKind.i32 n15])) w13 ∧
                 (((true = true →
                    ((((n15 == 65533) = true →
                       R (Value.int IntKind.i64 n14) w13)) ∧
                     ((n15 == 65533) = false →
                       (I9 w13 ∧
                        I10 w13 < I10 w11))))) ∧
                  (true = false →
                    R (Value.int IntKind.i64 (-1)) w13)))))))))) ∧
         ((x1 == 65533) = false →
           Calls Tryz.prog (107 : Nat) (Array.mk [Value.int IntKind.i32 x1]) (w3) (fun e16 w17 =>
             ∃ b18 : Bool, (e16 = Ending.returned (Value.bool b18) ∧
              ((((!b18) = true →
                 R (Value.int IntKind.i64 (-1)) w17)) ∧
               ((!b18) = false →
                 ∃ w19 : World, ∃ s20 : ByteArray, (Sem.run Tryz.prog (convert 21 9 (Value.int IntKind.i32 x1)) w17 = Result.ok (Value.string s20) w19 ∧
                  ∃ I21 : Int → World → Prop, ∃ I22 : Int → World → Nat, (I21 (IntKind.wrap IntKind.i64 ((↑(ByteArray.size s20) : Int) - 1)) w19 ∧
                   ∀ n23 : Int,
                   ∀ w24 : World,
                   (I21 n23 w24 →
                     (((decide (n23 < (↑(ByteArray.size x0) : Int)) = true →
                        ∃ I25 : Int → World → Prop, (((0 ≤ n23 ∧
                           n23 < (↑(ByteArray.size x0) : Int)) ∧
                          ((0 ≤ IntKind.wrap IntKind.i64 ((↑(ByteArray.size s20) : Int) - 1) ∧
                            IntKind.wrap IntKind.i64 ((↑(ByteArray.size s20) : Int) - 1) < (↑(ByteArray.size s20) : Int)) ∧
                           ∀ w26 : World,
                           (Drew w24 w26 →
                             ((((byteAt x0 n23 != byteAt s20 (IntKind.wrap IntKind.i64 ((↑(ByteArray.size s20) : Int) - 1))) = true →
                                ∀ w27 : World,
                                (Drew w26 w27 →
                                  ∃ I28 : World → Prop, (I28 w27 ∧
                                   ((0 ≤ IntKind.wrap IntKind.i64 (n23 + 1) ∧
                                     IntKind.wrap IntKind.i64 (n23 + 1) ≤ (↑(ByteArray.size x0) : Int)) ∧
                                    ((0 ≤ IntKind.wrap IntKind.i64 ((↑(ByteArray.size s20) : Int) - 1) ∧
                                      IntKind.wrap IntKind.i64 ((↑(ByteArray.size s20) : Int) - 1) < (↑(ByteArray.size s20) : Int)) ∧
                                     Calls Tryz.prog (106 : Nat) (Array.mk [Value.string (ByteArray.extract x0 (Int.toNat (IntKind.wrap IntKind.i64 (n23 + 1))) (ByteArray.size x0)), Value.int IntKind.u8 (byteAt s20 (IntKind.wrap IntKind.i64 ((↑(ByteArray.size s20) : Int) - 1)))]) (w27) (fun e29 w30 =>
                                       ∃ n31 : Int, (e29 = Ending.returned (Value.int IntKind.i64 n31) ∧
                                        (I28 w30 ∧
                                         (((decide (n31 < 0) = true →
                                            R (Value.int IntKind.i64 (-1)) w30)) ∧
                                          (decide (n31 < 0) = false →
                                            I25 (IntKind.wrap IntKind.i64 (n23 + IntKind.wrap IntKind.i64 (n31 + 1))) w30))))))))))) ∧
                              ((byteAt x0 n23 != byteAt s20 (IntKind.wrap IntKind.i64 ((↑(ByteArray.size s20) : Int) - 1))) = false →
                                I25 n23 w26))))) ∧
                         ∀ n32 : Int,
                         ∀ w33 : World,
                         (I25 n32 w33 →
                           ∃ I34 : Int → World → Prop, ∃ I35 : Int → World → Nat, (I34 1 w33 ∧
                            ∀ n36 : Int,
                            ∀ w37 : World,
                            (I34 n36 w37 →
                              (((decide (n36 < (↑(ByteArray.size s20) : Int)) = true →
                                 ((0 ≤ IntKind.wrap IntKind.i64 (n32 - n36) ∧
                                   IntKind.wrap IntKind.i64 (n32 - n36) < (↑(ByteArray.size x0) : Int)) ∧
                                  ((0 ≤ IntKind.wrap IntKind.i64 (IntKind.wrap IntKind.i64 ((↑(ByteArray.size s20) : Int) - 1) - n36) ∧
                                    IntKind.wrap IntKind.i64 (IntKind.wrap IntKind.i64 ((↑(ByteArray.size s20) : Int) - 1) - n36) < (↑(ByteArray.size s20) : Int)) ∧
                                   ∀ w38 : World,
                                   (Drew w37 w38 →
                                     ((((byteAt x0 (IntKind.wrap IntKind.i64 (n32 - n36)) != byteAt s20 (IntKind.wrap IntKind.i64 (IntKind.wrap IntKind.i64 ((↑(ByteArray.size s20) : Int) - 1) - n36))) = true →
                                        False)) ∧
                                      ((byteAt x0 (IntKind.wrap IntKind.i64 (n32 - n36)) != byteAt s20 (IntKind.wrap IntKind.i64 (IntKind.wrap IntKind.i64 ((↑(ByteArray.size s20) : Int) - 1) - n36))) = false →
                                        (I34 (IntKind.wrap IntKind.i64 (n36 + 1)) w38 ∧
                                         I35 (IntKind.wrap IntKind.i64 (n36 + 1)) w38 < I35 n36 w37)))))))) ∧
                               (decide (n36 < (↑(ByteArray.size s20) : Int)) = false →
                                 R (Value.int IntKind.i64 (IntKind.wrap IntKind.i64 (n32 - IntKind.wrap IntKind.i64 ((↑(ByteArray.size s20) : Int) - 1)))) w37)))))))) ∧
                      (decide (n23 < (↑(ByteArray.size x0) : Int)) = false →
                        R (Value.int IntKind.i64 (-1)) w24)))))))))))))))
theorem vc_strings_IndexRune_ok {x0 : ByteArray} {x1 : Int} {w : World} {R : Value → World → Prop} {R' : Ending → World → Prop} (h : vc_strings_IndexRune x0 x1 w R) (hR : ∀ v w', R v w' → R' (.returned v) w') :
    Calls Tryz.prog 79 #[.string x0, .int .i32 x1] w R' :=
  calls_of_body (vs := [(.string x0, false), (.int .i32 x1, false)]) (ty := ty) (ann := ⟨[(11, [(9, .int .i64)]), (35, [(160, .bool)])], [(5, [(9, .int .i64)]), (12, [(12, .int .i64)]), (25, []), (29, []), (38, [])], [(6, .quiet), (7, .held [(0, true), (1, true), (2, true), (3, true), (4, true), (5, true), (6, true), (7, false), (8, true)]), (14, .quiet), (31, .quiet)], []⟩) (c := Tryz.f79.body.getD .skip) (by kernel_rfl) Tryz.func79 (by kernel_rfl) (by kernel_rfl) (Eq.mp (by kernel_rfl) h) hR
/-- strings.IndexAny -/
def vc_strings_IndexAny (x0 : ByteArray) (x1 : ByteArray) (w : World) (R : Value → World → Prop) : Prop :=
  ((((ByteArray.toList x1 == ByteArray.toList (ByteArray.mk (Array.mk []))) = true →
     R (Value.int IntKind.i64 (-1)) w)) ∧
   ((ByteArray.toList x1 == ByteArray.toList (ByteArray.mk (Array.mk []))) = false →
     (((((↑(ByteArray.size x1) : Int) == 1) = true →
        (((0 : Int) ≤ (0 : Int) ∧
          0 < (↑(ByteArray.size x1) : Int)) ∧
         (((decide (IntKind.wrap IntKind.i32 (byteAt x1 0) ≥ 128) = true →
            Calls Tryz.prog (79 : Nat) (Array.mk [Value.string x0, Value.int IntKind.i32 65533]) (w) (fun e1 w2 =>
              ∃ n3 : Int, (e1 = Ending.returned (Value.int IntKind.i64 n3) ∧
               R (Value.int IntKind.i64 n3) w2)))) ∧
          (decide (IntKind.wrap IntKind.i32 (byteAt x1 0) ≥ 128) = false →
            Calls Tryz.prog (79 : Nat) (Array.mk [Value.string x0, Value.int IntKind.i32 (IntKind.wrap IntKind.i32 (byteAt x1 0))]) (w) (fun e4 w5 =>
              ∃ n6 : Int, (e4 = Ending.returned (Value.int IntKind.i64 n6) ∧
               R (Value.int IntKind.i64 n6) w5))))))) ∧
      (((↑(ByteArray.size x1) : Int) == 1) = false →
        ∃ I7 : World → Prop, (Calls Tryz.prog (80 : Nat) (Array.mk [Value.int IntKind.i64 (↑(ByteArray.size x0) : Int)]) (w) (fun e8 w9 =>
           ∃ b10 : Bool, (e8 = Ending.returned (Value.bool b10) ∧
            (((b10 = true →
               Calls Tryz.prog (81 : Nat) (Array.mk [Value.string x1]) (w9) (fun e11 w12 =>
                 ∃ v13 : Value, ∃ b14 : Bool, (e11 = Ending.returned (Value.tuple (Array.mk [v13, Value.bool b14])) ∧
                  ∀ w15 : World,
                  (w15 = World.alloc w12 (Obj.cells (Array.mk [Value.bool false, Value.bool false, Value.bool false, Value.bool false, Value.bool false, Value.bool false, Value.bool false, Value.bool false, Value.bool false, Value.bool false, Value.bool false, Value.bool false, Value.bool false, Value.bool false, Value.bool false, Value.bool false, Value.bool false, Value.bool false, Value.bool false, Value.bool false, Value.bool false, Value.bool false, Value.bool false, Value.bool false, Value.bool false, Value.bool false, Value.bool false, Value.bool false, Value.bool false, Value.bool false, Value.bool false, Value.bool false, Value.bool false, Value.bool false, Value.bool false, Value.bool false, Value.bool false, Value.bool false, Value.bool false, Value.bool false, Value.bool false, Value.bool false, Value.bool false, Value.bool false, Value.bool false, Value.bool false, Value.bool false, Value.bool false, Value.bool false, Value.bool false, Value.bool false, Value.bool false, Value.bool false, Value.bool false, Value.bool false, Value.bool false, Value.bool false, Value.bool false, Value.bool false, Value.bool false, Value.bool false, Value.bool false, Value.bool false, Value.bool false, Value.bool false, Value.bool false, Value.bool false, Value.bool false, Value.bool false, Value.bool false, Value.bool false, Value.bool false, Value.bool false, Value.bool false, Value.bool false, Value.bool false, Value.bool false, Value.bool false, Value.bool false, Value.bool false, Value.bool false, Value.bool false, Value.bool false, Value.bool false, Value.bool false, Value.bool false, Value.bool false, Value.bool false, Value.bool false, Value.bool false, Value.bool false, Value.bool false, Value.bool false, Value.bool false, Value.bool false, Value.bool false, Value.bool false, Value.bool false, Value.bool false, Value.bool false, Value.bool false, Value.bool false, Value.bool false, Value.bool false, Value.bool false, Value.bool false, Value.bool false, Value.bool false, Value.bool false, Value.bool false, Value.bool false, Value.bool false, Value.bool false, Value.bool false, Value.bool false, Value.bool false, Value.bool false, Value.bool false, Value.bool false, Value.bool false, Value.bool false, Value.bool false, Value.bool false, Value.bool false, Value.bool false, Value.bool false, Value.bool false, Value.bool false, Value.bool false, Value.bool false, Value.bool false, Value.bool false, Value.bool false, Value.bool false, Value.bool false, Value.bool false, Value.bool false, Value.bool false, Value.bool false, Value.bool false, Value.bool false, Value.bool false, Value.bool false, Value.bool false, Value.bool false, Value.bool false, Value.bool false, Value.bool false, Value.bool false, Value.bool false, Value.bool false, Value.bool false, Value.bool false, Value.bool false, Value.bool false, Value.bool false, Value.bool false, Value.bool false, Value.bool false, Value.bool false, Value.bool false, Value.bool false, Value.bool false, Value.bool false, Value.bool false, Value.bool false, Value.bool false, Value.bool false, Value.bool false, Value.bool false, Value.bool false, Value.bool false, Value.bool false, Value.bool false, Value.bool false, Value.bool false, Value.bool false, Value.bool false, Value.bool false, Value.bool false, Value.bool false, Value.bool false, Value.bool false, Value.bool false, Value.bool false, Value.bool false, Value.bool false, Value.bool false, Value.bool false, Value.bool false, Value.bool false, Value.bool false, Value.bool false, Value.bool false, Value.bool false, Value.bool false, Value.bool false, Value.bool false, Value.bool false, Value.bool false, Value.bool false, Value.bool false, Value.bool false, Value.bool false, Value.bool false, Value.bool false, Value.bool false, Value.bool false, Value.bool false, Value.bool false, Value.bool false, Value.bool false, Value.bool false, Value.bool false, Value.bool false, Value.bool false, Value.bool false, Value.bool false, Value.bool false, Value.bool false, Value.bool false, Value.bool false, Value.bool false, Value.bool false, Value.bool false, Value.bool false, Value.bool false, Value.bool false, Value.bool false, Value.bool false, Value.bool false, Value.bool false, Value.bool false, Value.bool false, Value.bool false, Value.bool false, Value.bool false, Value.bool false, Value.bool false, Value.bool false, Value.bool false, Value.bool false, Value.bool false, Value.bool false, Value.bool false, Value.bool false, Value.bool false, Value.bool false, Value.bool false, Value.bool false, Value.bool false, Value.bool false, Value.bool false, Value.bool false, Value.bool false, Value.bool false]) 107) →
                    ∃ w16 : World, (Sem.run Tryz.prog (storeVar 107 (Addr.mk (Array.size (World.heap w12)) 0 none) v13) w15 = Result.ok PUnit.unit w16 ∧
                     (((b14 = true →
                        ∃ I17 : Int → World → Prop, ∃ I18 : Int → World → Nat, (I17 0 w16 ∧
                         ∀ n19 : Int,
                         ∀ w20 : World,
                         (I17 n19 w20 →
                           (((decide (n19 < (↑(ByteArray.size x0) : Int)) = true →
                              ((0 ≤ n19 ∧
                                n19 < (↑(ByteArray.size x0) : Int)) ∧
                               Calls Tryz.prog (82 : Nat) (Array.mk [Value.pointer (some (Addr.mk (Array.size (World.heap w12)) 0 none)), Value.int IntKind.u8 (byteAt x0 n19)]) (w20) (fun e21 w22 =>
                                 ∃ b23 : Bool, (e21 = Ending.returned (Value.bool b23) ∧
                                  (((b23 = true →
                                     R (Value.int IntKind.i64 n19) w22)) ∧
                                   (b23 = false →
                                     (I17 (IntKind.wrap IntKind.i64 (n19 + 1)) w22 ∧
                                      I18 (IntKind.wrap IntKind.i64 (n19 + 1)) w22 < I18 n19 w20)))))))) ∧
                            (decide (n19 < (↑(ByteArray.size x0) : Int)) = false →
                              R (Value.int IntKind.i64 (-1)) w20)))))) ∧
                      (b14 = false →
                        I7 w16)))))))) ∧
             (b10 = false →
               I7 w9)))) ∧
         ∀ w24 : World,
         (I7 w24 →
           ∃ w25 : World, ∃ a26 : Addr, (Sem.run Tryz.prog (Instr.range 9 (Value.string x0)) w24 = Result.ok (Value.pointer (some a26)) w25 ∧
            ∃ I27 : World → Prop, ∃ I28 : World → Nat, (I27 w25 ∧
             ∀ w29 : World,
             (I27 w29 →
               ((∃ w30 : World, (Sem.run Tryz.prog (Instr.next (Value.pointer (some a26)) true 0) w29 = Result.ok (Value.tuple (Array.mk [Value.bool false])) w30 ∧
                 (((false = true →
                    False)) ∧
                  (false = false →
                    R (Value.int IntKind.i64 (-1)) w30)))) ∨
                (∃ w31 : World, ∃ n32 : Int, ∃ n33 : Int, (Sem.run Tryz.prog (Instr.next (Value.pointer (some a26)) true 0) w29 = Result.ok (Value.tuple (Array.mk [Value.bool true, Value.int IntKind.i64 n32, Value.int IntKind.i32 n33])) w31 ∧
                 (((true = true →
                    Calls Tryz.prog (79 : Nat) (Array.mk [Value.string x1, Value.int IntKind.i32 n33]) (w31) (fun e34 w35 =>
                      ∃ n36 : Int, (e34 = Ending.returned (Value.int IntKind.i64 n36) ∧
                       (((decide (n36 ≥ 0) = true →
                          R (Value.int IntKind.i64 n32) w35)) ∧
                        (decide (n36 ≥ 0) = false →
                          (I27 w35 ∧
                           I28 w35 < I28 w29))))))) ∧
                  (true = false →
                    R (Value.int IntKind.i64 (-1)) w31))))))))))))))
theorem vc_strings_IndexAny_ok {x0 : ByteArray} {x1 : ByteArray} {w : World} {R : Value → World → Prop} {R' : Ending → World → Prop} (h : vc_strings_IndexAny x0 x1 w R) (hR : ∀ v w', R v w' → R' (.returned v) w') :
    Calls Tryz.prog 61 #[.string x0, .string x1] w R' :=
  calls_of_body (vs := [(.string x0, false), (.string x1, false)]) (ty := ty) (ann := ⟨[(17, [])], [(12, [(8, .int .i64)]), (18, [])], [], []⟩) (c := Tryz.f61.body.getD .skip) (by kernel_rfl) Tryz.func61 (by kernel_rfl) (by kernel_rfl) (Eq.mp (by kernel_rfl) h) hR
/-- strings.shouldUseASCIISet -/
def vc_strings_shouldUseASCIISet (x0 : Int) (w : World) (R : Value → World → Prop) : Prop :=
  R (Value.bool (decide (x0 > 8))) w
theorem vc_strings_shouldUseASCIISet_ok {x0 : Int} {w : World} {R : Value → World → Prop} {R' : Ending → World → Prop} (h : vc_strings_shouldUseASCIISet x0 w R) (hR : ∀ v w', R v w' → R' (.returned v) w') :
    Calls Tryz.prog 80 #[.int .i64 x0] w R' :=
  calls_of_body (vs := [(.int .i64 x0, false)]) (ty := ty) (ann := ⟨[], [], [], []⟩) (c := Tryz.f80.body.getD .skip) (by kernel_rfl) Tryz.func80 (by kernel_rfl) (by kernel_rfl) (Eq.mp (by kernel_rfl) h) hR
/-- strings.makeASCIISet -/
def vc_strings_makeASCIISet (x0 : ByteArray) (w : World) (R : Value → World → Prop) : Prop :=
  ∀ w1 : World,
  (w1 = World.alloc w (Obj.cells (Array.mk [Value.bool false, Value.bool false, Value.bool false, Value.bool false, Value.bool false, Value.bool false, Value.bool false, Value.bool false, Value.bool false, Value.bool false, Value.bool false, Value.bool false, Value.bool false, Value.bool false, Value.bool false, Value.bool false, Value.bool false, Value.bool false, Value.bool false, Value.bool false, Value.bool false, Value.bool false, Value.bool false, Value.bool false, Value.bool false, Value.bool false, Value.bool false, Value.bool false, Value.bool false, Value.bool false, Value.bool false, Value.bool false, Value.bool false, Value.bool false, Value.bool false, Value.bool false, Value.bool false, Value.bool false, Value.bool false, Value.bool false, Value.bool false, Value.bool false, Value.bool false, Value.bool false, Value.bool false, Value.bool false, Value.bool false, Value.bool false, Value.bool false, Value.bool false, Value.bool false, Value.bool false, Value.bool false, Value.bool false, Value.bool false, Value.bool false, Value.bool false, Value.bool false, Value.bool false, Value.bool false, Value.bool false, Value.bool false, Value.bool false, Value.bool false, Value.bool false, Value.bool false, Value.bool false, Value.bool false, Value.bool false, Value.bool false, Value.bool false, Value.bool false, Value.bool false, Value.bool false, Value.bool false, Value.bool false, Value.bool false, Value.bool false, Value.bool false, Value.bool false, Value.bool false, Value.bool false, Value.bool false, Value.bool false, Value.bool false, Value.bool false, Value.bool false, Value.bool false, Value.bool false, Value.bool false, Value.bool false, Value.bool false, Value.bool false, Value.bool false, Value.bool false, Value.bool false, Value.bool false, Value.bool false, Value.bool false, Value.bool false, Value.bool false, Value.bool false, Value.bool false, Value.bool false, Value.bool false, Value.bool false, Value.bool false, Value.bool false, Value.bool false, Value.bool false, Value.bool false, Value.bool false, Value.bool false, Value.bool false, Value.bool false, Value.bool false, Value.bool false, Value.bool false, Value.bool false, Value.bool false, Value.bool false, Value.bool false, Value.bool false, Value.bool false, Value.bool false, Value.bool false, Value.bool false, Value.bool false, Value.bool false, Value.bool false, Value.bool false, Value.bool false, Value.bool false, Value.bool false, Value.bool false, Value.bool false, Value.bool false, Value.bool false, Value.bool false, Value.bool false, Value.bool false, Value.bool false, Value.bool false, Value.bool false, Value.bool false, Value.bool false, Value.bool false, Value.bool false, Value.bool false, Value.bool false, Value.bool false, Value.bool false, Value.bool false, Value.bool false, Value.bool false, Value.bool false, Value.bool false, Value.bool false, Value.bool false, Value.bool false, Value.bool false, Value.bool false, Value.bool false, Value.bool false, Value.bool false, Value.bool false, Value.bool false, Value.bool false, Value.bool false, Value.bool false, Value.bool false, Value.bool false, Value.bool false, Value.bool false, Value.bool false, Value.bool false, Value.bool false, Value.bool false, Value.bool false, Value.bool false, Value.bool false, Value.bool false, Value.bool false, Value.bool false, Value.bool false, Value.bool false, Value.bool false, Value.bool false, Value.bool false, Value.bool false, Value.bool false, Value.bool false, Value.bool false, Value.bool false, Value.bool false, Value.bool false, Value.bool false, Value.bool false, Value.bool false, Value.bool false, Value.bool false, Value.bool false, Value.bool false, Value.bool false, Value.bool false, Value.bool false, Value.bool false, Value.bool false, Value.bool false, Value.bool false, Value.bool false, Value.bool false, Value.bool false, Value.bool false, Value.bool false, Value.bool false, Value.bool false, Value.bool false, Value.bool false, Value.bool false, Value.bool false, Value.bool false, Value.bool false, Value.bool false, Value.bool false, Value.bool false, Value.bool false, Value.bool false, Value.bool false, Value.bool false, Value.bool false, Value.bool false, Value.bool false, Value.bool false, Value.bool false, Value.bool false, Value.bool false, Value.bool false, Value.bool false, Value.bool false, Value.bool false, Value.bool false, Value.bool false, Value.bool false, Value.bool false, Value.bool false, Value.bool false, Value.bool false, Value.bool false, Value.bool false, Value.bool false, Value.bool false, Value.bool false, Value.bool false, Value.bool false, Value.bool false]) 107) →
    ∃ I2 : Int → World → Prop, ∃ I3 : Int → World → Nat, (I2 0 w1 ∧
     ∀ n4 : Int,
     ∀ w5 : World,
     (I2 n4 w5 →
       (((decide (n4 < (↑(ByteArray.size x0) : Int)) = true →
          ((0 ≤ n4 ∧
            n4 < (↑(ByteArray.size x0) : Int)) ∧
           (((decide (byteAt x0 n4 ≥ 128) = true →
              ∃ v6 : Value, (Sem.run Tryz.prog (loadVar 107 (Addr.mk (Array.size (World.heap w)) 0 none)) w5 = Result.ok v6 w5 ∧
               ∃ w7 : World, (Sem.run Tryz.prog (storeVar 107 (Addr.mk (Array.size (World.heap w)) 0 none) v6) w5 = Result.ok PUnit.unit w7 ∧
                ∃ v8 : Value, (Sem.run Tryz.prog (loadVar 107 (Addr.mk (Array.size (World.heap w)) 0 none)) w7 = Result.ok v8 w7 ∧
                 R (Value.tuple (Array.mk [v8, Value.bool false])) w7))))) ∧
            (decide (byteAt x0 n4 ≥ 128) = false →
              ((0 ≤ byteAt x0 n4 ∧
                byteAt x0 n4 < (↑256 : Int)) ∧
               (Wr w5 (Addr.add (Addr.mk (Array.size (World.heap w)) 0 none) (Int.toNat (byteAt x0 n4) * 1)) ∧
                ∀ w9 : World,
                (w9 = World.setCell w5 (Addr.add (Addr.mk (Array.size (World.heap w)) 0 none) (Int.toNat (byteAt x0 n4) * 1)) (Value.bool true) →
                  (I2 (IntKind.wrap IntKind.i64 (n4 + 1)) w9 ∧
                   I3 (IntKind.wrap IntKind.i64 (n4 + 1)) w9 < I3 n4 w5))))))))) ∧
        (decide (n4 < (↑(ByteArray.size x0) : Int)) = false →
          ∃ v10 : Value, (Sem.run Tryz.prog (loadVar 107 (Addr.mk (Array.size (World.heap w)) 0 none)) w5 = Result.ok v10 w5 ∧
           ∃ w11 : World, (Sem.run Tryz.prog (storeVar 107 (Addr.mk (Array.size (World.heap w)) 0 none) v10) w5 = Result.ok PUnit.unit w11 ∧
            ∃ v12 : Value, (Sem.run Tryz.prog (loadVar 107 (Addr.mk (Array.size (World.heap w)) 0 none)) w11 = Result.ok v12 w11 ∧
             R (Value.tuple (Array.mk [v12, Value.bool true])) w11))))))))
theorem vc_strings_makeASCIISet_ok {x0 : ByteArray} {w : World} {R : Value → World → Prop} {R' : Ending → World → Prop} (h : vc_strings_makeASCIISet x0 w R) (hR : ∀ v w', R v w' → R' (.returned v) w') :
    Calls Tryz.prog 81 #[.string x0] w R' :=
  calls_of_body (vs := [(.string x0, false)]) (ty := ty) (ann := ⟨[], [(2, [(4, .int .i64)])], [], []⟩) (c := Tryz.f81.body.getD .skip) (by kernel_rfl) Tryz.func81 (by kernel_rfl) (by kernel_rfl) (Eq.mp (by kernel_rfl) h) hR
/-- (*strings.asciiSet).contains -/
def vc_strings_asciiSet_contains (x0 : Nat) (x1 : Int) (w : World) (R : Value → World → Prop) : Prop :=
  ((0 ≤ x1 ∧
    x1 < (↑256 : Int)) ∧
   ∃ b1 : Bool, (World.cell? w (Addr.add (Addr.mk x0 0 none) (Int.toNat x1 * 1)) = some (Value.bool b1) ∧
    R (Value.bool b1) w))
theorem vc_strings_asciiSet_contains_ok {x0 : Nat} {x1 : Int} {w : World} {R : Value → World → Prop} {R' : Ending → World → Prop} (h : vc_strings_asciiSet_contains x0 x1 w R) (hR : ∀ v w', R v w' → R' (.returned v) w') :
    Calls Tryz.prog 82 #[.pointer (some ⟨x0, 0, none⟩), .int .u8 x1] w R' :=
  calls_of_body (vs := [(.pointer (some ⟨x0, 0, none⟩), true), (.int .u8 x1, false)]) (ty := ty) (ann := ⟨[], [], [], []⟩) (c := Tryz.f82.body.getD .skip) (by kernel_rfl) Tryz.func82 (by kernel_rfl) (by kernel_rfl) (Eq.mp (by kernel_rfl) h) hR
/-- strings.ContainsAny -/
def vc_strings_ContainsAny (x0 : ByteArray) (x1 : ByteArray) (w : World) (R : Value → World → Prop) : Prop :=
  Calls Tryz.prog (61 : Nat) (Array.mk [Value.string x0, Value.string x1]) (w) (fun e1 w2 =>
    ∃ n3 : Int, (e1 = Ending.returned (Value.int IntKind.i64 n3) ∧
     R (Value.bool (decide (n3 ≥ 0))) w2))
theorem vc_strings_ContainsAny_ok {x0 : ByteArray} {x1 : ByteArray} {w : World} {R : Value → World → Prop} {R' : Ending → World → Prop} (h : vc_strings_ContainsAny x0 x1 w R) (hR : ∀ v w', R v w' → R' (.returned v) w') :
    Calls Tryz.prog 37 #[.string x0, .string x1] w R' :=
  calls_of_body (vs := [(.string x0, false), (.string x1, false)]) (ty := ty) (ann := ⟨[], [], [], []⟩) (c := Tryz.f37.body.getD .skip) (by kernel_rfl) Tryz.func37 (by kernel_rfl) (by kernel_rfl) (Eq.mp (by kernel_rfl) h) hR
/-- unicode/utf8.ValidRune -/
def vc_utf8_ValidRune (x0 : Int) (w : World) (R : Value → World → Prop) : Prop :=
  (((decide (0 ≤ x0) = true →
     (((decide (x0 < 55296) = true →
        R (Value.bool true) w)) ∧
      (decide (x0 < 55296) = false →
        (((decide (57343 < x0) = true →
           (((decide (x0 ≤ 1114111) = true →
              R (Value.bool true) w)) ∧
            (decide (x0 ≤ 1114111) = false →
              R (Value.bool false) w)))) ∧
         (decide (57343 < x0) = false →
           R (Value.bool false) w)))))) ∧
   (decide (0 ≤ x0) = false →
     (((decide (57343 < x0) = true →
        (((decide (x0 ≤ 1114111) = true →
           R (Value.bool true) w)) ∧
         (decide (x0 ≤ 1114111) = false →
           R (Value.bool false) w)))) ∧
      (decide (57343 < x0) = false →
        R (Value.bool false) w))))
theorem vc_utf8_ValidRune_ok {x0 : Int} {w : World} {R : Value → World → Prop} {R' : Ending → World → Prop} (h : vc_utf8_ValidRune x0 w R) (hR : ∀ v w', R v w' → R' (.returned v) w') :
    Calls Tryz.prog 107 #[.int .i32 x0] w R' :=
  calls_of_body (vs := [(.int .i32 x0, false)]) (ty := ty) (ann := ⟨[], [], [], []⟩) (c := Tryz.f107.body.getD .skip) (by kernel_rfl) Tryz.func107 (by kernel_rfl) (by kernel_rfl) (Eq.mp (by kernel_rfl) h) hR
/-- unicode/utf8.DecodeRuneInString -/
def vc_utf8_DecodeRuneInString (x0 : ByteArray) (w : World) (R : Value → World → Prop) : Prop :=
  ((((!ByteArray.toList x0 == ByteArray.toList (ByteArray.mk (Array.mk []))) = true →
     (((0 : Int) ≤ (0 : Int) ∧
       0 < (↑(ByteArray.size x0) : Int)) ∧
      (((decide (byteAt x0 0 < 128) = true →
         (((0 : Int) ≤ (0 : Int) ∧
           0 < (↑(ByteArray.size x0) : Int)) ∧
          R (Value.tuple (Array.mk [Value.int IntKind.i32 (IntKind.wrap IntKind.i32 (byteAt x0 0)), Value.int IntKind.i64 1])) w))) ∧
       (decide (byteAt x0 0 < 128) = false →
         Calls Tryz.prog (108 : Nat) (Array.mk [Value.string x0]) (w) (fun e1 w2 =>
           ∃ n3 : Int, ∃ n4 : Int, (e1 = Ending.returned (Value.tuple (Array.mk [Value.int IntKind.i32 n3, Value.int IntKind.i64 n4])) ∧
            R (Value.tuple (Array.mk [Value.int IntKind.i32 n3, Value.int IntKind.i64 n4])) w2))))))) ∧
   ((!ByteArray.toList x0 == ByteArray.toList (ByteArray.mk (Array.mk []))) = false →
     Calls Tryz.prog (108 : Nat) (Array.mk [Value.string x0]) (w) (fun e5 w6 =>
       ∃ n7 : Int, ∃ n8 : Int, (e5 = Ending.returned (Value.tuple (Array.mk [Value.int IntKind.i32 n7, Value.int IntKind.i64 n8])) ∧
        R (Value.tuple (Array.mk [Value.int IntKind.i32 n7, Value.int IntKind.i64 n8])) w6))))
theorem vc_utf8_DecodeRuneInString_ok {x0 : ByteArray} {w : World} {R : Value → World → Prop} {R' : Ending → World → Prop} (h : vc_utf8_DecodeRuneInString x0 w R) (hR : ∀ v w', R v w' → R' (.returned v) w') :
    Calls Tryz.prog 84 #[.string x0] w R' :=
  calls_of_body (vs := [(.string x0, false)]) (ty := ty) (ann := ⟨[], [], [], []⟩) (c := Tryz.f84.body.getD .skip) (by kernel_rfl) Tryz.func84 (by kernel_rfl) (by kernel_rfl) (Eq.mp (by kernel_rfl) h) hR
end Go.Proofs.YtmhlmdnhpfhoeaaGreatDoor

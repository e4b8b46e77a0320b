/- Formulas of 3 Go functions of this seat (written by a program of the author's, vcgen.py), and that each is enough for the call. No condition. -/
import Derived.Test.YtofejgaanpaieaaTy
import Derived.Test.YtofejgaanpaieaaProg
set_option linter.unusedVariables false
namespace Go.Proofs.Ytofejgaanpaieaa
open Go Vc Go.Proofs
set_option maxRecDepth 100000
/-- cartularylaw05.InflateWrites -/
def vc_cartularylaw05_InflateWrites (x0 : ByteArray) (w : World) (R : Value → World → Prop) : Prop :=
  Calls Try.prog (11 : Nat) (Array.mk [Value.string x0, Value.int IntKind.i64 3000]) (w) (fun e1 w2 =>
    ∃ s3 : ByteArray, (e1 = Ending.returned (Value.string s3) ∧
     Calls Try.prog (20 : Nat) (Array.mk [Value.string s3]) (w2) (fun e4 w5 =>
       ∃ s6 : ByteArray, (e4 = Ending.returned (Value.string s6) ∧
        Calls Try.prog (21 : Nat) (Array.mk [Value.string s3]) (w5) (fun e7 w8 =>
          ∃ s9 : ByteArray, (e7 = Ending.returned (Value.string s9) ∧
           Calls Try.prog (14 : Nat) (Array.mk []) (w8) (fun e10 w11 =>
             ∃ b12 : Bool, (e10 = Ending.returned (Value.bool b12) ∧
              ((((!b12) = true →
                 R (Value.bool false) w11)) ∧
               ((!b12) = false →
                 Calls Try.prog (22 : Nat) (Array.mk [Value.string s3]) (w11) (fun e13 w14 =>
                   ∃ s15 : ByteArray, (e13 = Ending.returned (Value.string s15) ∧
                    ((((!ByteArray.toList s6 == ByteArray.toList s15) = true →
                       R (Value.bool false) w14)) ∧
                     ((!ByteArray.toList s6 == ByteArray.toList s15) = false →
                       (((decide ((↑(ByteArray.size s9) : Int) > (↑(ByteArray.size s6) : Int)) = true →
                          R (Value.bool false) w14)) ∧
                        (decide ((↑(ByteArray.size s9) : Int) > (↑(ByteArray.size s6) : Int)) = false →
                          ∀ w16 : World,
                          (w16 = World.alloc w14 (Obj.cells (Array.mk [Value.string s6, Value.string s9]) 9) →
                            ∃ I17 : Int → World → Prop, ∃ I18 : Int → World → Nat, (I17 0 w16 ∧
                             ∀ n19 : Int,
                             ∀ w20 : World,
                             (I17 n19 w20 →
                               (((decide (n19 < (↑2 : Int)) = true →
                                  ((0 ≤ n19 ∧
                                    n19 < (↑2 : Int)) ∧
                                   ∃ a21 : Addr, (some (Addr.mk (Array.size (World.heap w14)) 0 none) = some a21 ∧
                                    ∃ s22 : ByteArray, (World.cell? w20 (Addr.add a21 (Int.toNat n19 * 1)) = some (Value.string s22) ∧
                                     Calls Try.prog (12 : Nat) (Array.mk [Value.string s22, Value.int IntKind.i64 0, Value.int IntKind.i64 (↑(ByteArray.size s3) : Int)]) (w20) (fun e23 w24 =>
                                       ∃ s25 : ByteArray, ∃ n26 : Int, ∃ n27 : Int, (e23 = Ending.returned (Value.tuple (Array.mk [Value.string s25, Value.int IntKind.i64 n26, Value.int IntKind.i64 n27])) ∧
                                        Calls Try.prog (12 : Nat) (Array.mk [Value.string s22, Value.int IntKind.i64 0, Value.int IntKind.i64 (IntKind.wrap IntKind.i64 ((↑(ByteArray.size s3) : Int) - 1))]) (w24) (fun e28 w29 =>
                                          ∃ s30 : ByteArray, ∃ n31 : Int, ∃ n32 : Int, (e28 = Ending.returned (Value.tuple (Array.mk [Value.string s30, Value.int IntKind.i64 n31, Value.int IntKind.i64 n32])) ∧
                                           ((((!ByteArray.toList s25 == ByteArray.toList s3) = true →
                                              R (Value.bool false) w29)) ∧
                                            ((!ByteArray.toList s25 == ByteArray.toList s3) = false →
                                              ((((n26 != (↑(ByteArray.size s22) : Int)) = true →
                                                 R (Value.bool false) w29)) ∧
                                               ((n26 != (↑(ByteArray.size s22) : Int)) = false →
                                                 ((((n27 != 0) = true →
                                                    R (Value.bool false) w29)) ∧
                                                  ((n27 != 0) = false →
                                                    (((decide ((↑(ByteArray.size s3) : Int) > 0) = true →
                                                       ((((n32 != 2) = true →
                                                          R (Value.bool false) w29)) ∧
                                                        ((n32 != 2) = false →
                                                          (((((↑(ByteArray.size s3) : Int) == 0) = true →
                                                             ((((n32 != 1) = true →
                                                                R (Value.bool false) w29)) ∧
                                                              ((n32 != 1) = false →
                                                                (I17 (IntKind.wrap IntKind.i64 (n19 + 1)) w29 ∧
                                                                 I18 (IntKind.wrap IntKind.i64 (n19 + 1)) w29 < I18 n19 w20))))) ∧
                                                           (((↑(ByteArray.size s3) : Int) == 0) = false →
                                                             (I17 (IntKind.wrap IntKind.i64 (n19 + 1)) w29 ∧
                                                              I18 (IntKind.wrap IntKind.i64 (n19 + 1)) w29 < I18 n19 w20))))))) ∧
                                                     (decide ((↑(ByteArray.size s3) : Int) > 0) = false →
                                                       (((((↑(ByteArray.size s3) : Int) == 0) = true →
                                                          ((((n32 != 1) = true →
                                                             R (Value.bool false) w29)) ∧
                                                           ((n32 != 1) = false →
                                                             (I17 (IntKind.wrap IntKind.i64 (n19 + 1)) w29 ∧
                                                              I18 (IntKind.wrap IntKind.i64 (n19 + 1)) w29 < I18 n19 w20))))) ∧
                                                        (((↑(ByteArray.size s3) : Int) == 0) = false →
                                                          (I17 (IntKind.wrap IntKind.i64 (n19 + 1)) w29 ∧
                                                           I18 (IntKind.wrap IntKind.i64 (n19 + 1)) w29 < I18 n19 w20)))))))))))))))))))) ∧
                                (decide (n19 < (↑2 : Int)) = false →
                                  R (Value.bool true) w20)))))))))))))))))))))
theorem vc_cartularylaw05_InflateWrites_ok {x0 : ByteArray} {w : World} {R : Value → World → Prop} {R' : Ending → World → Prop} (h : vc_cartularylaw05_InflateWrites x0 w R) (hR : ∀ v w', R v w' → R' (.returned v) w') :
    Calls Try.prog 7 #[.string x0] w R' :=
  calls_of_body (vs := [(.string x0, false)]) (ty := ty) (ann := ⟨[], [(6, [(38, .int .i64)])], [], []⟩) (c := Try.f7.body.getD .skip) (by kernel_rfl) Try.func7 (by kernel_rfl) (by kernel_rfl) (Eq.mp (by kernel_rfl) h) hR
/-- cartularylaw05.InflateInside -/
def vc_cartularylaw05_InflateInside (x0 : ByteArray) (x1 : ByteArray) (x2 : ByteArray) (w : World) (R : Value → World → Prop) : Prop :=
  Calls Try.prog (11 : Nat) (Array.mk [Value.string x0, Value.int IntKind.i64 1500]) (w) (fun e1 w2 =>
    ∃ s3 : ByteArray, (e1 = Ending.returned (Value.string s3) ∧
     Calls Try.prog (11 : Nat) (Array.mk [Value.string x1, Value.int IntKind.i64 1500]) (w2) (fun e4 w5 =>
       ∃ s6 : ByteArray, (e4 = Ending.returned (Value.string s6) ∧
        Calls Try.prog (21 : Nat) (Array.mk [Value.string s6]) (w5) (fun e7 w8 =>
          ∃ s9 : ByteArray, (e7 = Ending.returned (Value.string s9) ∧
           (ByteArray.size s3 + ByteArray.size s9 ≤ 9223372036854775807 ∧
            Calls Try.prog (11 : Nat) (Array.mk [Value.string x2, Value.int IntKind.i64 1500]) (w8) (fun e10 w11 =>
              ∃ s12 : ByteArray, (e10 = Ending.returned (Value.string s12) ∧
               (ByteArray.size (s3 ++ s9) + ByteArray.size s12 ≤ 9223372036854775807 ∧
                Calls Try.prog (12 : Nat) (Array.mk [Value.string (s3 ++ s9 ++ s12), Value.int IntKind.i64 (↑(ByteArray.size s3) : Int), Value.int IntKind.i64 4000]) (w11) (fun e13 w14 =>
                  ∃ s15 : ByteArray, ∃ n16 : Int, ∃ n17 : Int, (e13 = Ending.returned (Value.tuple (Array.mk [Value.string s15, Value.int IntKind.i64 n16, Value.int IntKind.i64 n17])) ∧
                   Calls Try.prog (14 : Nat) (Array.mk []) (w14) (fun e18 w19 =>
                     ∃ b20 : Bool, (e18 = Ending.returned (Value.bool b20) ∧
                      (((b20 = true →
                         ((((ByteArray.toList s15 == ByteArray.toList s6) = true →
                            ((((n16 == (↑(ByteArray.size s9) : Int)) = true →
                               R (Value.bool (n17 == 0)) w19)) ∧
                             ((n16 == (↑(ByteArray.size s9) : Int)) = false →
                               R (Value.bool false) w19)))) ∧
                          ((ByteArray.toList s15 == ByteArray.toList s6) = false →
                            R (Value.bool false) w19)))) ∧
                       (b20 = false →
                         R (Value.bool false) w19))))))))))))))))
theorem vc_cartularylaw05_InflateInside_ok {x0 : ByteArray} {x1 : ByteArray} {x2 : ByteArray} {w : World} {R : Value → World → Prop} {R' : Ending → World → Prop} (h : vc_cartularylaw05_InflateInside x0 x1 x2 w R) (hR : ∀ v w', R v w' → R' (.returned v) w') :
    Calls Try.prog 8 #[.string x0, .string x1, .string x2] w R' :=
  calls_of_body (vs := [(.string x0, false), (.string x1, false), (.string x2, false)]) (ty := ty) (ann := ⟨[], [], [], []⟩) (c := Try.f8.body.getD .skip) (by kernel_rfl) Try.func8 (by kernel_rfl) (by kernel_rfl) (Eq.mp (by kernel_rfl) h) hR
/-- cartularylaw05.InflateTwice -/
def vc_cartularylaw05_InflateTwice (x0 : ByteArray) (x1 : ByteArray) (w : World) (R : Value → World → Prop) : Prop :=
  Calls Try.prog (11 : Nat) (Array.mk [Value.string x0, Value.int IntKind.i64 500]) (w) (fun e1 w2 =>
    ∃ s3 : ByteArray, (e1 = Ending.returned (Value.string s3) ∧
     Calls Try.prog (11 : Nat) (Array.mk [Value.string x1, Value.int IntKind.i64 500]) (w2) (fun e4 w5 =>
       ∃ s6 : ByteArray, (e4 = Ending.returned (Value.string s6) ∧
        Calls Try.prog (20 : Nat) (Array.mk [Value.string s3]) (w5) (fun e7 w8 =>
          ∃ s9 : ByteArray, (e7 = Ending.returned (Value.string s9) ∧
           ∃ w10 : World, ∃ l11 : Sl, (Sem.run Try.prog (convert 9 40 (Value.string s9)) w8 = Result.ok (Value.slice l11.1 l11.2 l11.3) w10 ∧
            (((decide ((↑l11.2 : Int) < 5) = true →
               R (Value.bool false) w10)) ∧
             (decide ((↑l11.2 : Int) < 5) = false →
               (((0 : Int) ≤ (0 : Int) ∧
                 0 < (↑l11.2 : Int)) ∧
                ∃ a12 : Addr, (l11.1 = some a12 ∧
                 (Wr w10 (Addr.add a12 (Int.toNat 0 * 1)) ∧
                  ∀ w13 : World,
                  (w13 = World.setCell w10 (Addr.add a12 (Int.toNat 0 * 1)) (Value.int IntKind.u8 0) →
                    ∀ w14 : World,
                    (Drew w13 w14 →
                      ∃ I15 : World → Prop, (I15 w14 ∧
                       ∃ s16 : ByteArray, ((∀ w17 : World,
                        (I15 w17 →
                          Sem.run Try.prog (convert 40 9 (Value.slice l11.1 l11.2 l11.3)) w17 = Result.ok (Value.string s16) w17)) ∧
                        Calls Try.prog (21 : Nat) (Array.mk [Value.string s6]) (w14) (fun e18 w19 =>
                          ∃ s20 : ByteArray, (e18 = Ending.returned (Value.string s20) ∧
                           (I15 w19 ∧
                            (ByteArray.size s16 + ByteArray.size s20 ≤ 9223372036854775807 ∧
                             Calls Try.prog (12 : Nat) (Array.mk [Value.string (s16 ++ s20), Value.int IntKind.i64 0, Value.int IntKind.i64 1000]) (w19) (fun e21 w22 =>
                               ∃ s23 : ByteArray, ∃ n24 : Int, ∃ n25 : Int, (e21 = Ending.returned (Value.tuple (Array.mk [Value.string s23, Value.int IntKind.i64 n24, Value.int IntKind.i64 n25])) ∧
                                (I15 w22 ∧
                                 Calls Try.prog (14 : Nat) (Array.mk []) (w22) (fun e26 w27 =>
                                   ∃ b28 : Bool, (e26 = Ending.returned (Value.bool b28) ∧
                                    (((b28 = true →
                                       ((((n25 == 0) = true →
                                          (ByteArray.size s3 + ByteArray.size s6 ≤ 9223372036854775807 ∧
                                           ((((ByteArray.toList s23 == ByteArray.toList (s3 ++ s6)) = true →
                                              Calls Try.prog (21 : Nat) (Array.mk [Value.string s6]) (w27) (fun e29 w30 =>
                                                ∃ s31 : ByteArray, (e29 = Ending.returned (Value.string s31) ∧
                                                 R (Value.bool (n24 == IntKind.wrap IntKind.i64 ((↑l11.2 : Int) + (↑(ByteArray.size s31) : Int)))) w30)))) ∧
                                            ((ByteArray.toList s23 == ByteArray.toList (s3 ++ s6)) = false →
                                              R (Value.bool false) w27))))) ∧
                                        ((n25 == 0) = false →
                                          R (Value.bool false) w27)))) ∧
                                     (b28 = false →
                                       R (Value.bool false) w27)))))))))))))))))))))))))))
theorem vc_cartularylaw05_InflateTwice_ok {x0 : ByteArray} {x1 : ByteArray} {w : World} {R : Value → World → Prop} {R' : Ending → World → Prop} (h : vc_cartularylaw05_InflateTwice x0 x1 w R) (hR : ∀ v w', R v w' → R' (.returned v) w') :
    Calls Try.prog 9 #[.string x0, .string x1] w R' :=
  calls_of_body (vs := [(.string x0, false), (.string x1, false)]) (ty := ty) (ann := ⟨[], [], [(7, .held [(0, true), (2, true), (1, true), (3, false), (4, true), (5, false), (6, true), (7, true), (8, true), (9, true), (10, true), (11, true), (12, true)])], []⟩) (c := Try.f9.body.getD .skip) (by kernel_rfl) Try.func9 (by kernel_rfl) (by kernel_rfl) (Eq.mp (by kernel_rfl) h) hR
end Go.Proofs.Ytofejgaanpaieaa

/- Formulas of 4 Go functions of this seat (written by a program of the author's, vcgen.py), and that each is enough for the call. No condition. -/
import Derived.Test.YtcebplekflpbiaaTy
import Derived.Test.YtcebplekflpbiaaProg
set_option linter.unusedVariables false
namespace Go.Proofs.Ytcebplekflpbiaa
open Go Vc Go.Proofs
set_option maxRecDepth 100000
/-- cartularylaw05.awake -/
def vc_cartularylaw05_awake (w : World) (R : Value → World → Prop) : Prop :=
  Calls Try.prog (10 : Nat) (Array.mk [Value.string (ByteArray.mk (Array.mk [(75 : UInt8), (4 : UInt8), (0 : UInt8)])), Value.int IntKind.i64 (0 : Int), Value.int IntKind.i64 (9 : Int)]) (w) (fun e1 w2 =>
    ∃ s3 : ByteArray, ∃ n4 : Int, ∃ n5 : Int, (e1 = Ending.returned (Value.tuple (Array.mk [Value.string s3, Value.int IntKind.i64 n4, Value.int IntKind.i64 n5])) ∧
     Calls Try.prog (10 : Nat) (Array.mk [Value.string (ByteArray.mk (Array.mk [(7 : UInt8)])), Value.int IntKind.i64 (0 : Int), Value.int IntKind.i64 (9 : Int)]) (w2) (fun e6 w7 =>
       ∃ s8 : ByteArray, ∃ n9 : Int, ∃ n10 : Int, (e6 = Ending.returned (Value.tuple (Array.mk [Value.string s8, Value.int IntKind.i64 n9, Value.int IntKind.i64 n10])) ∧
        ((((ByteArray.toList s3 == ByteArray.toList (ByteArray.mk (Array.mk [97]))) = true →
           ((((n4 == 3) = true →
              ((((n5 == 0) = true →
                 R (Value.bool (n10 == 3)) w7)) ∧
               ((n5 == 0) = false →
                 R (Value.bool false) w7)))) ∧
            ((n4 == 3) = false →
              R (Value.bool false) w7)))) ∧
         ((ByteArray.toList s3 == ByteArray.toList (ByteArray.mk (Array.mk [97]))) = false →
           R (Value.bool false) w7))))))
theorem vc_cartularylaw05_awake_ok {w : World} {R : Value → World → Prop} {R' : Ending → World → Prop} (h : vc_cartularylaw05_awake w R) (hR : ∀ v w', R v w' → R' (.returned v) w') :
    Calls Try.prog 12 #[] w R' :=
  calls_of_body (vs := []) (ty := ty) (ann := ⟨[], [], [], []⟩) (c := Try.f12.body.getD .skip) (by kernel_rfl) Try.func12 (by kernel_rfl) (by kernel_rfl) (Eq.mp (by kernel_rfl) h) hR
/-- cartularylaw05.InflateReads -/
def vc_cartularylaw05_InflateReads (x0 : ByteArray) (x1 : Int) (x2 : Int) (w : World) (R : Value → World → Prop) : Prop :=
  Calls Try.prog (9 : Nat) (Array.mk [Value.string x0, Value.int IntKind.i64 400]) (w) (fun e1 w2 =>
    ∃ s3 : ByteArray, (e1 = Ending.returned (Value.string s3) ∧
     Calls Try.prog (10 : Nat) (Array.mk [Value.string s3, Value.int IntKind.i64 x1, Value.int IntKind.i64 x2]) (w2) (fun e4 w5 =>
       ∃ s6 : ByteArray, ∃ n7 : Int, ∃ n8 : Int, (e4 = Ending.returned (Value.tuple (Array.mk [Value.string s6, Value.int IntKind.i64 n7, Value.int IntKind.i64 n8])) ∧
        Calls Try.prog (11 : Nat) (Array.mk [Value.string s3, Value.int IntKind.i64 x1, Value.int IntKind.i64 x2]) (w5) (fun e9 w10 =>
          ∃ s11 : ByteArray, ∃ n12 : Int, ∃ n13 : Int, (e9 = Ending.returned (Value.tuple (Array.mk [Value.string s11, Value.int IntKind.i64 n12, Value.int IntKind.i64 n13])) ∧
           Calls Try.prog (12 : Nat) (Array.mk []) (w10) (fun e14 w15 =>
             ∃ b16 : Bool, (e14 = Ending.returned (Value.bool b16) ∧
              (((b16 = true →
                 ((((ByteArray.toList s6 == ByteArray.toList s11) = true →
                    ((((n7 == n12) = true →
                       R (Value.bool (n8 == n13)) w15)) ∧
                     ((n7 == n12) = false →
                       R (Value.bool false) w15)))) ∧
                  ((ByteArray.toList s6 == ByteArray.toList s11) = false →
                    R (Value.bool false) w15)))) ∧
               (b16 = false →
                 R (Value.bool false) w15))))))))))
theorem vc_cartularylaw05_InflateReads_ok {x0 : ByteArray} {x1 : Int} {x2 : Int} {w : World} {R : Value → World → Prop} {R' : Ending → World → Prop} (h : vc_cartularylaw05_InflateReads x0 x1 x2 w R) (hR : ∀ v w', R v w' → R' (.returned v) w') :
    Calls Try.prog 3 #[.string x0, .int .i64 x1, .int .i64 x2] w R' :=
  calls_of_body (vs := [(.string x0, false), (.int .i64 x1, false), (.int .i64 x2, false)]) (ty := ty) (ann := ⟨[], [], [], []⟩) (c := Try.f3.body.getD .skip) (by kernel_rfl) Try.func3 (by kernel_rfl) (by kernel_rfl) (Eq.mp (by kernel_rfl) h) hR
/-- cartularylaw05.InflateBegins -/
def vc_cartularylaw05_InflateBegins (x0 : ByteArray) (x1 : Int) (x2 : Int) (w : World) (R : Value → World → Prop) : Prop :=
  Calls Try.prog (9 : Nat) (Array.mk [Value.string x0, Value.int IntKind.i64 400]) (w) (fun e1 w2 =>
    ∃ s3 : ByteArray, (e1 = Ending.returned (Value.string s3) ∧
     Calls Try.prog (10 : Nat) (Array.mk [Value.string s3, Value.int IntKind.i64 0, Value.int IntKind.i64 x2]) (w2) (fun e4 w5 =>
       ∃ s6 : ByteArray, ∃ n7 : Int, ∃ n8 : Int, (e4 = Ending.returned (Value.tuple (Array.mk [Value.string s6, Value.int IntKind.i64 n7, Value.int IntKind.i64 n8])) ∧
        ((((n8 != 0) = true →
           Calls Try.prog (12 : Nat) (Array.mk []) (w5) (fun e9 w10 =>
             ∃ b11 : Bool, (e9 = Ending.returned (Value.bool b11) ∧
              R (Value.bool b11) w10)))) ∧
         ((n8 != 0) = false →
           (((decide (x1 < 0) = true →
              Calls Try.prog (12 : Nat) (Array.mk []) (w5) (fun e12 w13 =>
                ∃ b14 : Bool, (e12 = Ending.returned (Value.bool b14) ∧
                 R (Value.bool b14) w13)))) ∧
            (decide (x1 < 0) = false →
              (((0 ≤ if (↑(ByteArray.size s3) : Int) < x1 then (↑(ByteArray.size s3) : Int) else x1) ∧
                ((if (↑(ByteArray.size s3) : Int) < x1 then (↑(ByteArray.size s3) : Int) else x1) ≤ (↑(ByteArray.size s3) : Int))) ∧
               Calls Try.prog (10 : Nat) ((Array.mk [Value.string (ByteArray.extract s3 0 (Int.toNat (if (↑(ByteArray.size s3) : Int) < x1 then (↑(ByteArray.size s3) : Int) else x1))), Value.int IntKind.i64 0, Value.int IntKind.i64 x2])) (w5) (fun e15 w16 =>
                 ∃ s17 : ByteArray, ∃ n18 : Int, ∃ n19 : Int, (e15 = Ending.returned (Value.tuple (Array.mk [Value.string s17, Value.int IntKind.i64 n18, Value.int IntKind.i64 n19])) ∧
                  (((decide (x1 ≥ n7) = true →
                     Calls Try.prog (12 : Nat) (Array.mk []) (w16) (fun e20 w21 =>
                       ∃ b22 : Bool, (e20 = Ending.returned (Value.bool b22) ∧
                        (((b22 = true →
                           ((((ByteArray.toList s17 == ByteArray.toList s6) = true →
                              ((((n18 == n7) = true →
                                 R (Value.bool (n19 == 0)) w21)) ∧
                               ((n18 == n7) = false →
                                 R (Value.bool false) w21)))) ∧
                            ((ByteArray.toList s17 == ByteArray.toList s6) = false →
                              R (Value.bool false) w21)))) ∧
                         (b22 = false →
                           R (Value.bool false) w21)))))) ∧
                   (decide (x1 ≥ n7) = false →
                     Calls Try.prog (12 : Nat) (Array.mk []) (w16) (fun e23 w24 =>
                       ∃ b25 : Bool, (e23 = Ending.returned (Value.bool b25) ∧
                        (((b25 = true →
                           ((((n19 == 6) = true →
                              ((((ByteArray.toList s17 == ByteArray.toList (ByteArray.mk (Array.mk []))) = true →
                                 R (Value.bool (n18 == 0)) w24)) ∧
                               ((ByteArray.toList s17 == ByteArray.toList (ByteArray.mk (Array.mk []))) = false →
                                 R (Value.bool false) w24)))) ∧
                            ((n19 == 6) = false →
                              R (Value.bool false) w24)))) ∧
                         (b25 = false →
                           R (Value.bool false) w24)))))))))))))))))
theorem vc_cartularylaw05_InflateBegins_ok {x0 : ByteArray} {x1 : Int} {x2 : Int} {w : World} {R : Value → World → Prop} {R' : Ending → World → Prop} (h : vc_cartularylaw05_InflateBegins x0 x1 x2 w R) (hR : ∀ v w', R v w' → R' (.returned v) w') :
    Calls Try.prog 4 #[.string x0, .int .i64 x1, .int .i64 x2] w R' :=
  calls_of_body (vs := [(.string x0, false), (.int .i64 x1, false), (.int .i64 x2, false)]) (ty := ty) (ann := ⟨[], [], [], []⟩) (c := Try.f4.body.getD .skip) (by kernel_rfl) Try.func4 (by kernel_rfl) (by kernel_rfl) (Eq.mp (by kernel_rfl) h) hR
/-- cartularylaw05.InflateLimits -/
def vc_cartularylaw05_InflateLimits (x0 : ByteArray) (x1 : Int) (x2 : Int) (w : World) (R : Value → World → Prop) : Prop :=
  Calls Try.prog (9 : Nat) (Array.mk [Value.string x0, Value.int IntKind.i64 400]) (w) (fun e1 w2 =>
    ∃ s3 : ByteArray, (e1 = Ending.returned (Value.string s3) ∧
     Calls Try.prog (10 : Nat) (Array.mk [Value.string s3, Value.int IntKind.i64 0, Value.int IntKind.i64 x1]) (w2) (fun e4 w5 =>
       ∃ s6 : ByteArray, ∃ n7 : Int, ∃ n8 : Int, (e4 = Ending.returned (Value.tuple (Array.mk [Value.string s6, Value.int IntKind.i64 n7, Value.int IntKind.i64 n8])) ∧
        Calls Try.prog (10 : Nat) (Array.mk [Value.string s3, Value.int IntKind.i64 0, Value.int IntKind.i64 x2]) (w5) (fun e9 w10 =>
          ∃ s11 : ByteArray, ∃ n12 : Int, ∃ n13 : Int, (e9 = Ending.returned (Value.tuple (Array.mk [Value.string s11, Value.int IntKind.i64 n12, Value.int IntKind.i64 n13])) ∧
           ∃ I14 : World → Prop, (((((n8 == 0) = true →
               (((decide ((↑(ByteArray.size s6) : Int) > x1) = true →
                  R (Value.bool false) w10)) ∧
                (decide ((↑(ByteArray.size s6) : Int) > x1) = false →
                  ((((n13 == 0) = true →
                     (((decide ((↑(ByteArray.size s11) : Int) > x2) = true →
                        R (Value.bool false) w10)) ∧
                      (decide ((↑(ByteArray.size s11) : Int) > x2) = false →
                        I14 w10)))) ∧
                   ((n13 == 0) = false →
                     I14 w10)))))) ∧
             ((n8 == 0) = false →
               ((((n13 == 0) = true →
                  (((decide ((↑(ByteArray.size s11) : Int) > x2) = true →
                     R (Value.bool false) w10)) ∧
                   (decide ((↑(ByteArray.size s11) : Int) > x2) = false →
                     I14 w10)))) ∧
                ((n13 == 0) = false →
                  I14 w10)))) ∧
            ∀ w15 : World,
            (I14 w15 →
              (((decide (x1 < 0) = true →
                 Calls Try.prog (12 : Nat) (Array.mk []) (w15) (fun e16 w17 =>
                   ∃ b18 : Bool, (e16 = Ending.returned (Value.bool b18) ∧
                    R (Value.bool b18) w17)))) ∧
               (decide (x1 < 0) = false →
                 (((decide (x2 < x1) = true →
                    Calls Try.prog (12 : Nat) (Array.mk []) (w15) (fun e19 w20 =>
                      ∃ b21 : Bool, (e19 = Ending.returned (Value.bool b21) ∧
                       R (Value.bool b21) w20)))) ∧
                  (decide (x2 < x1) = false →
                    (((decide (x2 > 65536) = true →
                       Calls Try.prog (12 : Nat) (Array.mk []) (w15) (fun e22 w23 =>
                         ∃ b24 : Bool, (e22 = Ending.returned (Value.bool b24) ∧
                          R (Value.bool b24) w23)))) ∧
                     (decide (x2 > 65536) = false →
                       ((((n8 == 2) = true →
                          Calls Try.prog (12 : Nat) (Array.mk []) (w15) (fun e25 w26 =>
                            ∃ b27 : Bool, (e25 = Ending.returned (Value.bool b27) ∧
                             R (Value.bool b27) w26)))) ∧
                        ((n8 == 2) = false →
                          Calls Try.prog (12 : Nat) (Array.mk []) (w15) (fun e28 w29 =>
                            ∃ b30 : Bool, (e28 = Ending.returned (Value.bool b30) ∧
                             (((b30 = true →
                                ((((ByteArray.toList s6 == ByteArray.toList s11) = true →
                                   ((((n7 == n12) = true →
                                      R (Value.bool (n8 == n13)) w29)) ∧
                                    ((n7 == n12) = false →
                                      R (Value.bool false) w29)))) ∧
                                 ((ByteArray.toList s6 == ByteArray.toList s11) = false →
                                   R (Value.bool false) w29)))) ∧
                              (b30 = false →
                                R (Value.bool false) w29))))))))))))))))))))
theorem vc_cartularylaw05_InflateLimits_ok {x0 : ByteArray} {x1 : Int} {x2 : Int} {w : World} {R : Value → World → Prop} {R' : Ending → World → Prop} (h : vc_cartularylaw05_InflateLimits x0 x1 x2 w R) (hR : ∀ v w', R v w' → R' (.returned v) w') :
    Calls Try.prog 5 #[.string x0, .int .i64 x1, .int .i64 x2] w R' :=
  calls_of_body (vs := [(.string x0, false), (.int .i64 x1, false), (.int .i64 x2, false)]) (ty := ty) (ann := ⟨[(6, [])], [], [], []⟩) (c := Try.f5.body.getD .skip) (by kernel_rfl) Try.func5 (by kernel_rfl) (by kernel_rfl) (Eq.mp (by kernel_rfl) h) hR
end Go.Proofs.Ytcebplekflpbiaa

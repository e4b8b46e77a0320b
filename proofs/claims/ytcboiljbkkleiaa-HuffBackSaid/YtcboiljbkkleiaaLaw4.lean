/- Formulas of 5 Go functions of this seat (written by a program of the author's, vcgen.py), and that each is enough for the call. No condition. -/
import Derived.Test.YtcboiljbkkleiaaTy
import Derived.Test.YtcboiljbkkleiaaProg
set_option linter.unusedVariables false
namespace Go.Proofs.Ytcboiljbkkleiaa
open Go Vc Go.Proofs
set_option maxRecDepth 100000
/-- cartularylaw04.HuffCodes -/
def vc_cartularylaw04_HuffCodes (x0a : Option Addr) (x0n : Nat) (x0c : Nat) (w : World) (R : Value → World → Prop) : Prop :=
  Calls Try.prog (21 : Nat) (Array.mk [Value.slice x0a x0n x0c]) (w) (fun e1 w2 =>
    ∃ l3 : Sl, (e1 = Ending.returned (Value.slice l3.1 l3.2 l3.3) ∧
     Calls Try.prog (22 : Nat) (Array.mk [Value.slice l3.1 l3.2 l3.3]) (w2) (fun e4 w5 =>
       ∃ p6 : Option Addr, ∃ n7 : Int, (e4 = Ending.returned (Value.tuple (Array.mk [Value.pointer p6, Value.int IntKind.i64 n7])) ∧
        Calls Try.prog (21 : Nat) (Array.mk [Value.slice x0a x0n x0c]) (w5) (fun e8 w9 =>
          ∃ l10 : Sl, (e8 = Ending.returned (Value.slice l10.1 l10.2 l10.3) ∧
           Calls Try.prog (23 : Nat) (Array.mk [Value.slice l10.1 l10.2 l10.3]) (w9) (fun e11 w12 =>
             ∃ n13 : Int, (e11 = Ending.returned (Value.int IntKind.i64 n13) ∧
              Calls Try.prog (24 : Nat) (Array.mk []) (w12) (fun e14 w15 =>
                ∃ b16 : Bool, (e14 = Ending.returned (Value.bool b16) ∧
                 ((((!b16) = true →
                    R (Value.bool false) w15)) ∧
                  ((!b16) = false →
                    ((((n7 != n13) = true →
                       R (Value.bool false) w15)) ∧
                     ((n7 != n13) = false →
                       ((((n13 != 0) = true →
                          R (Value.bool (Option.isNone p6)) w15)) ∧
                        ((n13 != 0) = false →
                          Calls Try.prog (25 : Nat) (Array.mk [Value.slice l3.1 l3.2 l3.3]) (w15) (fun e17 w18 =>
                            ∃ l19 : Sl, (e17 = Ending.returned (Value.slice l19.1 l19.2 l19.3) ∧
                             ∃ I20 : Int → World → Prop, ∃ I21 : Int → World → Nat, (I20 0 w18 ∧
                              ∀ n22 : Int,
                              ∀ w23 : World,
                              (I20 n22 w23 →
                                (((decide (n22 < (↑l3.2 : Int)) = true →
                                   ((0 ≤ n22 ∧
                                     n22 < (↑l3.2 : Int)) ∧
                                    ∃ a24 : Addr, (l3.1 = some a24 ∧
                                     (Wr w23 (Addr.add a24 (Int.toNat n22 * 1)) ∧
                                      ∀ w25 : World,
                                      (w25 = World.setCell w23 (Addr.add a24 (Int.toNat n22 * 1)) (Value.int IntKind.i64 7) →
                                        (I20 (IntKind.wrap IntKind.i64 (n22 + 1)) w25 ∧
                                         I21 (IntKind.wrap IntKind.i64 (n22 + 1)) w25 < I21 n22 w23))))))) ∧
                                 (decide (n22 < (↑l3.2 : Int)) = false →
                                   ∃ I26 : Int → World → Prop, ∃ I27 : Int → World → Nat, (I26 0 w23 ∧
                                    ∀ n28 : Int,
                                    ∀ w29 : World,
                                    (I26 n28 w29 →
                                      (((decide (n28 < (↑l19.2 : Int)) = true →
                                         ((0 ≤ n28 ∧
                                           n28 < (↑l19.2 : Int)) ∧
                                          ∃ a30 : Addr, (l19.1 = some a30 ∧
                                           ∃ l31 : Sl, (World.cell? w29 (Addr.add a30 (Int.toNat n28 * 1)) = some (Value.slice l31.1 l31.2 l31.3) ∧
                                            Calls Try.prog (26 : Nat) (Array.mk [Value.pointer p6, Value.int IntKind.i64 n28]) (w29) (fun e32 w33 =>
                                              ∃ n34 : Int, ∃ n35 : Int, (e32 = Ending.returned (Value.tuple (Array.mk [Value.int IntKind.u32 n34, Value.int IntKind.i64 n35])) ∧
                                               ((((n35 != (↑l31.2 : Int)) = true →
                                                  R (Value.bool false) w33)) ∧
                                                ((n35 != (↑l31.2 : Int)) = false →
                                                  Calls Try.prog (28 : Nat) (Array.mk [Value.slice l31.1 l31.2 l31.3]) (w33) (fun e36 w37 =>
                                                    ∃ l38 : Sl, (e36 = Ending.returned (Value.slice l38.1 l38.2 l38.3) ∧
                                                     Calls Try.prog (27 : Nat) (Array.mk [Value.slice l38.1 l38.2 l38.3]) (w37) (fun e39 w40 =>
                                                       ∃ n41 : Int, (e39 = Ending.returned (Value.int IntKind.u32 n41) ∧
                                                        ((((n34 != n41) = true →
                                                           R (Value.bool false) w40)) ∧
                                                         ((n34 != n41) = false →
                                                           (I26 (IntKind.wrap IntKind.i64 (n28 + 1)) w40 ∧
                                                            I27 (IntKind.wrap IntKind.i64 (n28 + 1)) w40 < I27 n28 w29)))))))))))))))) ∧
                                       (decide (n28 < (↑l19.2 : Int)) = false →
                                         Calls Try.prog (26 : Nat) (Array.mk [Value.pointer p6, Value.int IntKind.i64 (-1)]) (w29) (fun e42 w43 =>
                                           ∃ n44 : Int, ∃ n45 : Int, (e42 = Ending.returned (Value.tuple (Array.mk [Value.int IntKind.u32 n44, Value.int IntKind.i64 n45])) ∧
                                            Calls Try.prog (26 : Nat) (Array.mk [Value.pointer p6, Value.int IntKind.i64 (↑l19.2 : Int)]) (w43) (fun e46 w47 =>
                                              ∃ n48 : Int, ∃ n49 : Int, (e46 = Ending.returned (Value.tuple (Array.mk [Value.int IntKind.u32 n48, Value.int IntKind.i64 n49])) ∧
                                               ((((n44 == 0) = true →
                                                  ((((n45 == 0) = true →
                                                     ((((n48 == 0) = true →
                                                        R (Value.bool (n49 == 0)) w47)) ∧
                                                      ((n48 == 0) = false →
                                                        R (Value.bool false) w47)))) ∧
                                                   ((n45 == 0) = false →
                                                     R (Value.bool false) w47)))) ∧
                                                ((n44 == 0) = false →
                                                  R (Value.bool false) w47))))))))))))))))))))))))))))))))
theorem vc_cartularylaw04_HuffCodes_ok {x0a : Option Addr} {x0n : Nat} {x0c : Nat} {w : World} {R : Value → World → Prop} {R' : Ending → World → Prop} (h : vc_cartularylaw04_HuffCodes x0a x0n x0c w R) (hR : ∀ v w', R v w' → R' (.returned v) w') :
    Calls Try.prog 4 #[.slice x0a x0n x0c] w R' :=
  calls_of_body (vs := [(.slice x0a x0n x0c, false)]) (ty := ty) (ann := ⟨[], [(10, [(42, .int .i64)]), (15, [(51, .int .i64)])], []⟩) (c := Try.f4.body.getD .skip) (by kernel_rfl) Try.func4 (by kernel_rfl) (by kernel_rfl) (Eq.mp (by kernel_rfl) h) hR
/-- cartularylaw04.HuffApart -/
def vc_cartularylaw04_HuffApart (x0a : Option Addr) (x0n : Nat) (x0c : Nat) (w : World) (R : Value → World → Prop) : Prop :=
  Calls Try.prog (21 : Nat) (Array.mk [Value.slice x0a x0n x0c]) (w) (fun e1 w2 =>
    ∃ l3 : Sl, (e1 = Ending.returned (Value.slice l3.1 l3.2 l3.3) ∧
     Calls Try.prog (22 : Nat) (Array.mk [Value.slice l3.1 l3.2 l3.3]) (w2) (fun e4 w5 =>
       ∃ p6 : Option Addr, ∃ n7 : Int, (e4 = Ending.returned (Value.tuple (Array.mk [Value.pointer p6, Value.int IntKind.i64 n7])) ∧
        ((((n7 != 0) = true →
           Calls Try.prog (24 : Nat) (Array.mk []) (w5) (fun e8 w9 =>
             ∃ b10 : Bool, (e8 = Ending.returned (Value.bool b10) ∧
              (((b10 = true →
                 R (Value.bool (Option.isNone p6)) w9)) ∧
               (b10 = false →
                 R (Value.bool false) w9)))))) ∧
         ((n7 != 0) = false →
           Calls Try.prog (21 : Nat) (Array.mk [Value.slice x0a x0n x0c]) (w5) (fun e11 w12 =>
             ∃ l13 : Sl, (e11 = Ending.returned (Value.slice l13.1 l13.2 l13.3) ∧
              ∃ I14 : Int → World → Prop, ∃ I15 : Int → World → Nat, (I14 0 w12 ∧
               ∀ n16 : Int,
               ∀ w17 : World,
               (I14 n16 w17 →
                 (((decide (n16 < (↑l13.2 : Int)) = true →
                    Calls Try.prog (26 : Nat) (Array.mk [Value.pointer p6, Value.int IntKind.i64 n16]) (w17) (fun e18 w19 =>
                      ∃ n20 : Int, ∃ n21 : Int, (e18 = Ending.returned (Value.tuple (Array.mk [Value.int IntKind.u32 n20, Value.int IntKind.i64 n21])) ∧
                       (((decide (n21 < 0) = true →
                          R (Value.bool false) w19)) ∧
                        (decide (n21 < 0) = false →
                          (((decide (n21 > 15) = true →
                             R (Value.bool false) w19)) ∧
                           (decide (n21 > 15) = false →
                             (0 ≤ n21 ∧
                              (((decide (n20 ≥ IntKind.wrap IntKind.u32 (1 * 2 ^ min (Int.toNat n21) 32)) = true →
                                 R (Value.bool false) w19)) ∧
                               (decide (n20 ≥ IntKind.wrap IntKind.u32 (1 * 2 ^ min (Int.toNat n21) 32)) = false →
                                 ∃ I22 : Int → World → Prop, ∃ I23 : Int → World → Nat, (I22 0 w19 ∧
                                  ∀ n24 : Int,
                                  ∀ w25 : World,
                                  (I22 n24 w25 →
                                    (((decide (n24 < n16) = true →
                                       (((decide (n21 > 0) = true →
                                          Calls Try.prog (26 : Nat) (Array.mk [Value.pointer p6, Value.int IntKind.i64 n24]) (w25) (fun e26 w27 =>
                                            ∃ n28 : Int, ∃ n29 : Int, (e26 = Ending.returned (Value.tuple (Array.mk [Value.int IntKind.u32 n28, Value.int IntKind.i64 n29])) ∧
                                             ((((n29 == 0) = true →
                                                (I22 (IntKind.wrap IntKind.i64 (n24 + 1)) w27 ∧
                                                 I23 (IntKind.wrap IntKind.i64 (n24 + 1)) w27 < I23 n24 w25))) ∧
                                              ((n29 == 0) = false →
                                                (((decide (n29 ≤ n21) = true →
                                                   (0 ≤ IntKind.wrap IntKind.i64 (n21 - n29) ∧
                                                    ((((Int.fdiv n20 (2 ^ min (Int.toNat (IntKind.wrap IntKind.i64 (n21 - n29))) 32) == n28) = true →
                                                       R (Value.bool false) w27)) ∧
                                                     ((Int.fdiv n20 (2 ^ min (Int.toNat (IntKind.wrap IntKind.i64 (n21 - n29))) 32) == n28) = false →
                                                       (((decide (n21 ≤ n29) = true →
                                                          (0 ≤ IntKind.wrap IntKind.i64 (n29 - n21) ∧
                                                           ((((Int.fdiv n28 (2 ^ min (Int.toNat (IntKind.wrap IntKind.i64 (n29 - n21))) 32) == n20) = true →
                                                              R (Value.bool false) w27)) ∧
                                                            ((Int.fdiv n28 (2 ^ min (Int.toNat (IntKind.wrap IntKind.i64 (n29 - n21))) 32) == n20) = false →
                                                              ((((n29 == n21) = true →
                                                                 (((decide (n28 ≥ n20) = true →
                                                                    R (Value.bool false) w27)) ∧
                                                                  (decide (n28 ≥ n20) = false →
                                                                    (I22 (IntKind.wrap IntKind.i64 (n24 + 1)) w27 ∧
                                                                     I23 (IntKind.wrap IntKind.i64 (n24 + 1)) w27 < I23 n24 w25))))) ∧
                                                               ((n29 == n21) = false →
                                                                 (I22 (IntKind.wrap IntKind.i64 (n24 + 1)) w27 ∧
                                                                  I23 (IntKind.wrap IntKind.i64 (n24 + 1)) w27 < I23 n24 w25)))))))) ∧
                                                        (decide (n21 ≤ n29) = false →
                                                          ((((n29 == n21) = true →
                                                             (((decide (n28 ≥ n20) = true →
                                                                R (Value.bool false) w27)) ∧
                                                              (decide (n28 ≥ n20) = false →
                                                                (I22 (IntKind.wrap IntKind.i64 (n24 + 1)) w27 ∧
                                                                 I23 (IntKind.wrap IntKind.i64 (n24 + 1)) w27 < I23 n24 w25))))) ∧
                                                           ((n29 == n21) = false →
                                                             (I22 (IntKind.wrap IntKind.i64 (n24 + 1)) w27 ∧
                                                              I23 (IntKind.wrap IntKind.i64 (n24 + 1)) w27 < I23 n24 w25)))))))))) ∧
                                                 (decide (n29 ≤ n21) = false →
                                                   (((decide (n21 ≤ n29) = true →
                                                      (0 ≤ IntKind.wrap IntKind.i64 (n29 - n21) ∧
                                                       ((((Int.fdiv n28 (2 ^ min (Int.toNat (IntKind.wrap IntKind.i64 (n29 - n21))) 32) == n20) = true →
                                                          R (Value.bool false) w27)) ∧
                                                        ((Int.fdiv n28 (2 ^ min (Int.toNat (IntKind.wrap IntKind.i64 (n29 - n21))) 32) == n20) = false →
                                                          ((((n29 == n21) = true →
                                                             (((decide (n28 ≥ n20) = true →
                                                                R (Value.bool false) w27)) ∧
                                                              (decide (n28 ≥ n20) = false →
                                                                (I22 (IntKind.wrap IntKind.i64 (n24 + 1)) w27 ∧
                                                                 I23 (IntKind.wrap IntKind.i64 (n24 + 1)) w27 < I23 n24 w25))))) ∧
                                                           ((n29 == n21) = false →
                                                             (I22 (IntKind.wrap IntKind.i64 (n24 + 1)) w27 ∧
                                                              I23 (IntKind.wrap IntKind.i64 (n24 + 1)) w27 < I23 n24 w25)))))))) ∧
                                                    (decide (n21 ≤ n29) = false →
                                                      ((((n29 == n21) = true →
                                                         (((decide (n28 ≥ n20) = true →
                                                            R (Value.bool false) w27)) ∧
                                                          (decide (n28 ≥ n20) = false →
                                                            (I22 (IntKind.wrap IntKind.i64 (n24 + 1)) w27 ∧
                                                             I23 (IntKind.wrap IntKind.i64 (n24 + 1)) w27 < I23 n24 w25))))) ∧
                                                       ((n29 == n21) = false →
                                                         (I22 (IntKind.wrap IntKind.i64 (n24 + 1)) w27 ∧
                                                          I23 (IntKind.wrap IntKind.i64 (n24 + 1)) w27 < I23 n24 w25))))))))))))) ∧
                                        (decide (n21 > 0) = false →
                                          (I14 (IntKind.wrap IntKind.i64 (n16 + 1)) w25 ∧
                                           I15 (IntKind.wrap IntKind.i64 (n16 + 1)) w25 < I15 n16 w17))))) ∧
                                     (decide (n24 < n16) = false →
                                       (I14 (IntKind.wrap IntKind.i64 (n16 + 1)) w25 ∧
                                        I15 (IntKind.wrap IntKind.i64 (n16 + 1)) w25 < I15 n16 w17)))))))))))))))) ∧
                  (decide (n16 < (↑l13.2 : Int)) = false →
                    Calls Try.prog (24 : Nat) (Array.mk []) (w17) (fun e30 w31 =>
                      ∃ b32 : Bool, (e30 = Ending.returned (Value.bool b32) ∧
                       R (Value.bool b32) w31))))))))))))))
theorem vc_cartularylaw04_HuffApart_ok {x0a : Option Addr} {x0n : Nat} {x0c : Nat} {w : World} {R : Value → World → Prop} {R' : Ending → World → Prop} (h : vc_cartularylaw04_HuffApart x0a x0n x0c w R) (hR : ∀ v w', R v w' → R' (.returned v) w') :
    Calls Try.prog 5 #[.slice x0a x0n x0c] w R' :=
  calls_of_body (vs := [(.slice x0a x0n x0c, false)]) (ty := ty) (ann := ⟨[], [(6, [(6, .int .i64)]), (12, [(9, .int .i64)])], []⟩) (c := Try.f5.body.getD .skip) (by kernel_rfl) Try.func5 (by kernel_rfl) (by kernel_rfl) (Eq.mp (by kernel_rfl) h) hR
/-- cartularylaw04.HuffReads -/
def vc_cartularylaw04_HuffReads (x0a : Option Addr) (x0n : Nat) (x0c : Nat) (x1 : ByteArray) (w : World) (R : Value → World → Prop) : Prop :=
  Calls Try.prog (29 : Nat) (Array.mk [Value.string x1, Value.int IntKind.i64 60]) (w) (fun e1 w2 =>
    ∃ s3 : ByteArray, (e1 = Ending.returned (Value.string s3) ∧
     Calls Try.prog (21 : Nat) (Array.mk [Value.slice x0a x0n x0c]) (w2) (fun e4 w5 =>
       ∃ l6 : Sl, (e4 = Ending.returned (Value.slice l6.1 l6.2 l6.3) ∧
        Calls Try.prog (22 : Nat) (Array.mk [Value.slice l6.1 l6.2 l6.3]) (w5) (fun e7 w8 =>
          ∃ p9 : Option Addr, ∃ n10 : Int, (e7 = Ending.returned (Value.tuple (Array.mk [Value.pointer p9, Value.int IntKind.i64 n10])) ∧
           Calls Try.prog (21 : Nat) (Array.mk [Value.slice x0a x0n x0c]) (w8) (fun e11 w12 =>
             ∃ l13 : Sl, (e11 = Ending.returned (Value.slice l13.1 l13.2 l13.3) ∧
              Calls Try.prog (23 : Nat) (Array.mk [Value.slice l13.1 l13.2 l13.3]) (w12) (fun e14 w15 =>
                ∃ n16 : Int, (e14 = Ending.returned (Value.int IntKind.i64 n16) ∧
                 ((((n16 != 0) = true →
                    Calls Try.prog (24 : Nat) (Array.mk []) (w15) (fun e17 w18 =>
                      ∃ b19 : Bool, (e17 = Ending.returned (Value.bool b19) ∧
                       (((b19 = true →
                          R (Value.bool (n10 != 0)) w18)) ∧
                        (b19 = false →
                          R (Value.bool false) w18)))))) ∧
                  ((n16 != 0) = false →
                    Calls Try.prog (15 : Nat) (Array.mk [Value.string s3, Value.int IntKind.i64 0]) (w15) (fun e20 w21 =>
                      ∃ p22 : Option Addr, (e20 = Ending.returned (Value.pointer p22) ∧
                       (((Option.isNone p9 = true →
                          R (Value.bool false) w21)) ∧
                        (Option.isNone p9 = false →
                          (((Option.isNone p22 = true →
                             R (Value.bool false) w21)) ∧
                           (Option.isNone p22 = false →
                             Calls Try.prog (21 : Nat) (Array.mk [Value.slice x0a x0n x0c]) (w21) (fun e23 w24 =>
                               ∃ l25 : Sl, (e23 = Ending.returned (Value.slice l25.1 l25.2 l25.3) ∧
                                Calls Try.prog (25 : Nat) (Array.mk [Value.slice l25.1 l25.2 l25.3]) (w24) (fun e26 w27 =>
                                  ∃ l28 : Sl, (e26 = Ending.returned (Value.slice l28.1 l28.2 l28.3) ∧
                                   Calls Try.prog (30 : Nat) (Array.mk [Value.string s3]) (w27) (fun e29 w30 =>
                                     ∃ l31 : Sl, (e29 = Ending.returned (Value.slice l31.1 l31.2 l31.3) ∧
                                      ∃ I32 : Sl → Int → World → Prop, ∃ I33 : Sl → Int → World → Nat, (I32 (Sl.mk l31.1 l31.2 l31.3) 0 w30 ∧
                                       ∀ l34 : Sl,
                                       ∀ n35 : Int,
                                       ∀ w36 : World,
                                       (I32 l34 n35 w36 →
                                         (((decide (n35 < 500) = true →
                                            Calls Try.prog (42 : Nat) (Array.mk [Value.pointer p9, Value.pointer p22]) (w36) (fun e37 w38 =>
                                              ∃ n39 : Int, ∃ n40 : Int, (e37 = Ending.returned (Value.tuple (Array.mk [Value.int IntKind.i64 n39, Value.int IntKind.i64 n40])) ∧
                                               Calls Try.prog (43 : Nat) (Array.mk [Value.slice l28.1 l28.2 l28.3, Value.slice l34.1 l34.2 l34.3]) (w38) (fun e41 w42 =>
                                                 ∃ n43 : Int, ∃ n44 : Int, ∃ n45 : Int, (e41 = Ending.returned (Value.tuple (Array.mk [Value.int IntKind.i64 n43, Value.int IntKind.i64 n44, Value.int IntKind.i64 n45])) ∧
                                                  ((((n39 != n43) = true →
                                                     R (Value.bool false) w42)) ∧
                                                   ((n39 != n43) = false →
                                                     ((((n40 != n45) = true →
                                                        R (Value.bool false) w42)) ∧
                                                      ((n40 != n45) = false →
                                                        ((((n45 != 0) = true →
                                                           Calls Try.prog (24 : Nat) (Array.mk []) (w42) (fun e46 w47 =>
                                                             ∃ b48 : Bool, (e46 = Ending.returned (Value.bool b48) ∧
                                                              R (Value.bool b48) w47)))) ∧
                                                         ((n45 != 0) = false →
                                                           ((0 ≤ n44 ∧
                                                             n44 ≤ (↑l34.2 : Int)) ∧
                                                            Calls Try.prog (16 : Nat) (Array.mk [Value.pointer p22]) (w42) (fun e49 w50 =>
                                                              ∃ n51 : Int, (e49 = Ending.returned (Value.int IntKind.i64 n51) ∧
                                                               ((((n51 != (↑(l34.2 - Int.toNat n44) : Int)) = true →
                                                                  R (Value.bool false) w50)) ∧
                                                                ((n51 != (↑(l34.2 - Int.toNat n44) : Int)) = false →
                                                                  (I32 (Sl.mk (subA l34.1 l34.3 (Int.toNat n44) 1) (l34.2 - Int.toNat n44) (l34.3 - Int.toNat n44)) (IntKind.wrap IntKind.i64 (n35 + 1)) w50 ∧
                                                                   I33 (Sl.mk (subA l34.1 l34.3 (Int.toNat n44) 1) (l34.2 - Int.toNat n44) (l34.3 - Int.toNat n44)) (IntKind.wrap IntKind.i64 (n35 + 1)) w50 < I33 l34 n35 w36)))))))))))))))))) ∧
                                          (decide (n35 < 500) = false →
                                            Calls Try.prog (24 : Nat) (Array.mk []) (w36) (fun e52 w53 =>
                                              ∃ b54 : Bool, (e52 = Ending.returned (Value.bool b54) ∧
                                               R (Value.bool b54) w53))))))))))))))))))))))))))))))
theorem vc_cartularylaw04_HuffReads_ok {x0a : Option Addr} {x0n : Nat} {x0c : Nat} {x1 : ByteArray} {w : World} {R : Value → World → Prop} {R' : Ending → World → Prop} (h : vc_cartularylaw04_HuffReads x0a x0n x0c x1 w R) (hR : ∀ v w', R v w' → R' (.returned v) w') :
    Calls Try.prog 9 #[.slice x0a x0n x0c, .string x1] w R' :=
  calls_of_body (vs := [(.slice x0a x0n x0c, false), (.string x1, false)]) (ty := ty) (ann := ⟨[], [(11, [(9, .slice), (10, .int .i64)])], []⟩) (c := Try.f9.body.getD .skip) (by kernel_rfl) Try.func9 (by kernel_rfl) (by kernel_rfl) (Eq.mp (by kernel_rfl) h) hR
/-- cartularylaw04.HuffAll -/
def vc_cartularylaw04_HuffAll (x0a : Option Addr) (x0n : Nat) (x0c : Nat) (x1 : ByteArray) (w : World) (R : Value → World → Prop) : Prop :=
  ∃ I1 : ByteArray → World → Prop, ((((decide ((↑(ByteArray.size x1) : Int) > 10) = true →
      (((0 : Int) ≤ (10 : Int) ∧
        10 ≤ (↑(ByteArray.size x1) : Int)) ∧
       I1 (ByteArray.extract x1 0 (Int.toNat 10)) w))) ∧
    (decide ((↑(ByteArray.size x1) : Int) > 10) = false →
      I1 x1 w)) ∧
   ∀ s2 : ByteArray,
   ∀ w3 : World,
   (I1 s2 w3 →
     Calls Try.prog (21 : Nat) (Array.mk [Value.slice x0a x0n x0c]) (w3) (fun e4 w5 =>
       ∃ l6 : Sl, (e4 = Ending.returned (Value.slice l6.1 l6.2 l6.3) ∧
        Calls Try.prog (22 : Nat) (Array.mk [Value.slice l6.1 l6.2 l6.3]) (w5) (fun e7 w8 =>
          ∃ p9 : Option Addr, ∃ n10 : Int, (e7 = Ending.returned (Value.tuple (Array.mk [Value.pointer p9, Value.int IntKind.i64 n10])) ∧
           ((((n10 != 0) = true →
              Calls Try.prog (24 : Nat) (Array.mk []) (w8) (fun e11 w12 =>
                ∃ b13 : Bool, (e11 = Ending.returned (Value.bool b13) ∧
                 (((b13 = true →
                    R (Value.bool (Option.isNone p9)) w12)) ∧
                  (b13 = false →
                    R (Value.bool false) w12)))))) ∧
            ((n10 != 0) = false →
              Calls Try.prog (21 : Nat) (Array.mk [Value.slice x0a x0n x0c]) (w8) (fun e14 w15 =>
                ∃ l16 : Sl, (e14 = Ending.returned (Value.slice l16.1 l16.2 l16.3) ∧
                 ∃ I17 : Int → Int → World → Prop, ∃ I18 : Int → Int → World → Nat, (I17 0 0 w15 ∧
                  ∀ n19 : Int,
                  ∀ n20 : Int,
                  ∀ w21 : World,
                  (I17 n19 n20 w21 →
                    (((decide (n20 < (↑l16.2 : Int)) = true →
                       ((0 ≤ n20 ∧
                         n20 < (↑l16.2 : Int)) ∧
                        ∃ a22 : Addr, (l16.1 = some a22 ∧
                         ∃ n23 : Int, (World.cell? w21 (Addr.add a22 (Int.toNat n20 * 1)) = some (Value.int IntKind.i64 n23) ∧
                          (((decide (n23 > 0) = true →
                             (I17 (IntKind.wrap IntKind.i64 (n19 + 1)) (IntKind.wrap IntKind.i64 (n20 + 1)) w21 ∧
                              I18 (IntKind.wrap IntKind.i64 (n19 + 1)) (IntKind.wrap IntKind.i64 (n20 + 1)) w21 < I18 n19 n20 w21))) ∧
                           (decide (n23 > 0) = false →
                             (I17 n19 (IntKind.wrap IntKind.i64 (n20 + 1)) w21 ∧
                              I18 n19 (IntKind.wrap IntKind.i64 (n20 + 1)) w21 < I18 n19 n20 w21)))))))) ∧
                     (decide (n20 < (↑l16.2 : Int)) = false →
                       Calls Try.prog (15 : Nat) (Array.mk [Value.string s2, Value.int IntKind.i64 0]) (w21) (fun e24 w25 =>
                         ∃ p26 : Option Addr, (e24 = Ending.returned (Value.pointer p26) ∧
                          (((Option.isNone p26 = true →
                             R (Value.bool false) w25)) ∧
                           (Option.isNone p26 = false →
                             ∃ I27 : World → Prop, ∃ I28 : World → Nat, (I27 w25 ∧
                              ∀ w29 : World,
                              (I27 w29 →
                                (((decide (n19 > 1) = true →
                                   Calls Try.prog (16 : Nat) (Array.mk [Value.pointer p26]) (w29) (fun e30 w31 =>
                                     ∃ n32 : Int, (e30 = Ending.returned (Value.int IntKind.i64 n32) ∧
                                      (((decide (n32 ≥ 15) = true →
                                         Calls Try.prog (42 : Nat) (Array.mk [Value.pointer p9, Value.pointer p26]) (w31) (fun e33 w34 =>
                                           ∃ n35 : Int, ∃ n36 : Int, (e33 = Ending.returned (Value.tuple (Array.mk [Value.int IntKind.i64 n35, Value.int IntKind.i64 n36])) ∧
                                            ((((n36 != 0) = true →
                                               R (Value.bool false) w34)) ∧
                                             ((n36 != 0) = false →
                                               (I27 w34 ∧
                                                I28 w34 < I28 w29))))))) ∧
                                       (decide (n32 ≥ 15) = false →
                                         Calls Try.prog (24 : Nat) (Array.mk []) (w31) (fun e37 w38 =>
                                           ∃ b39 : Bool, (e37 = Ending.returned (Value.bool b39) ∧
                                            R (Value.bool b39) w38)))))))) ∧
                                 (decide (n19 > 1) = false →
                                   Calls Try.prog (24 : Nat) (Array.mk []) (w29) (fun e40 w41 =>
                                     ∃ b42 : Bool, (e40 = Ending.returned (Value.bool b42) ∧
                                      R (Value.bool b42) w41))))))))))))))))))))))))
theorem vc_cartularylaw04_HuffAll_ok {x0a : Option Addr} {x0n : Nat} {x0c : Nat} {x1 : ByteArray} {w : World} {R : Value → World → Prop} {R' : Ending → World → Prop} (h : vc_cartularylaw04_HuffAll x0a x0n x0c x1 w R) (hR : ∀ v w', R v w' → R' (.returned v) w') :
    Calls Try.prog 10 #[.slice x0a x0n x0c, .string x1] w R' :=
  calls_of_body (vs := [(.slice x0a x0n x0c, false), (.string x1, false)]) (ty := ty) (ann := ⟨[(3, [(1, .str)])], [(8, [(7, .int .i64), (34, .int .i64)]), (16, [])], []⟩) (c := Try.f10.body.getD .skip) (by kernel_rfl) Try.func10 (by kernel_rfl) (by kernel_rfl) (Eq.mp (by kernel_rfl) h) hR
/-- cartularylaw04.HuffBack -/
def vc_cartularylaw04_HuffBack (x0a : Option Addr) (x0n : Nat) (x0c : Nat) (x1a : Option Addr) (x1n : Nat) (x1c : Nat) (w : World) (R : Value → World → Prop) : Prop :=
  Calls Try.prog (21 : Nat) (Array.mk [Value.slice x0a x0n x0c]) (w) (fun e1 w2 =>
    ∃ l3 : Sl, (e1 = Ending.returned (Value.slice l3.1 l3.2 l3.3) ∧
     Calls Try.prog (22 : Nat) (Array.mk [Value.slice l3.1 l3.2 l3.3]) (w2) (fun e4 w5 =>
       ∃ p6 : Option Addr, ∃ n7 : Int, (e4 = Ending.returned (Value.tuple (Array.mk [Value.pointer p6, Value.int IntKind.i64 n7])) ∧
        ((((n7 != 0) = true →
           Calls Try.prog (24 : Nat) (Array.mk []) (w5) (fun e8 w9 =>
             ∃ b10 : Bool, (e8 = Ending.returned (Value.bool b10) ∧
              R (Value.bool b10) w9)))) ∧
         ((n7 != 0) = false →
           ∀ w11 : World,
           (w11 = World.alloc w5 (Obj.cells (Array.mk [Value.slice none 0 0, Value.int IntKind.u64 0, Value.int IntKind.i64 0]) 60) →
             ∀ w12 : World,
             (w12 = World.alloc w11 (Obj.cells (Array.mk []) 3) →
               ∃ I13 : Sl → World → Prop, ((∃ I14 : Sl → Int → World → Prop, ∃ I15 : Sl → Int → World → Nat, (I14 (Sl.mk (some (Addr.mk (Array.size (World.heap w11)) 0 none)) 0 0) 0 w12 ∧
                 ∀ l16 : Sl,
                 ∀ n17 : Int,
                 ∀ w18 : World,
                 (I14 l16 n17 w18 →
                   (((decide (n17 < (↑x1n : Int)) = true →
                      (((decide (n17 < 200) = true →
                         ((0 ≤ n17 ∧
                           n17 < (↑x1n : Int)) ∧
                          ∃ a19 : Addr, (x1a = some a19 ∧
                           ∃ n20 : Int, (World.cell? w18 (Addr.add a19 (Int.toNat n17 * 1)) = some (Value.int IntKind.i64 n20) ∧
                            Calls Try.prog (26 : Nat) (Array.mk [Value.pointer p6, Value.int IntKind.i64 n20]) (w18) (fun e21 w22 =>
                              ∃ n23 : Int, ∃ n24 : Int, (e21 = Ending.returned (Value.tuple (Array.mk [Value.int IntKind.u32 n23, Value.int IntKind.i64 n24])) ∧
                               (((decide (n24 > 0) = true →
                                  Calls Try.prog (39 : Nat) (Array.mk [Value.pointer (some (Addr.mk (Array.size (World.heap w5)) 0 none)), Value.int IntKind.u32 n23, Value.int IntKind.i64 n24]) (w22) (fun e25 w26 =>
                                    (e25 = Ending.returned (Value.tuple (Array.mk [])) ∧
                                     ((0 ≤ n17 ∧
                                       n17 < (↑x1n : Int)) ∧
                                      ∃ a27 : Addr, (x1a = some a27 ∧
                                       ∃ n28 : Int, (World.cell? w26 (Addr.add a27 (Int.toNat n17 * 1)) = some (Value.int IntKind.i64 n28) ∧
                                        ∀ w29 : World,
                                        (w29 = World.alloc w26 (Obj.cells (Array.mk [Value.int IntKind.i64 n28]) 3) →
                                          ∃ w30 : World, ∃ l31 : Sl, (Sem.run Try.prog (Builtin.append_ (Array.mk [22, 22]) 22 (Array.mk [Value.slice l16.1 l16.2 l16.3, Value.slice (some (Addr.mk (Array.size (World.heap w26)) 0 none)) 1 1])) w29 = Result.ok (Value.slice l31.1 l31.2 l31.3) w30 ∧
                                           (I14 (Sl.mk l31.1 l31.2 l31.3) (IntKind.wrap IntKind.i64 (n17 + 1)) w30 ∧
                                            I15 (Sl.mk l31.1 l31.2 l31.3) (IntKind.wrap IntKind.i64 (n17 + 1)) w30 < I15 l16 n17 w18)))))))))) ∧
                                (decide (n24 > 0) = false →
                                  (I14 (Sl.mk l16.1 l16.2 l16.3) (IntKind.wrap IntKind.i64 (n17 + 1)) w22 ∧
                                   I15 (Sl.mk l16.1 l16.2 l16.3) (IntKind.wrap IntKind.i64 (n17 + 1)) w22 < I15 l16 n17 w18)))))))))) ∧
                       (decide (n17 < 200) = false →
                         I13 (Sl.mk l16.1 l16.2 l16.3) w18)))) ∧
                    (decide (n17 < (↑x1n : Int)) = false →
                      I13 (Sl.mk l16.1 l16.2 l16.3) w18))))) ∧
                ∀ l32 : Sl,
                ∀ w33 : World,
                (I13 l32 w33 →
                  Calls Try.prog (37 : Nat) (Array.mk [Value.pointer (some (Addr.mk (Array.size (World.heap w5)) 0 none))]) (w33) (fun e34 w35 =>
                    ∃ s36 : ByteArray, (e34 = Ending.returned (Value.string s36) ∧
                     Calls Try.prog (15 : Nat) (Array.mk [Value.string s36, Value.int IntKind.i64 0]) (w35) (fun e37 w38 =>
                       ∃ p39 : Option Addr, (e37 = Ending.returned (Value.pointer p39) ∧
                        (((Option.isNone p39 = true →
                           R (Value.bool false) w38)) ∧
                         (Option.isNone p39 = false →
                           ∃ I40 : Int → World → Prop, ∃ I41 : Int → World → Nat, (I40 0 w38 ∧
                            ∀ n42 : Int,
                            ∀ w43 : World,
                            (I40 n42 w43 →
                              (((decide (n42 < (↑l32.2 : Int)) = true →
                                 ((0 ≤ n42 ∧
                                   n42 < (↑l32.2 : Int)) ∧
                                  ∃ a44 : Addr, (l32.1 = some a44 ∧
                                   ∃ n45 : Int, (World.cell? w43 (Addr.add a44 (Int.toNat n42 * 1)) = some (Value.int IntKind.i64 n45) ∧
                                    Calls Try.prog (42 : Nat) (Array.mk [Value.pointer p6, Value.pointer p39]) (w43) (fun e46 w47 =>
                                      ∃ n48 : Int, ∃ n49 : Int, (e46 = Ending.returned (Value.tuple (Array.mk [Value.int IntKind.i64 n48, Value.int IntKind.i64 n49])) ∧
                                       ((((n48 != n45) = true →
                                          R (Value.bool false) w47)) ∧
                                        ((n48 != n45) = false →
                                          ((((n49 != 0) = true →
                                             R (Value.bool false) w47)) ∧
                                           ((n49 != 0) = false →
                                             (I40 (IntKind.wrap IntKind.i64 (n42 + 1)) w47 ∧
                                              I41 (IntKind.wrap IntKind.i64 (n42 + 1)) w47 < I41 n42 w43)))))))))))) ∧
                               (decide (n42 < (↑l32.2 : Int)) = false →
                                 Calls Try.prog (24 : Nat) (Array.mk []) (w43) (fun e50 w51 =>
                                   ∃ b52 : Bool, (e50 = Ending.returned (Value.bool b52) ∧
                                    R (Value.bool b52) w51))))))))))))))))))))))
theorem vc_cartularylaw04_HuffBack_ok {x0a : Option Addr} {x0n : Nat} {x0c : Nat} {x1a : Option Addr} {x1n : Nat} {x1c : Nat} {w : World} {R : Value → World → Prop} {R' : Ending → World → Prop} (h : vc_cartularylaw04_HuffBack x0a x0n x0c x1a x1n x1c w R) (hR : ∀ v w', R v w' → R' (.returned v) w') :
    Calls Try.prog 14 #[.slice x0a x0n x0c, .slice x1a x1n x1c] w R' :=
  calls_of_body (vs := [(.slice x0a x0n x0c, false), (.slice x1a x1n x1c, false)]) (ty := ty) (ann := ⟨[(13, [(8, .slice)])], [(7, [(8, .slice), (9, .int .i64)]), (17, [(64, .int .i64)])], []⟩) (c := Try.f14.body.getD .skip) (by kernel_rfl) Try.func14 (by kernel_rfl) (by kernel_rfl) (Eq.mp (by kernel_rfl) h) hR
end Go.Proofs.Ytcboiljbkkleiaa

/- Formulas of 1 Go functions of this seat (written by a program of the author's, vcgen.py), and that each is enough for the call. No condition. -/
import Derived.Test.YtcboiljbkkleiaaTy
import Derived.Test.YtcboiljbkkleiaaProg
set_option linter.unusedVariables false
namespace Go.Proofs.Ytcboiljbkkleiaa
open Go Vc Go.Proofs
set_option maxRecDepth 100000
/-- cartularylaw03.BitinReads -/
def vc_cartularylaw03_BitinReads (x0 : ByteArray) (x1 : Int) (x2a : Option Addr) (x2n : Nat) (x2c : Nat) (w : World) (R : Value → World → Prop) : Prop :=
  Calls Try.prog (29 : Nat) (Array.mk [Value.string x0, Value.int IntKind.i64 200]) (w) (fun e1 w2 =>
    ∃ s3 : ByteArray, (e1 = Ending.returned (Value.string s3) ∧
     Calls Try.prog (15 : Nat) (Array.mk [Value.string s3, Value.int IntKind.i64 x1]) (w2) (fun e4 w5 =>
       ∃ p6 : Option Addr, (e4 = Ending.returned (Value.pointer p6) ∧
        (((Option.isNone p6 = true →
           R (Value.bool false) w5)) ∧
         (Option.isNone p6 = false →
           (((0 ≤ if (if (↑(ByteArray.size s3) : Int) < x1 then (↑(ByteArray.size s3) : Int) else x1) > 0 then if (↑(ByteArray.size s3) : Int) < x1 then (↑(ByteArray.size s3) : Int) else x1 else 0) ∧
             ((if (if (↑(ByteArray.size s3) : Int) < x1 then (↑(ByteArray.size s3) : Int) else x1) > 0 then if (↑(ByteArray.size s3) : Int) < x1 then (↑(ByteArray.size s3) : Int) else x1 else 0) ≤ (↑(ByteArray.size s3) : Int))) ∧
            Calls Try.prog (30 : Nat) ((Array.mk [Value.string (ByteArray.extract s3 (Int.toNat (if (if (↑(ByteArray.size s3) : Int) < x1 then (↑(ByteArray.size s3) : Int) else x1) > 0 then if (↑(ByteArray.size s3) : Int) < x1 then (↑(ByteArray.size s3) : Int) else x1 else 0)) (ByteArray.size s3))])) (w5) (fun e7 w8 =>
              ∃ l9 : Sl, (e7 = Ending.returned (Value.slice l9.1 l9.2 l9.3) ∧
               ∃ I10 : Int → Int → World → Prop, ∃ I11 : Int → Int → World → Nat, (I10 0 0 w8 ∧
                ∀ n12 : Int,
                ∀ n13 : Int,
                ∀ w14 : World,
                (I10 n12 n13 w14 →
                  (((decide (n13 < (↑x2n : Int)) = true →
                     (((decide (n13 < 100) = true →
                        ((0 ≤ n13 ∧
                          n13 < (↑x2n : Int)) ∧
                         ∃ a15 : Addr, (x2a = some a15 ∧
                          ∃ n16 : Int, ∃ n17 : Int, ∃ n18 : Int, ∃ s19 : ByteArray, (Sem.run Try.prog (loadVar 49 (Addr.add a15 (Int.toNat n13 * 4))) w14 = Result.ok (Value.agg (Array.mk [Value.int IntKind.i64 n16, Value.int IntKind.i64 n17, Value.int IntKind.u32 n18, Value.string s19])) w14 ∧
                           ∀ w20 : World,
                           (w20 = World.alloc w14 (Obj.cells (Array.mk [Value.int IntKind.i64 0, Value.int IntKind.i64 0, Value.int IntKind.u32 0, Value.string (ByteArray.mk (Array.mk []))]) 49) →
                             ∃ w21 : World, (Sem.run Try.prog (storeVar 49 (Addr.mk (Array.size (World.heap w14)) 0 none) (Value.agg (Array.mk [Value.int IntKind.i64 n16, Value.int IntKind.i64 n17, Value.int IntKind.u32 n18, Value.string s19]))) w20 = Result.ok PUnit.unit w21 ∧
                              ∃ I22 : Bool → World → Prop, ((∃ n23 : Int, (World.cell? w21 (Addr.mk (Array.size (World.heap w14)) 1 none) = some (Value.int IntKind.i64 n23) ∧
                                (((decide (n23 ≥ 0) = true →
                                   ∃ n24 : Int, (World.cell? w21 (Addr.mk (Array.size (World.heap w14)) 1 none) = some (Value.int IntKind.i64 n24) ∧
                                    I22 (decide (n24 ≤ 32)) w21))) ∧
                                 (decide (n23 ≥ 0) = false →
                                   I22 false w21)))) ∧
                               ∀ b25 : Bool,
                               ∀ w26 : World,
                               (I22 b25 w26 →
                                 ∃ I27 : Bool → World → Prop, ((((b25 = true →
                                     ∃ n28 : Int, (World.cell? w26 (Addr.mk (Array.size (World.heap w14)) 1 none) = some (Value.int IntKind.i64 n28) ∧
                                      I27 (decide (n28 ≤ IntKind.wrap IntKind.i64 ((↑l9.2 : Int) - n12))) w26))) ∧
                                   (b25 = false →
                                     I27 false w26)) ∧
                                  ∀ b29 : Bool,
                                  ∀ w30 : World,
                                  (I27 b29 w30 →
                                    ∃ I31 : Int → World → Prop, ((∃ n32 : Int, (World.cell? w30 (Addr.mk (Array.size (World.heap w14)) 0 none) = some (Value.int IntKind.i64 n32) ∧
                                      ((((n32 == 0) = true →
                                         ∃ n33 : Int, (World.cell? w30 (Addr.mk (Array.size (World.heap w14)) 1 none) = some (Value.int IntKind.i64 n33) ∧
                                          Calls Try.prog (17 : Nat) (Array.mk [Value.pointer p6, Value.int IntKind.i64 n33]) (w30) (fun e34 w35 =>
                                            ∃ n36 : Int, ∃ n37 : Int, (e34 = Ending.returned (Value.tuple (Array.mk [Value.int IntKind.u32 n36, Value.int IntKind.i64 n37])) ∧
                                             ∃ I38 : Int → World → Prop, ((((b25 = true →
                                                 ∃ n39 : Int, (World.cell? w35 (Addr.mk (Array.size (World.heap w14)) 1 none) = some (Value.int IntKind.i64 n39) ∧
                                                  (I38 (if IntKind.wrap IntKind.i64 ((↑l9.2 : Int) - n12) < n39 then IntKind.wrap IntKind.i64 ((↑l9.2 : Int) - n12) else n39) w35)))) ∧
                                               (b25 = false →
                                                 I38 0 w35)) ∧
                                              ∀ n40 : Int,
                                              ∀ w41 : World,
                                              (I38 n40 w41 →
                                                ((((n37 != n40) = true →
                                                   R (Value.bool false) w41)) ∧
                                                 ((n37 != n40) = false →
                                                   ((0 ≤ n12 ∧
                                                     (n12 ≤ IntKind.wrap IntKind.i64 (n12 + n40) ∧
                                                      IntKind.wrap IntKind.i64 (n12 + n40) ≤ (↑l9.3 : Int))) ∧
                                                    Calls Try.prog (27 : Nat) (Array.mk [Value.slice (subA l9.1 l9.3 (Int.toNat n12) 1) (Int.toNat (IntKind.wrap IntKind.i64 (n12 + n40)) - Int.toNat n12) (l9.3 - Int.toNat n12)]) (w41) (fun e42 w43 =>
                                                      ∃ n44 : Int, (e42 = Ending.returned (Value.int IntKind.u32 n44) ∧
                                                       ((((n36 != n44) = true →
                                                          R (Value.bool false) w43)) ∧
                                                        ((n36 != n44) = false →
                                                          I31 n12 w43)))))))))))))) ∧
                                       ((n32 == 0) = false →
                                         ((((n32 == 1) = true →
                                            ∃ n45 : Int, (World.cell? w30 (Addr.mk (Array.size (World.heap w14)) 1 none) = some (Value.int IntKind.i64 n45) ∧
                                             Calls Try.prog (31 : Nat) (Array.mk [Value.pointer p6, Value.int IntKind.i64 n45]) (w30) (fun e46 w47 =>
                                               ∃ b48 : Bool, (e46 = Ending.returned (Value.bool b48) ∧
                                                ((((!b48 == b29) = true →
                                                   R (Value.bool false) w47)) ∧
                                                 ((!b48 == b29) = false →
                                                   (((b29 = true →
                                                      ∃ n49 : Int, (World.cell? w47 (Addr.mk (Array.size (World.heap w14)) 1 none) = some (Value.int IntKind.i64 n49) ∧
                                                       I31 (IntKind.wrap IntKind.i64 (n12 + n49)) w47))) ∧
                                                    (b29 = false →
                                                      I31 n12 w47))))))))) ∧
                                          ((n32 == 1) = false →
                                            ((((n32 == 2) = true →
                                               ∃ n50 : Int, (World.cell? w30 (Addr.mk (Array.size (World.heap w14)) 1 none) = some (Value.int IntKind.i64 n50) ∧
                                                Calls Try.prog (18 : Nat) (Array.mk [Value.pointer p6, Value.int IntKind.i64 n50]) (w30) (fun e51 w52 =>
                                                  ∃ n53 : Int, ∃ b54 : Bool, (e51 = Ending.returned (Value.tuple (Array.mk [Value.int IntKind.u32 n53, Value.bool b54])) ∧
                                                   ((((!b54 == b29) = true →
                                                      R (Value.bool false) w52)) ∧
                                                    ((!b54 == b29) = false →
                                                      ((((!b54) = true →
                                                         ((((n53 != 0) = true →
                                                            R (Value.bool false) w52)) ∧
                                                          ((n53 != 0) = false →
                                                            (((b54 = true →
                                                               ∃ n55 : Int, (World.cell? w52 (Addr.mk (Array.size (World.heap w14)) 1 none) = some (Value.int IntKind.i64 n55) ∧
                                                                ((0 ≤ n12 ∧
                                                                  (n12 ≤ IntKind.wrap IntKind.i64 (n12 + n55) ∧
                                                                   IntKind.wrap IntKind.i64 (n12 + n55) ≤ (↑l9.3 : Int))) ∧
                                                                 Calls Try.prog (27 : Nat) (Array.mk [Value.slice (subA l9.1 l9.3 (Int.toNat n12) 1) (Int.toNat (IntKind.wrap IntKind.i64 (n12 + n55)) - Int.toNat n12) (l9.3 - Int.toNat n12)]) (w52) (fun e56 w57 =>
                                                                   ∃ n58 : Int, (e56 = Ending.returned (Value.int IntKind.u32 n58) ∧
                                                                    ((((n53 != n58) = true →
                                                                       R (Value.bool false) w57)) ∧
                                                                     ((n53 != n58) = false →
                                                                       (((b29 = true →
                                                                          ∃ n59 : Int, (World.cell? w57 (Addr.mk (Array.size (World.heap w14)) 1 none) = some (Value.int IntKind.i64 n59) ∧
                                                                           I31 (IntKind.wrap IntKind.i64 (n12 + n59)) w57))) ∧
                                                                        (b29 = false →
                                                                          I31 n12 w57)))))))))) ∧
                                                             (b54 = false →
                                                               (((b29 = true →
                                                                  ∃ n60 : Int, (World.cell? w52 (Addr.mk (Array.size (World.heap w14)) 1 none) = some (Value.int IntKind.i64 n60) ∧
                                                                   I31 (IntKind.wrap IntKind.i64 (n12 + n60)) w52))) ∧
                                                                (b29 = false →
                                                                  I31 n12 w52)))))))) ∧
                                                       ((!b54) = false →
                                                         (((b54 = true →
                                                            ∃ n61 : Int, (World.cell? w52 (Addr.mk (Array.size (World.heap w14)) 1 none) = some (Value.int IntKind.i64 n61) ∧
                                                             ((0 ≤ n12 ∧
                                                               (n12 ≤ IntKind.wrap IntKind.i64 (n12 + n61) ∧
                                                                IntKind.wrap IntKind.i64 (n12 + n61) ≤ (↑l9.3 : Int))) ∧
                                                              Calls Try.prog (27 : Nat) (Array.mk [Value.slice (subA l9.1 l9.3 (Int.toNat n12) 1) (Int.toNat (IntKind.wrap IntKind.i64 (n12 + n61)) - Int.toNat n12) (l9.3 - Int.toNat n12)]) (w52) (fun e62 w63 =>
                                                                ∃ n64 : Int, (e62 = Ending.returned (Value.int IntKind.u32 n64) ∧
                                                                 ((((n53 != n64) = true →
                                                                    R (Value.bool false) w63)) ∧
                                                                  ((n53 != n64) = false →
                                                                    (((b29 = true →
                                                                       ∃ n65 : Int, (World.cell? w63 (Addr.mk (Array.size (World.heap w14)) 1 none) = some (Value.int IntKind.i64 n65) ∧
                                                                        I31 (IntKind.wrap IntKind.i64 (n12 + n65)) w63))) ∧
                                                                     (b29 = false →
                                                                       I31 n12 w63)))))))))) ∧
                                                          (b54 = false →
                                                            (((b29 = true →
                                                               ∃ n66 : Int, (World.cell? w52 (Addr.mk (Array.size (World.heap w14)) 1 none) = some (Value.int IntKind.i64 n66) ∧
                                                                I31 (IntKind.wrap IntKind.i64 (n12 + n66)) w52))) ∧
                                                             (b29 = false →
                                                               I31 n12 w52))))))))))))) ∧
                                             ((n32 == 2) = false →
                                               ((((n32 == 3) = true →
                                                  Calls Try.prog (32 : Nat) (Array.mk [Value.pointer p6]) (w30) (fun e67 w68 =>
                                                    (e67 = Ending.returned (Value.tuple (Array.mk [])) ∧
                                                     Calls Try.prog (33 : Nat) (Array.mk [Value.int IntKind.i64 n12]) (w68) (fun e69 w70 =>
                                                       ∃ n71 : Int, (e69 = Ending.returned (Value.int IntKind.i64 n71) ∧
                                                        I31 n71 w70)))))) ∧
                                                ((n32 == 3) = false →
                                                  ((((n32 == 4) = true →
                                                     ∃ n72 : Int, (World.cell? w30 (Addr.mk (Array.size (World.heap w14)) 1 none) = some (Value.int IntKind.i64 n72) ∧
                                                      Calls Try.prog (34 : Nat) (Array.mk [Value.pointer p6, Value.int IntKind.i64 n72]) (w30) (fun e73 w74 =>
                                                        ∃ s75 : ByteArray, ∃ b76 : Bool, (e73 = Ending.returned (Value.tuple (Array.mk [Value.string s75, Value.bool b76])) ∧
                                                         Calls Try.prog (33 : Nat) (Array.mk [Value.int IntKind.i64 n12]) (w74) (fun e77 w78 =>
                                                           ∃ n79 : Int, (e77 = Ending.returned (Value.int IntKind.i64 n79) ∧
                                                            ((8 : Int) ≠ (0 : Int) ∧
                                                             ∃ I80 : World → Prop, ((∃ n81 : Int, (World.cell? w78 (Addr.mk (Array.size (World.heap w14)) 1 none) = some (Value.int IntKind.i64 n81) ∧
                                                               (((decide (n81 ≥ 0) = true →
                                                                  ∃ n82 : Int, (World.cell? w78 (Addr.mk (Array.size (World.heap w14)) 1 none) = some (Value.int IntKind.i64 n82) ∧
                                                                   ((((!b76 == decide (n82 ≤ IntKind.wrap IntKind.i64 (Int.tdiv (IntKind.wrap IntKind.i64 ((↑l9.2 : Int) - n79)) 8))) = true →
                                                                      R (Value.bool false) w78)) ∧
                                                                    ((!b76 == decide (n82 ≤ IntKind.wrap IntKind.i64 (Int.tdiv (IntKind.wrap IntKind.i64 ((↑l9.2 : Int) - n79)) 8))) = false →
                                                                      ((((!b76) = true →
                                                                         ((((!ByteArray.toList s75 == ByteArray.toList (ByteArray.mk (Array.mk []))) = true →
                                                                            R (Value.bool false) w78)) ∧
                                                                          ((!ByteArray.toList s75 == ByteArray.toList (ByteArray.mk (Array.mk []))) = false →
                                                                            I80 w78)))) ∧
                                                                       ((!b76) = false →
                                                                         I80 w78))))))) ∧
                                                                (decide (n81 ≥ 0) = false →
                                                                  ((((!b76 == false) = true →
                                                                     R (Value.bool false) w78)) ∧
                                                                   ((!b76 == false) = false →
                                                                     ((((!b76) = true →
                                                                        ((((!ByteArray.toList s75 == ByteArray.toList (ByteArray.mk (Array.mk []))) = true →
                                                                           R (Value.bool false) w78)) ∧
                                                                         ((!ByteArray.toList s75 == ByteArray.toList (ByteArray.mk (Array.mk []))) = false →
                                                                           I80 w78)))) ∧
                                                                      ((!b76) = false →
                                                                        I80 w78)))))))) ∧
                                                              ∀ w83 : World,
                                                              (I80 w83 →
                                                                (((b76 = true →
                                                                   ∃ n84 : Int, (World.cell? w83 (Addr.mk (Array.size (World.heap w14)) 1 none) = some (Value.int IntKind.i64 n84) ∧
                                                                    ((0 ≤ n79 ∧
                                                                      (n79 ≤ IntKind.wrap IntKind.i64 (n79 + IntKind.wrap IntKind.i64 (8 * n84)) ∧
                                                                       IntKind.wrap IntKind.i64 (n79 + IntKind.wrap IntKind.i64 (8 * n84)) ≤ (↑l9.3 : Int))) ∧
                                                                     Calls Try.prog (35 : Nat) (Array.mk [Value.slice (subA l9.1 l9.3 (Int.toNat n79) 1) (Int.toNat (IntKind.wrap IntKind.i64 (n79 + IntKind.wrap IntKind.i64 (8 * n84))) - Int.toNat n79) (l9.3 - Int.toNat n79)]) (w83) (fun e85 w86 =>
                                                                       ∃ s87 : ByteArray, (e85 = Ending.returned (Value.string s87) ∧
                                                                        ((((!ByteArray.toList s75 == ByteArray.toList s87) = true →
                                                                           R (Value.bool false) w86)) ∧
                                                                         ((!ByteArray.toList s75 == ByteArray.toList s87) = false →
                                                                           ∃ n88 : Int, (World.cell? w86 (Addr.mk (Array.size (World.heap w14)) 1 none) = some (Value.int IntKind.i64 n88) ∧
                                                                            I31 (IntKind.wrap IntKind.i64 (n79 + IntKind.wrap IntKind.i64 (8 * n88))) w86))))))))) ∧
                                                                 (b76 = false →
                                                                   I31 n79 w83)))))))))))) ∧
                                                   ((n32 == 4) = false →
                                                     I31 n12 w30)))))))))))) ∧
                                     ∀ n89 : Int,
                                     ∀ w90 : World,
                                     (I31 n89 w90 →
                                       Calls Try.prog (16 : Nat) (Array.mk [Value.pointer p6]) (w90) (fun e91 w92 =>
                                         ∃ n93 : Int, (e91 = Ending.returned (Value.int IntKind.i64 n93) ∧
                                          ((((n93 != IntKind.wrap IntKind.i64 ((↑l9.2 : Int) - n89)) = true →
                                             R (Value.bool false) w92)) ∧
                                           ((n93 != IntKind.wrap IntKind.i64 ((↑l9.2 : Int) - n89)) = false →
                                             Calls Try.prog (20 : Nat) (Array.mk [Value.pointer p6]) (w92) (fun e94 w95 =>
                                               ∃ n96 : Int, (e94 = Ending.returned (Value.int IntKind.i64 n96) ∧
                                                Calls Try.prog (33 : Nat) (Array.mk [Value.int IntKind.i64 n89]) (w95) (fun e97 w98 =>
                                                  ∃ n99 : Int, (e97 = Ending.returned (Value.int IntKind.i64 n99) ∧
                                                   ((8 : Int) ≠ (0 : Int) ∧
                                                    ((((n96 != IntKind.wrap IntKind.i64 (Int.tdiv n99 8)) = true →
                                                       R (Value.bool false) w98)) ∧
                                                     ((n96 != IntKind.wrap IntKind.i64 (Int.tdiv n99 8)) = false →
                                                       (I10 n89 (IntKind.wrap IntKind.i64 (n13 + 1)) w98 ∧
                                                        I11 n89 (IntKind.wrap IntKind.i64 (n13 + 1)) w98 < I11 n12 n13 w14))))))))))))))))))))))))) ∧
                      (decide (n13 < 100) = false →
                        Calls Try.prog (19 : Nat) (Array.mk []) (w14) (fun e100 w101 =>
                          ∃ b102 : Bool, (e100 = Ending.returned (Value.bool b102) ∧
                           R (Value.bool b102) w101)))))) ∧
                   (decide (n13 < (↑x2n : Int)) = false →
                     Calls Try.prog (19 : Nat) (Array.mk []) (w14) (fun e103 w104 =>
                       ∃ b105 : Bool, (e103 = Ending.returned (Value.bool b105) ∧
                        R (Value.bool b105) w104)))))))))))))))
theorem vc_cartularylaw03_BitinReads_ok {x0 : ByteArray} {x1 : Int} {x2a : Option Addr} {x2n : Nat} {x2c : Nat} {w : World} {R : Value → World → Prop} {R' : Ending → World → Prop} (h : vc_cartularylaw03_BitinReads x0 x1 x2a x2n x2c w R) (hR : ∀ v w', R v w' → R' (.returned v) w') :
    Calls Try.prog 6 #[.string x0, .int .i64 x1, .slice x2a x2n x2c] w R' :=
  calls_of_body (vs := [(.string x0, false), (.int .i64 x1, false), (.slice x2a x2n x2c, false)]) (ty := ty) (ann := ⟨[(13, [(12, .bool)]), (14, [(13, .bool)]), (20, [(16, .int .i64)]), (42, []), (46, [(9, .int .i64)])], [(9, [(9, .int .i64), (10, .int .i64)])], []⟩) (c := Try.f6.body.getD .skip) (by kernel_rfl) Try.func6 (by kernel_rfl) (by kernel_rfl) (Eq.mp (by kernel_rfl) h) hR
end Go.Proofs.Ytcboiljbkkleiaa

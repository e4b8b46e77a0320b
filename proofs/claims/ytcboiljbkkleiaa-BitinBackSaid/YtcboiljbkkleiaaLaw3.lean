/- Formulas of 4 Go functions of this seat (written by a program of the author's, vcgen.py), and that each is enough for the call. No condition. -/
import Derived.Test.YtcboiljbkkleiaaTy
import Derived.Test.YtcboiljbkkleiaaProg
set_option linter.unusedVariables false
namespace Go.Proofs.Ytcboiljbkkleiaa
open Go Vc Go.Proofs
set_option maxRecDepth 100000
/-- cartularylaw03.awake -/
def vc_cartularylaw03_awake (w : World) (R : Value → World → Prop) : Prop :=
  Calls Try.prog (15 : Nat) (Array.mk [Value.string (ByteArray.mk (Array.mk [(165 : UInt8), (15 : UInt8)])), Value.int IntKind.i64 (0 : Int)]) (w) (fun e1 w2 =>
    ∃ p3 : Option Addr, (e1 = Ending.returned (Value.pointer p3) ∧
     (((Option.isNone p3 = true →
        R (Value.bool false) w2)) ∧
      (Option.isNone p3 = false →
        Calls Try.prog (18 : Nat) (Array.mk [Value.pointer p3, Value.int IntKind.i64 4]) (w2) (fun e4 w5 =>
          ∃ n6 : Int, ∃ b7 : Bool, (e4 = Ending.returned (Value.tuple (Array.mk [Value.int IntKind.u32 n6, Value.bool b7])) ∧
           Calls Try.prog (18 : Nat) (Array.mk [Value.pointer p3, Value.int IntKind.i64 8]) (w5) (fun e8 w9 =>
             ∃ n10 : Int, ∃ b11 : Bool, (e8 = Ending.returned (Value.tuple (Array.mk [Value.int IntKind.u32 n10, Value.bool b11])) ∧
              (((b7 = true →
                 (((b11 = true →
                    ((((n6 == 5) = true →
                       ((((n10 == 250) = true →
                          Calls Try.prog (16 : Nat) (Array.mk [Value.pointer p3]) (w9) (fun e12 w13 =>
                            ∃ n14 : Int, (e12 = Ending.returned (Value.int IntKind.i64 n14) ∧
                             R (Value.bool (n14 == 4)) w13)))) ∧
                        ((n10 == 250) = false →
                          R (Value.bool false) w9)))) ∧
                     ((n6 == 5) = false →
                       R (Value.bool false) w9)))) ∧
                  (b11 = false →
                    R (Value.bool false) w9)))) ∧
               (b7 = false →
                 R (Value.bool false) w9))))))))))
theorem vc_cartularylaw03_awake_ok {w : World} {R : Value → World → Prop} {R' : Ending → World → Prop} (h : vc_cartularylaw03_awake w R) (hR : ∀ v w', R v w' → R' (.returned v) w') :
    Calls Try.prog 19 #[] w R' :=
  calls_of_body (vs := []) (ty := ty) (ann := ⟨[], [], []⟩) (c := Try.f19.body.getD .skip) (by kernel_rfl) Try.func19 (by kernel_rfl) (by kernel_rfl) (Eq.mp (by kernel_rfl) h) hR
/-- cartularylaw03.BitinPeeks -/
def vc_cartularylaw03_BitinPeeks (x0 : ByteArray) (x1a : Option Addr) (x1n : Nat) (x1c : Nat) (w : World) (R : Value → World → Prop) : Prop :=
  ∃ I1 : ByteArray → World → Prop, ((((decide ((↑(ByteArray.size x0) : Int) > 200) = true →
      (((0 : Int) ≤ (200 : Int) ∧
        200 ≤ (↑(ByteArray.size x0) : Int)) ∧
       I1 (ByteArray.extract x0 0 (Int.toNat 200)) w))) ∧
    (decide ((↑(ByteArray.size x0) : Int) > 200) = false →
      I1 x0 w)) ∧
   ∀ s2 : ByteArray,
   ∀ w3 : World,
   (I1 s2 w3 →
     Calls Try.prog (15 : Nat) (Array.mk [Value.string s2, Value.int IntKind.i64 0]) (w3) (fun e4 w5 =>
       ∃ p6 : Option Addr, (e4 = Ending.returned (Value.pointer p6) ∧
        (((Option.isNone p6 = true →
           R (Value.bool false) w5)) ∧
         (Option.isNone p6 = false →
           ∃ I7 : Int → World → Prop, ∃ I8 : Int → World → Nat, (I7 0 w5 ∧
            ∀ n9 : Int,
            ∀ w10 : World,
            (I7 n9 w10 →
              (((decide (n9 < (↑x1n : Int)) = true →
                 (((decide (n9 < 60) = true →
                    ((0 ≤ n9 ∧
                      n9 < (↑x1n : Int)) ∧
                     ∃ a11 : Addr, (x1a = some a11 ∧
                      ∃ n12 : Int, (World.cell? w10 (Addr.add a11 (Int.toNat n9 * 1)) = some (Value.int IntKind.i64 n12) ∧
                       Calls Try.prog (16 : Nat) (Array.mk [Value.pointer p6]) (w10) (fun e13 w14 =>
                         ∃ n15 : Int, (e13 = Ending.returned (Value.int IntKind.i64 n15) ∧
                          Calls Try.prog (17 : Nat) (Array.mk [Value.pointer p6, Value.int IntKind.i64 (if (if 32 < n12 then 32 else n12) > 0 then if 32 < n12 then 32 else n12 else 0)]) (w14) (fun e16 w17 =>
                            ∃ n18 : Int, ∃ n19 : Int, (e16 = Ending.returned (Value.tuple (Array.mk [Value.int IntKind.u32 n18, Value.int IntKind.i64 n19])) ∧
                             Calls Try.prog (17 : Nat) (Array.mk [Value.pointer p6, Value.int IntKind.i64 (if (if 32 < n12 then 32 else n12) > 0 then if 32 < n12 then 32 else n12 else 0)]) (w17) (fun e20 w21 =>
                               ∃ n22 : Int, ∃ n23 : Int, (e20 = Ending.returned (Value.tuple (Array.mk [Value.int IntKind.u32 n22, Value.int IntKind.i64 n23])) ∧
                                ((((n18 != n22) = true →
                                   R (Value.bool false) w21)) ∧
                                 ((n18 != n22) = false →
                                   ((((n19 != n23) = true →
                                      R (Value.bool false) w21)) ∧
                                    ((n19 != n23) = false →
                                      ((((n19 != if n15 < if (if 32 < n12 then 32 else n12) > 0 then if 32 < n12 then 32 else n12 else 0 then n15 else if (if 32 < n12 then 32 else n12) > 0 then if 32 < n12 then 32 else n12 else 0) = true →
                                         R (Value.bool false) w21)) ∧
                                       ((n19 != if n15 < if (if 32 < n12 then 32 else n12) > 0 then if 32 < n12 then 32 else n12 else 0 then n15 else if (if 32 < n12 then 32 else n12) > 0 then if 32 < n12 then 32 else n12 else 0) = false →
                                         Calls Try.prog (16 : Nat) (Array.mk [Value.pointer p6]) (w21) (fun e24 w25 =>
                                           ∃ n26 : Int, (e24 = Ending.returned (Value.int IntKind.i64 n26) ∧
                                            ((((n26 != n15) = true →
                                               R (Value.bool false) w25)) ∧
                                             ((n26 != n15) = false →
                                               Calls Try.prog (18 : Nat) (Array.mk [Value.pointer p6, Value.int IntKind.i64 (if (if 32 < n12 then 32 else n12) > 0 then if 32 < n12 then 32 else n12 else 0)]) (w25) (fun e27 w28 =>
                                                 ∃ n29 : Int, ∃ b30 : Bool, (e27 = Ending.returned (Value.tuple (Array.mk [Value.int IntKind.u32 n29, Value.bool b30])) ∧
                                                  ((((!b30 == decide ((if (if 32 < n12 then 32 else n12) > 0 then if 32 < n12 then 32 else n12 else 0) ≤ n15)) = true →
                                                     R (Value.bool false) w28)) ∧
                                                   ((!b30 == decide ((if (if 32 < n12 then 32 else n12) > 0 then if 32 < n12 then 32 else n12 else 0) ≤ n15)) = false →
                                                     (((b30 = true →
                                                        ((((n29 != n18) = true →
                                                           R (Value.bool false) w28)) ∧
                                                         ((n29 != n18) = false →
                                                           ((((!b30) = true →
                                                              ((((n29 != 0) = true →
                                                                 R (Value.bool false) w28)) ∧
                                                               ((n29 != 0) = false →
                                                                 Calls Try.prog (16 : Nat) (Array.mk [Value.pointer p6]) (w28) (fun e31 w32 =>
                                                                   ∃ n33 : Int, (e31 = Ending.returned (Value.int IntKind.i64 n33) ∧
                                                                    ((((n33 != n15) = true →
                                                                       R (Value.bool false) w32)) ∧
                                                                     ((n33 != n15) = false →
                                                                       (I7 (IntKind.wrap IntKind.i64 (n9 + 1)) w32 ∧
                                                                        I8 (IntKind.wrap IntKind.i64 (n9 + 1)) w32 < I8 n9 w10))))))))) ∧
                                                            ((!b30) = false →
                                                              (I7 (IntKind.wrap IntKind.i64 (n9 + 1)) w28 ∧
                                                               I8 (IntKind.wrap IntKind.i64 (n9 + 1)) w28 < I8 n9 w10))))))) ∧
                                                      (b30 = false →
                                                        ((((!b30) = true →
                                                           ((((n29 != 0) = true →
                                                              R (Value.bool false) w28)) ∧
                                                            ((n29 != 0) = false →
                                                              Calls Try.prog (16 : Nat) (Array.mk [Value.pointer p6]) (w28) (fun e34 w35 =>
                                                                ∃ n36 : Int, (e34 = Ending.returned (Value.int IntKind.i64 n36) ∧
                                                                 ((((n36 != n15) = true →
                                                                    R (Value.bool false) w35)) ∧
                                                                  ((n36 != n15) = false →
                                                                    (I7 (IntKind.wrap IntKind.i64 (n9 + 1)) w35 ∧
                                                                     I8 (IntKind.wrap IntKind.i64 (n9 + 1)) w35 < I8 n9 w10))))))))) ∧
                                                         ((!b30) = false →
                                                           (I7 (IntKind.wrap IntKind.i64 (n9 + 1)) w28 ∧
                                                            I8 (IntKind.wrap IntKind.i64 (n9 + 1)) w28 < I8 n9 w10)))))))))))))))))))))))))))))) ∧
                  (decide (n9 < 60) = false →
                    Calls Try.prog (19 : Nat) (Array.mk []) (w10) (fun e37 w38 =>
                      ∃ b39 : Bool, (e37 = Ending.returned (Value.bool b39) ∧
                       (((b39 = true →
                          Calls Try.prog (20 : Nat) (Array.mk [Value.pointer p6]) (w38) (fun e40 w41 =>
                            ∃ n42 : Int, (e40 = Ending.returned (Value.int IntKind.i64 n42) ∧
                             R (Value.bool (decide (n42 ≤ (↑(ByteArray.size s2) : Int)))) w41)))) ∧
                        (b39 = false →
                          R (Value.bool false) w38)))))))) ∧
               (decide (n9 < (↑x1n : Int)) = false →
                 Calls Try.prog (19 : Nat) (Array.mk []) (w10) (fun e43 w44 =>
                   ∃ b45 : Bool, (e43 = Ending.returned (Value.bool b45) ∧
                    (((b45 = true →
                       Calls Try.prog (20 : Nat) (Array.mk [Value.pointer p6]) (w44) (fun e46 w47 =>
                         ∃ n48 : Int, (e46 = Ending.returned (Value.int IntKind.i64 n48) ∧
                          R (Value.bool (decide (n48 ≤ (↑(ByteArray.size s2) : Int)))) w47)))) ∧
                     (b45 = false →
                       R (Value.bool false) w44))))))))))))))
theorem vc_cartularylaw03_BitinPeeks_ok {x0 : ByteArray} {x1a : Option Addr} {x1n : Nat} {x1c : Nat} {w : World} {R : Value → World → Prop} {R' : Ending → World → Prop} (h : vc_cartularylaw03_BitinPeeks x0 x1a x1n x1c w R) (hR : ∀ v w', R v w' → R' (.returned v) w') :
    Calls Try.prog 3 #[.string x0, .slice x1a x1n x1c] w R' :=
  calls_of_body (vs := [(.string x0, false), (.slice x1a x1n x1c, false)]) (ty := ty) (ann := ⟨[(3, [(0, .str)])], [(7, [(6, .int .i64)])], []⟩) (c := Try.f3.body.getD .skip) (by kernel_rfl) Try.func3 (by kernel_rfl) (by kernel_rfl) (Eq.mp (by kernel_rfl) h) hR
/-- cartularylaw03.BitinBack -/
def vc_cartularylaw03_BitinBack (x0a : Option Addr) (x0n : Nat) (x0c : Nat) (x1a : Option Addr) (x1n : Nat) (x1c : Nat) (w : World) (R : Value → World → Prop) : Prop :=
  ∀ w1 : World,
  (w1 = World.alloc w (Obj.cells (Array.mk [Value.slice none 0 0, Value.int IntKind.u64 0, Value.int IntKind.i64 0]) 60) →
    ∃ I2 : Int → World → Prop, ∃ I3 : Int → World → Nat, (I2 0 w1 ∧
     ∀ n4 : Int,
     ∀ w5 : World,
     (I2 n4 w5 →
       (((decide (n4 < if 60 < if (↑x1n : Int) < (↑x0n : Int) then (↑x1n : Int) else (↑x0n : Int) then 60 else if (↑x1n : Int) < (↑x0n : Int) then (↑x1n : Int) else (↑x0n : Int)) = true →
          ∀ w6 : World,
          (Drew w5 w6 →
            ∃ I7 : World → Prop, (I7 w6 ∧
             ((0 ≤ n4 ∧
               n4 < (↑x0n : Int)) ∧
              ∃ a8 : Addr, (x0a = some a8 ∧
               ∃ n9 : Int, ((∀ w10 : World,
                (I7 w10 →
                  World.cell? w10 (Addr.add a8 (Int.toNat n4 * 1)) = some (Value.int IntKind.u32 n9))) ∧
                ((0 ≤ n4 ∧
                  n4 < (↑x1n : Int)) ∧
                 ∃ a11 : Addr, (x1a = some a11 ∧
                  ∃ n12 : Int, ((∀ w13 : World,
                   (I7 w13 →
                     World.cell? w13 (Addr.add a11 (Int.toNat n4 * 1)) = some (Value.int IntKind.i64 n12))) ∧
                   Calls Try.prog (36 : Nat) (Array.mk [Value.pointer (some (Addr.mk (Array.size (World.heap w)) 0 none)), Value.int IntKind.u32 n9, Value.int IntKind.i64 n12]) (w6) (fun e14 w15 =>
                     (e14 = Ending.returned (Value.tuple (Array.mk [])) ∧
                      (I2 (IntKind.wrap IntKind.i64 (n4 + 1)) w15 ∧
                       I3 (IntKind.wrap IntKind.i64 (n4 + 1)) w15 < I3 n4 w5))))))))))))) ∧
        (decide (n4 < if 60 < if (↑x1n : Int) < (↑x0n : Int) then (↑x1n : Int) else (↑x0n : Int) then 60 else if (↑x1n : Int) < (↑x0n : Int) then (↑x1n : Int) else (↑x0n : Int)) = false →
          Calls Try.prog (37 : Nat) (Array.mk [Value.pointer (some (Addr.mk (Array.size (World.heap w)) 0 none))]) (w5) (fun e16 w17 =>
            ∃ s18 : ByteArray, (e16 = Ending.returned (Value.string s18) ∧
             Calls Try.prog (15 : Nat) (Array.mk [Value.string s18, Value.int IntKind.i64 0]) (w17) (fun e19 w20 =>
               ∃ p21 : Option Addr, (e19 = Ending.returned (Value.pointer p21) ∧
                (((Option.isNone p21 = true →
                   R (Value.bool false) w20)) ∧
                 (Option.isNone p21 = false →
                   ∃ I22 : Int → World → Prop, ∃ I23 : Int → World → Nat, (I22 0 w20 ∧
                    ∀ n24 : Int,
                    ∀ w25 : World,
                    (I22 n24 w25 →
                      (((decide (n24 < if 60 < if (↑x1n : Int) < (↑x0n : Int) then (↑x1n : Int) else (↑x0n : Int) then 60 else if (↑x1n : Int) < (↑x0n : Int) then (↑x1n : Int) else (↑x0n : Int)) = true →
                         ((0 ≤ n24 ∧
                           n24 < (↑x1n : Int)) ∧
                          ∃ a26 : Addr, (x1a = some a26 ∧
                           ∃ n27 : Int, (World.cell? w25 (Addr.add a26 (Int.toNat n24 * 1)) = some (Value.int IntKind.i64 n27) ∧
                            (((decide (n27 < 0) = true →
                               (I22 (IntKind.wrap IntKind.i64 (n24 + 1)) w25 ∧
                                I23 (IntKind.wrap IntKind.i64 (n24 + 1)) w25 < I23 n24 w25))) ∧
                             (decide (n27 < 0) = false →
                               ((0 ≤ n24 ∧
                                 n24 < (↑x1n : Int)) ∧
                                ∃ a28 : Addr, (x1a = some a28 ∧
                                 ∃ n29 : Int, (World.cell? w25 (Addr.add a28 (Int.toNat n24 * 1)) = some (Value.int IntKind.i64 n29) ∧
                                  (((decide (n29 > 32) = true →
                                     (I22 (IntKind.wrap IntKind.i64 (n24 + 1)) w25 ∧
                                      I23 (IntKind.wrap IntKind.i64 (n24 + 1)) w25 < I23 n24 w25))) ∧
                                   (decide (n29 > 32) = false →
                                     ((0 ≤ n24 ∧
                                       n24 < (↑x1n : Int)) ∧
                                      ∃ a30 : Addr, (x1a = some a30 ∧
                                       ∃ n31 : Int, (World.cell? w25 (Addr.add a30 (Int.toNat n24 * 1)) = some (Value.int IntKind.i64 n31) ∧
                                        Calls Try.prog (18 : Nat) (Array.mk [Value.pointer p21, Value.int IntKind.i64 n31]) (w25) (fun e32 w33 =>
                                          ∃ n34 : Int, ∃ b35 : Bool, (e32 = Ending.returned (Value.tuple (Array.mk [Value.int IntKind.u32 n34, Value.bool b35])) ∧
                                           ((((!b35) = true →
                                              ∀ w36 : World,
                                              (Drew w33 w36 →
                                                R (Value.bool false) w36))) ∧
                                            ((!b35) = false →
                                              ((0 ≤ n24 ∧
                                                n24 < (↑x0n : Int)) ∧
                                               ∃ a37 : Addr, (x0a = some a37 ∧
                                                ∃ n38 : Int, (World.cell? w33 (Addr.add a37 (Int.toNat n24 * 1)) = some (Value.int IntKind.u32 n38) ∧
                                                 ((0 ≤ n24 ∧
                                                   n24 < (↑x1n : Int)) ∧
                                                  ∃ a39 : Addr, (x1a = some a39 ∧
                                                   ∃ n40 : Int, (World.cell? w33 (Addr.add a39 (Int.toNat n24 * 1)) = some (Value.int IntKind.i64 n40) ∧
                                                    (0 ≤ n40 ∧
                                                     (IntKind.wrap IntKind.u64 (1 * 2 ^ min (Int.toNat n40) 64) ≠ 0 ∧
                                                      ∀ w41 : World,
                                                      (Drew w33 w41 →
                                                        ((((IntKind.wrap IntKind.u64 n34 != Int.tmod (IntKind.wrap IntKind.u64 n38) (IntKind.wrap IntKind.u64 (1 * 2 ^ min (Int.toNat n40) 64))) = true →
                                                           R (Value.bool false) w41)) ∧
                                                         ((IntKind.wrap IntKind.u64 n34 != Int.tmod (IntKind.wrap IntKind.u64 n38) (IntKind.wrap IntKind.u64 (1 * 2 ^ min (Int.toNat n40) 64))) = false →
                                                           (I22 (IntKind.wrap IntKind.i64 (n24 + 1)) w41 ∧
                                                            I23 (IntKind.wrap IntKind.i64 (n24 + 1)) w41 < I23 n24 w25))))))))))))))))))))))))))))))) ∧
                       (decide (n24 < if 60 < if (↑x1n : Int) < (↑x0n : Int) then (↑x1n : Int) else (↑x0n : Int) then 60 else if (↑x1n : Int) < (↑x0n : Int) then (↑x1n : Int) else (↑x0n : Int)) = false →
                         Calls Try.prog (19 : Nat) (Array.mk []) (w25) (fun e42 w43 =>
                           ∃ b44 : Bool, (e42 = Ending.returned (Value.bool b44) ∧
                            (((b44 = true →
                               Calls Try.prog (16 : Nat) (Array.mk [Value.pointer p21]) (w43) (fun e45 w46 =>
                                 ∃ n47 : Int, (e45 = Ending.returned (Value.int IntKind.i64 n47) ∧
                                  R (Value.bool (decide (n47 < 8))) w46)))) ∧
                             (b44 = false →
                               R (Value.bool false) w43)))))))))))))))))))
theorem vc_cartularylaw03_BitinBack_ok {x0a : Option Addr} {x0n : Nat} {x0c : Nat} {x1a : Option Addr} {x1n : Nat} {x1c : Nat} {w : World} {R : Value → World → Prop} {R' : Ending → World → Prop} (h : vc_cartularylaw03_BitinBack x0a x0n x0c x1a x1n x1c w R) (hR : ∀ v w', R v w' → R' (.returned v) w') :
    Calls Try.prog 7 #[.slice x0a x0n x0c, .slice x1a x1n x1c] w R' :=
  calls_of_body (vs := [(.slice x0a x0n x0c, false), (.slice x1a x1n x1c, false)]) (ty := ty) (ann := ⟨[], [(4, [(7, .int .i64)]), (11, [(9, .int .i64)])], [(6, .held [(0, true), (1, true), (2, true), (3, true), (4, true), (5, true), (6, true), (7, true), (8, false)]), (15, .quiet)]⟩) (c := Try.f7.body.getD .skip) (by kernel_rfl) Try.func7 (by kernel_rfl) (by kernel_rfl) (Eq.mp (by kernel_rfl) h) hR
/-- cartularylaw03.BitinWrites -/
def vc_cartularylaw03_BitinWrites (x0a : Option Addr) (x0n : Nat) (x0c : Nat) (w : World) (R : Value → World → Prop) : Prop :=
  ∀ w1 : World,
  (w1 = World.alloc w (Obj.cells (Array.mk [Value.slice none 0 0, Value.int IntKind.u64 0, Value.int IntKind.i64 0]) 60) →
    ∀ w2 : World,
    (w2 = World.alloc w1 (Obj.cells (Array.mk []) 4) →
      ∃ I3 : Sl → Int → World → Prop, ∃ I4 : Sl → Int → World → Nat, (I3 (Sl.mk (some (Addr.mk (Array.size (World.heap w1)) 0 none)) 0 0) 0 w2 ∧
       ∀ l5 : Sl,
       ∀ n6 : Int,
       ∀ w7 : World,
       (I3 l5 n6 w7 →
         (((decide (n6 < (↑x0n : Int)) = true →
            (((decide (n6 < 100) = true →
               ((0 ≤ n6 ∧
                 n6 < (↑x0n : Int)) ∧
                ∃ a8 : Addr, (x0a = some a8 ∧
                 ∃ n9 : Int, ∃ n10 : Int, ∃ n11 : Int, ∃ s12 : ByteArray, (Sem.run Try.prog (loadVar 49 (Addr.add a8 (Int.toNat n6 * 4))) w7 = Result.ok (Value.agg (Array.mk [Value.int IntKind.i64 n9, Value.int IntKind.i64 n10, Value.int IntKind.u32 n11, Value.string s12])) w7 ∧
                  ∀ w13 : World,
                  (w13 = World.alloc w7 (Obj.cells (Array.mk [Value.int IntKind.i64 0, Value.int IntKind.i64 0, Value.int IntKind.u32 0, Value.string (ByteArray.mk (Array.mk []))]) 49) →
                    ∃ w14 : World, (Sem.run Try.prog (storeVar 49 (Addr.mk (Array.size (World.heap w7)) 0 none) (Value.agg (Array.mk [Value.int IntKind.i64 n9, Value.int IntKind.i64 n10, Value.int IntKind.u32 n11, Value.string s12]))) w13 = Result.ok PUnit.unit w14 ∧
                     ∃ n15 : Int, (World.cell? w14 (Addr.mk (Array.size (World.heap w7)) 0 none) = some (Value.int IntKind.i64 n15) ∧
                      ((((n15 == 0) = true →
                         ∃ n16 : Int, (World.cell? w14 (Addr.mk (Array.size (World.heap w7)) 2 none) = some (Value.int IntKind.u32 n16) ∧
                          ∃ n17 : Int, (World.cell? w14 (Addr.mk (Array.size (World.heap w7)) 1 none) = some (Value.int IntKind.i64 n17) ∧
                           Calls Try.prog (36 : Nat) (Array.mk [Value.pointer (some (Addr.mk (Array.size (World.heap w)) 0 none)), Value.int IntKind.u32 n16, Value.int IntKind.i64 n17]) (w14) (fun e18 w19 =>
                             (e18 = Ending.returned (Value.tuple (Array.mk [])) ∧
                              ∃ n20 : Int, (World.cell? w19 (Addr.mk (Array.size (World.heap w7)) 1 none) = some (Value.int IntKind.i64 n20) ∧
                               (((decide (n20 ≥ 0) = true →
                                  ∃ n21 : Int, (World.cell? w19 (Addr.mk (Array.size (World.heap w7)) 1 none) = some (Value.int IntKind.i64 n21) ∧
                                   (((decide (n21 ≤ 32) = true →
                                      ∃ n22 : Int, (World.cell? w19 (Addr.mk (Array.size (World.heap w7)) 2 none) = some (Value.int IntKind.u32 n22) ∧
                                       ∃ n23 : Int, (World.cell? w19 (Addr.mk (Array.size (World.heap w7)) 1 none) = some (Value.int IntKind.i64 n23) ∧
                                        Calls Try.prog (38 : Nat) (Array.mk [Value.int IntKind.u32 n22, Value.int IntKind.i64 n23]) (w19) (fun e24 w25 =>
                                          ∃ l26 : Sl, (e24 = Ending.returned (Value.slice l26.1 l26.2 l26.3) ∧
                                           ∃ w27 : World, ∃ l28 : Sl, (Sem.run Try.prog (Builtin.append_ (Array.mk [41, 41]) 41 (Array.mk [Value.slice l5.1 l5.2 l5.3, Value.slice l26.1 l26.2 l26.3])) w25 = Result.ok (Value.slice l28.1 l28.2 l28.3) w27 ∧
                                            Calls Try.prog (37 : Nat) (Array.mk [Value.pointer (some (Addr.mk (Array.size (World.heap w)) 0 none))]) (w27) (fun e29 w30 =>
                                              ∃ s31 : ByteArray, (e29 = Ending.returned (Value.string s31) ∧
                                               Calls Try.prog (35 : Nat) (Array.mk [Value.slice l28.1 l28.2 l28.3]) (w30) (fun e32 w33 =>
                                                 ∃ s34 : ByteArray, (e32 = Ending.returned (Value.string s34) ∧
                                                  ((((!ByteArray.toList s31 == ByteArray.toList s34) = true →
                                                     R (Value.bool false) w33)) ∧
                                                   ((!ByteArray.toList s31 == ByteArray.toList s34) = false →
                                                     (I3 (Sl.mk l28.1 l28.2 l28.3) (IntKind.wrap IntKind.i64 (n6 + 1)) w33 ∧
                                                      I4 (Sl.mk l28.1 l28.2 l28.3) (IntKind.wrap IntKind.i64 (n6 + 1)) w33 < I4 l5 n6 w7)))))))))))))) ∧
                                    (decide (n21 ≤ 32) = false →
                                      Calls Try.prog (37 : Nat) (Array.mk [Value.pointer (some (Addr.mk (Array.size (World.heap w)) 0 none))]) (w19) (fun e35 w36 =>
                                        ∃ s37 : ByteArray, (e35 = Ending.returned (Value.string s37) ∧
                                         Calls Try.prog (35 : Nat) (Array.mk [Value.slice l5.1 l5.2 l5.3]) (w36) (fun e38 w39 =>
                                           ∃ s40 : ByteArray, (e38 = Ending.returned (Value.string s40) ∧
                                            ((((!ByteArray.toList s37 == ByteArray.toList s40) = true →
                                               R (Value.bool false) w39)) ∧
                                             ((!ByteArray.toList s37 == ByteArray.toList s40) = false →
                                               (I3 (Sl.mk l5.1 l5.2 l5.3) (IntKind.wrap IntKind.i64 (n6 + 1)) w39 ∧
                                                I4 (Sl.mk l5.1 l5.2 l5.3) (IntKind.wrap IntKind.i64 (n6 + 1)) w39 < I4 l5 n6 w7)))))))))))) ∧
                                (decide (n20 ≥ 0) = false →
                                  Calls Try.prog (37 : Nat) (Array.mk [Value.pointer (some (Addr.mk (Array.size (World.heap w)) 0 none))]) (w19) (fun e41 w42 =>
                                    ∃ s43 : ByteArray, (e41 = Ending.returned (Value.string s43) ∧
                                     Calls Try.prog (35 : Nat) (Array.mk [Value.slice l5.1 l5.2 l5.3]) (w42) (fun e44 w45 =>
                                       ∃ s46 : ByteArray, (e44 = Ending.returned (Value.string s46) ∧
                                        ((((!ByteArray.toList s43 == ByteArray.toList s46) = true →
                                           R (Value.bool false) w45)) ∧
                                         ((!ByteArray.toList s43 == ByteArray.toList s46) = false →
                                           (I3 (Sl.mk l5.1 l5.2 l5.3) (IntKind.wrap IntKind.i64 (n6 + 1)) w45 ∧
                                            I4 (Sl.mk l5.1 l5.2 l5.3) (IntKind.wrap IntKind.i64 (n6 + 1)) w45 < I4 l5 n6 w7)))))))))))))))) ∧
                       ((n15 == 0) = false →
                         ((((n15 == 1) = true →
                            ∃ n47 : Int, (World.cell? w14 (Addr.mk (Array.size (World.heap w7)) 2 none) = some (Value.int IntKind.u32 n47) ∧
                             ∃ n48 : Int, (World.cell? w14 (Addr.mk (Array.size (World.heap w7)) 1 none) = some (Value.int IntKind.i64 n48) ∧
                              Calls Try.prog (39 : Nat) (Array.mk [Value.pointer (some (Addr.mk (Array.size (World.heap w)) 0 none)), Value.int IntKind.u32 n47, Value.int IntKind.i64 n48]) (w14) (fun e49 w50 =>
                                (e49 = Ending.returned (Value.tuple (Array.mk [])) ∧
                                 ∃ n51 : Int, (World.cell? w50 (Addr.mk (Array.size (World.heap w7)) 1 none) = some (Value.int IntKind.i64 n51) ∧
                                  (((decide (n51 ≥ 1) = true →
                                     ∃ n52 : Int, (World.cell? w50 (Addr.mk (Array.size (World.heap w7)) 1 none) = some (Value.int IntKind.i64 n52) ∧
                                      (((decide (n52 ≤ 32) = true →
                                         ∃ n53 : Int, (World.cell? w50 (Addr.mk (Array.size (World.heap w7)) 2 none) = some (Value.int IntKind.u32 n53) ∧
                                          ∃ n54 : Int, (World.cell? w50 (Addr.mk (Array.size (World.heap w7)) 1 none) = some (Value.int IntKind.i64 n54) ∧
                                           Calls Try.prog (38 : Nat) (Array.mk [Value.int IntKind.u32 n53, Value.int IntKind.i64 n54]) (w50) (fun e55 w56 =>
                                             ∃ l57 : Sl, (e55 = Ending.returned (Value.slice l57.1 l57.2 l57.3) ∧
                                              Calls Try.prog (28 : Nat) (Array.mk [Value.slice l57.1 l57.2 l57.3]) (w56) (fun e58 w59 =>
                                                ∃ l60 : Sl, (e58 = Ending.returned (Value.slice l60.1 l60.2 l60.3) ∧
                                                 ∃ w61 : World, ∃ l62 : Sl, (Sem.run Try.prog (Builtin.append_ (Array.mk [41, 41]) 41 (Array.mk [Value.slice l5.1 l5.2 l5.3, Value.slice l60.1 l60.2 l60.3])) w59 = Result.ok (Value.slice l62.1 l62.2 l62.3) w61 ∧
                                                  Calls Try.prog (37 : Nat) (Array.mk [Value.pointer (some (Addr.mk (Array.size (World.heap w)) 0 none))]) (w61) (fun e63 w64 =>
                                                    ∃ s65 : ByteArray, (e63 = Ending.returned (Value.string s65) ∧
                                                     Calls Try.prog (35 : Nat) (Array.mk [Value.slice l62.1 l62.2 l62.3]) (w64) (fun e66 w67 =>
                                                       ∃ s68 : ByteArray, (e66 = Ending.returned (Value.string s68) ∧
                                                        ((((!ByteArray.toList s65 == ByteArray.toList s68) = true →
                                                           R (Value.bool false) w67)) ∧
                                                         ((!ByteArray.toList s65 == ByteArray.toList s68) = false →
                                                           (I3 (Sl.mk l62.1 l62.2 l62.3) (IntKind.wrap IntKind.i64 (n6 + 1)) w67 ∧
                                                            I4 (Sl.mk l62.1 l62.2 l62.3) (IntKind.wrap IntKind.i64 (n6 + 1)) w67 < I4 l5 n6 w7)))))))))))))))) ∧
                                       (decide (n52 ≤ 32) = false →
                                         Calls Try.prog (37 : Nat) (Array.mk [Value.pointer (some (Addr.mk (Array.size (World.heap w)) 0 none))]) (w50) (fun e69 w70 =>
                                           ∃ s71 : ByteArray, (e69 = Ending.returned (Value.string s71) ∧
                                            Calls Try.prog (35 : Nat) (Array.mk [Value.slice l5.1 l5.2 l5.3]) (w70) (fun e72 w73 =>
                                              ∃ s74 : ByteArray, (e72 = Ending.returned (Value.string s74) ∧
                                               ((((!ByteArray.toList s71 == ByteArray.toList s74) = true →
                                                  R (Value.bool false) w73)) ∧
                                                ((!ByteArray.toList s71 == ByteArray.toList s74) = false →
                                                  (I3 (Sl.mk l5.1 l5.2 l5.3) (IntKind.wrap IntKind.i64 (n6 + 1)) w73 ∧
                                                   I4 (Sl.mk l5.1 l5.2 l5.3) (IntKind.wrap IntKind.i64 (n6 + 1)) w73 < I4 l5 n6 w7)))))))))))) ∧
                                   (decide (n51 ≥ 1) = false →
                                     Calls Try.prog (37 : Nat) (Array.mk [Value.pointer (some (Addr.mk (Array.size (World.heap w)) 0 none))]) (w50) (fun e75 w76 =>
                                       ∃ s77 : ByteArray, (e75 = Ending.returned (Value.string s77) ∧
                                        Calls Try.prog (35 : Nat) (Array.mk [Value.slice l5.1 l5.2 l5.3]) (w76) (fun e78 w79 =>
                                          ∃ s80 : ByteArray, (e78 = Ending.returned (Value.string s80) ∧
                                           ((((!ByteArray.toList s77 == ByteArray.toList s80) = true →
                                              R (Value.bool false) w79)) ∧
                                            ((!ByteArray.toList s77 == ByteArray.toList s80) = false →
                                              (I3 (Sl.mk l5.1 l5.2 l5.3) (IntKind.wrap IntKind.i64 (n6 + 1)) w79 ∧
                                               I4 (Sl.mk l5.1 l5.2 l5.3) (IntKind.wrap IntKind.i64 (n6 + 1)) w79 < I4 l5 n6 w7)))))))))))))))) ∧
                          ((n15 == 1) = false →
                            ((((n15 == 2) = true →
                               Calls Try.prog (40 : Nat) (Array.mk [Value.pointer (some (Addr.mk (Array.size (World.heap w)) 0 none))]) (w14) (fun e81 w82 =>
                                 (e81 = Ending.returned (Value.tuple (Array.mk [])) ∧
                                  Calls Try.prog (35 : Nat) (Array.mk [Value.slice l5.1 l5.2 l5.3]) (w82) (fun e83 w84 =>
                                    ∃ s85 : ByteArray, (e83 = Ending.returned (Value.string s85) ∧
                                     Calls Try.prog (30 : Nat) (Array.mk [Value.string s85]) (w84) (fun e86 w87 =>
                                       ∃ l88 : Sl, (e86 = Ending.returned (Value.slice l88.1 l88.2 l88.3) ∧
                                        Calls Try.prog (37 : Nat) (Array.mk [Value.pointer (some (Addr.mk (Array.size (World.heap w)) 0 none))]) (w87) (fun e89 w90 =>
                                          ∃ s91 : ByteArray, (e89 = Ending.returned (Value.string s91) ∧
                                           Calls Try.prog (35 : Nat) (Array.mk [Value.slice l88.1 l88.2 l88.3]) (w90) (fun e92 w93 =>
                                             ∃ s94 : ByteArray, (e92 = Ending.returned (Value.string s94) ∧
                                              ((((!ByteArray.toList s91 == ByteArray.toList s94) = true →
                                                 R (Value.bool false) w93)) ∧
                                               ((!ByteArray.toList s91 == ByteArray.toList s94) = false →
                                                 (I3 (Sl.mk l88.1 l88.2 l88.3) (IntKind.wrap IntKind.i64 (n6 + 1)) w93 ∧
                                                  I4 (Sl.mk l88.1 l88.2 l88.3) (IntKind.wrap IntKind.i64 (n6 + 1)) w93 < I4 l5 n6 w7))))))))))))))) ∧
                             ((n15 == 2) = false →
                               ((((n15 == 3) = true →
                                  ∃ s95 : ByteArray, (World.cell? w14 (Addr.mk (Array.size (World.heap w7)) 3 none) = some (Value.string s95) ∧
                                   Calls Try.prog (29 : Nat) (Array.mk [Value.string s95, Value.int IntKind.i64 100]) (w14) (fun e96 w97 =>
                                     ∃ s98 : ByteArray, (e96 = Ending.returned (Value.string s98) ∧
                                      Calls Try.prog (41 : Nat) (Array.mk [Value.pointer (some (Addr.mk (Array.size (World.heap w)) 0 none)), Value.string s98]) (w97) (fun e99 w100 =>
                                        (e99 = Ending.returned (Value.tuple (Array.mk [])) ∧
                                         Calls Try.prog (35 : Nat) (Array.mk [Value.slice l5.1 l5.2 l5.3]) (w100) (fun e101 w102 =>
                                           ∃ s103 : ByteArray, (e101 = Ending.returned (Value.string s103) ∧
                                            Calls Try.prog (30 : Nat) (Array.mk [Value.string s103]) (w102) (fun e104 w105 =>
                                              ∃ l106 : Sl, (e104 = Ending.returned (Value.slice l106.1 l106.2 l106.3) ∧
                                               Calls Try.prog (30 : Nat) (Array.mk [Value.string s98]) (w105) (fun e107 w108 =>
                                                 ∃ l109 : Sl, (e107 = Ending.returned (Value.slice l109.1 l109.2 l109.3) ∧
                                                  ∃ w110 : World, ∃ l111 : Sl, (Sem.run Try.prog (Builtin.append_ (Array.mk [41, 41]) 41 (Array.mk [Value.slice l106.1 l106.2 l106.3, Value.slice l109.1 l109.2 l109.3])) w108 = Result.ok (Value.slice l111.1 l111.2 l111.3) w110 ∧
                                                   Calls Try.prog (37 : Nat) (Array.mk [Value.pointer (some (Addr.mk (Array.size (World.heap w)) 0 none))]) (w110) (fun e112 w113 =>
                                                     ∃ s114 : ByteArray, (e112 = Ending.returned (Value.string s114) ∧
                                                      Calls Try.prog (35 : Nat) (Array.mk [Value.slice l111.1 l111.2 l111.3]) (w113) (fun e115 w116 =>
                                                        ∃ s117 : ByteArray, (e115 = Ending.returned (Value.string s117) ∧
                                                         ((((!ByteArray.toList s114 == ByteArray.toList s117) = true →
                                                            R (Value.bool false) w116)) ∧
                                                          ((!ByteArray.toList s114 == ByteArray.toList s117) = false →
                                                            (I3 (Sl.mk l111.1 l111.2 l111.3) (IntKind.wrap IntKind.i64 (n6 + 1)) w116 ∧
                                                             I4 (Sl.mk l111.1 l111.2 l111.3) (IntKind.wrap IntKind.i64 (n6 + 1)) w116 < I4 l5 n6 w7))))))))))))))))))))) ∧
                                ((n15 == 3) = false →
                                  Calls Try.prog (37 : Nat) (Array.mk [Value.pointer (some (Addr.mk (Array.size (World.heap w)) 0 none))]) (w14) (fun e118 w119 =>
                                    ∃ s120 : ByteArray, (e118 = Ending.returned (Value.string s120) ∧
                                     Calls Try.prog (35 : Nat) (Array.mk [Value.slice l5.1 l5.2 l5.3]) (w119) (fun e121 w122 =>
                                       ∃ s123 : ByteArray, (e121 = Ending.returned (Value.string s123) ∧
                                        ((((!ByteArray.toList s120 == ByteArray.toList s123) = true →
                                           R (Value.bool false) w122)) ∧
                                         ((!ByteArray.toList s120 == ByteArray.toList s123) = false →
                                           (I3 (Sl.mk l5.1 l5.2 l5.3) (IntKind.wrap IntKind.i64 (n6 + 1)) w122 ∧
                                            I4 (Sl.mk l5.1 l5.2 l5.3) (IntKind.wrap IntKind.i64 (n6 + 1)) w122 < I4 l5 n6 w7))))))))))))))))))))))) ∧
             (decide (n6 < 100) = false →
               Calls Try.prog (19 : Nat) (Array.mk []) (w7) (fun e124 w125 =>
                 ∃ b126 : Bool, (e124 = Ending.returned (Value.bool b126) ∧
                  R (Value.bool b126) w125)))))) ∧
          (decide (n6 < (↑x0n : Int)) = false →
            Calls Try.prog (19 : Nat) (Array.mk []) (w7) (fun e127 w128 =>
              ∃ b129 : Bool, (e127 = Ending.returned (Value.bool b129) ∧
               R (Value.bool b129) w128))))))))
theorem vc_cartularylaw03_BitinWrites_ok {x0a : Option Addr} {x0n : Nat} {x0c : Nat} {w : World} {R : Value → World → Prop} {R' : Ending → World → Prop} (h : vc_cartularylaw03_BitinWrites x0a x0n x0c w R) (hR : ∀ v w', R v w' → R' (.returned v) w') :
    Calls Try.prog 8 #[.slice x0a x0n x0c] w R' :=
  calls_of_body (vs := [(.slice x0a x0n x0c, false)]) (ty := ty) (ann := ⟨[], [(4, [(4, .slice), (5, .int .i64)])], []⟩) (c := Try.f8.body.getD .skip) (by kernel_rfl) Try.func8 (by kernel_rfl) (by kernel_rfl) (Eq.mp (by kernel_rfl) h) hR
end Go.Proofs.Ytcboiljbkkleiaa

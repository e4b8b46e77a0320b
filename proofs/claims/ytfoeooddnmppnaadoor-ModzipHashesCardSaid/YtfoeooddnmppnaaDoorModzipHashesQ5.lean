/- Texts of this seat in one: made by a program of ours. -/
import Derived.Test.YtfoeooddnmppnaaDoorModzipHashesQ0
import Derived.Test.YtfoeooddnmppnaaDoorModzipHashesQ1
import Derived.Test.YtfoeooddnmppnaaDoorModzipHashesQ2
import Derived.Test.YtfoeooddnmppnaaDoorModzipHashesQ3
import Derived.Test.YtfoeooddnmppnaaDoorModzipHashesQ4
import Derived.Test.YtfoeooddnmppnaaDoorProg
import Derived.Deep.Slices
import Derived.Deep.Fields
import Derived.ChangeSame
import Derived.SizedLaws
import Derived.Test.YtfoeooddnmppnaaDoorRows
import Derived.Test.YtfoeooddnmppnaaDoorCards
import Derived.Test.YtfoeooddnmppnaaDoorTie
import Derived.WalkKit
import Derived.ProofKit
import Derived.OpenShut
import Derived.ShutString
import Derived.ChangeOld
import Derived.Below
import Derived.SevenTiedAt
import Derived.LaidMore
import Derived.Lay
import Derived.LaidOnce
/- Formulas of 6 Go functions of this seat (written by a program of the author's, vcgen.py), and that each is enough for the call. No condition. -/
set_option linter.unusedVariables false
namespace Go.Proofs.YtfoeooddnmppnaaDoor
open Go Vc Go.Proofs
set_option maxRecDepth 100000
/-- cartularylaw24.Short -/
def vc_cartularylaw24_Short (x0a : Option Addr) (x0n : Nat) (x0c : Nat) (x1 : Int) (w : World) (R : Value → World → Prop) : Prop :=
  ∀ w1 : World,
  (w1 = World.alloc w (Obj.cells (Array.mk []) 51) →
    ∃ I2 : Sl → Int → World → Prop, ∃ I3 : Sl → Int → World → Nat, (I2 (Sl.mk (some (Addr.mk (Array.size (World.heap w)) 0 none)) 0 0) 0 w1 ∧
     ∀ l4 : Sl,
     ∀ n5 : Int,
     ∀ w6 : World,
     (I2 l4 n5 w6 →
       (((decide (n5 < (↑x0n : Int)) = true →
          (((decide (n5 < x1) = true →
             ((0 ≤ n5 ∧
               n5 < (↑x0n : Int)) ∧
              ∃ a7 : Addr, (x0a = some a7 ∧
               ∃ s8 : ByteArray, ∃ n9 : Int, ∃ s10 : ByteArray, (Sem.run Tryd.prog (loadVar 51 (Addr.add a7 (Int.toNat n5 * 3))) w6 = Result.ok (Value.agg (Array.mk [Value.string s8, Value.int IntKind.i64 n9, Value.string s10])) w6 ∧
                ∀ w11 : World,
                (w11 = World.alloc w6 (Obj.cells (Array.mk [Value.string (ByteArray.mk (Array.mk [])), Value.int IntKind.i64 0, Value.string (ByteArray.mk (Array.mk []))]) 51) →
                  ∃ w12 : World, (Sem.run Tryd.prog (storeVar 51 (Addr.mk (Array.size (World.heap w6)) 0 none) (Value.agg (Array.mk [Value.string s8, Value.int IntKind.i64 n9, Value.string s10]))) w11 = Result.ok PUnit.unit w12 ∧
                   ∃ s13 : ByteArray, (World.cell? w12 (Addr.mk (Array.size (World.heap w6)) 2 none) = some (Value.string s13) ∧
                    Calls Tryd.prog (20 : Nat) (Array.mk [Value.string s13, Value.int IntKind.i64 400]) (w12) (fun e14 w15 =>
                      ∃ s16 : ByteArray, (e14 = Ending.returned (Value.string s16) ∧
                       (Wr w15 (Addr.mk (Array.size (World.heap w6)) 2 none) ∧
                        ∀ w17 : World,
                        (w17 = World.setCell w15 (Addr.mk (Array.size (World.heap w6)) 2 none) (Value.string s16) →
                          ∃ s18 : ByteArray, ∃ n19 : Int, ∃ s20 : ByteArray, (Sem.run Tryd.prog (loadVar 51 (Addr.mk (Array.size (World.heap w6)) 0 none)) w17 = Result.ok (Value.agg (Array.mk [Value.string s18, Value.int IntKind.i64 n19, Value.string s20])) w17 ∧
                           ∀ w21 : World,
                           (w21 = World.alloc w17 (Obj.cells (Array.mk [Value.string s18, Value.int IntKind.i64 n19, Value.string s20]) 51) →
                             ∃ w22 : World, ∃ l23 : Sl, (Sem.run Tryd.prog (Builtin.append_ (Array.mk [47, 47]) 47 (Array.mk [Value.slice l4.1 l4.2 l4.3, Value.slice (some (Addr.mk (Array.size (World.heap w17)) 0 none)) 1 1])) w21 = Result.ok (Value.slice l23.1 l23.2 l23.3) w22 ∧
                              (I2 (Sl.mk l23.1 l23.2 l23.3) (IntKind.wrap IntKind.i64 (n5 + 1)) w22 ∧
                               I3 (Sl.mk l23.1 l23.2 l23.3) (IntKind.wrap IntKind.i64 (n5 + 1)) w22 < I3 l4 n5 w6)))))))))))))))) ∧
           (decide (n5 < x1) = false →
             R (Value.slice l4.1 l4.2 l4.3) w6)))) ∧
        (decide (n5 < (↑x0n : Int)) = false →
          R (Value.slice l4.1 l4.2 l4.3) w6)))))
theorem vc_cartularylaw24_Short_ok {x0a : Option Addr} {x0n : Nat} {x0c : Nat} {x1 : Int} {w : World} {R : Value → World → Prop} {R' : Ending → World → Prop} (h : vc_cartularylaw24_Short x0a x0n x0c x1 w R) (hR : ∀ v w', R v w' → R' (.returned v) w') :
    Calls Tryd.prog 26 #[.slice x0a x0n x0c, .int .i64 x1] w R' :=
  calls_of_body (vs := [(.slice x0a x0n x0c, false), (.int .i64 x1, false)]) (ty := ty) (ann := ⟨[], [(3, [(5, .slice), (6, .int .i64)])], [], []⟩) (c := Tryd.f26.body.getD .skip) (by kernel_rfl) Tryd.func26 (by kernel_rfl) (by kernel_rfl) (Eq.mp (by kernel_rfl) h) hR
/-- cartularylaw24.awake -/
def vc_cartularylaw24_awake (w : World) (R : Value → World → Prop) : Prop :=
  ∀ w1 : World,
  (w1 = World.alloc w (Obj.cells (Array.mk [Value.string (ByteArray.mk (Array.mk [97, 46, 103, 111])), Value.int IntKind.i64 33188, Value.string (ByteArray.mk (Array.mk [120])), Value.string (ByteArray.mk (Array.mk [115, 117, 98, 47, 103, 111, 46, 109, 111, 100])), Value.int IntKind.i64 33188, Value.string (ByteArray.mk (Array.mk [])), Value.string (ByteArray.mk (Array.mk [76, 73, 67, 69, 78, 83, 69])), Value.int IntKind.i64 33261, Value.string (ByteArray.mk (Array.mk []))]) 51) →
    Calls Tryd.prog (27 : Nat) (Array.mk [Value.slice (some (Addr.mk (Array.size (World.heap w)) 0 none)) 3 3, Value.string (ByteArray.mk (Array.mk [115, 117, 98]))]) (w1) (fun e2 w3 =>
      ∃ l4 : Sl, ∃ n5 : Int, (e2 = Ending.returned (Value.tuple (Array.mk [Value.slice l4.1 l4.2 l4.3, Value.int IntKind.i64 n5])) ∧
       ((((n5 == 0) = true →
          (((((↑l4.2 : Int) == 2) = true →
             (((0 : Int) ≤ (0 : Int) ∧
               0 < (↑l4.2 : Int)) ∧
              ∃ a6 : Addr, (l4.1 = some a6 ∧
               ∃ s7 : ByteArray, (World.cell? w3 (Addr.add a6 (Int.toNat 0 * 2)) = some (Value.string s7) ∧
                ((((ByteArray.toList s7 == ByteArray.toList (ByteArray.mk (Array.mk [76, 73, 67, 69, 78, 83, 69]))) = true →
                   (((0 : Int) ≤ (1 : Int) ∧
                     1 < (↑l4.2 : Int)) ∧
                    ∃ a8 : Addr, (l4.1 = some a8 ∧
                     ∃ s9 : ByteArray, (World.cell? w3 (Addr.add a8 (Int.toNat 1 * 2)) = some (Value.string s9) ∧
                      ((((ByteArray.toList s9 == ByteArray.toList (ByteArray.mk (Array.mk [103, 111, 46, 109, 111, 100]))) = true →
                         Calls Tryd.prog (23 : Nat) (Array.mk [Value.string (ByteArray.mk (Array.mk [(109 : UInt8)])), Value.string (ByteArray.mk (Array.mk [(118 : UInt8)])), Value.slice none (0 : Nat) (0 : Nat)]) (w3) (fun e10 w11 =>
                           ∃ s12 : ByteArray, (e10 = Ending.returned (Value.string s12) ∧
                            R (Value.bool (ByteArray.toList s12 == ByteArray.toList (ByteArray.mk (Array.mk [104, 49, 58, 52, 55, 68, 69, 81, 112, 106, 56, 72, 66, 83, 97, 43, 47, 84, 73, 109, 87, 43, 53, 74, 67, 101, 117, 81, 101, 82, 107, 109, 53, 78, 77, 112, 74, 87, 90, 71, 51, 104, 83, 117, 70, 85, 61])))) w11)))) ∧
                       ((ByteArray.toList s9 == ByteArray.toList (ByteArray.mk (Array.mk [103, 111, 46, 109, 111, 100]))) = false →
                         R (Value.bool false) w3))))))) ∧
                 ((ByteArray.toList s7 == ByteArray.toList (ByteArray.mk (Array.mk [76, 73, 67, 69, 78, 83, 69]))) = false →
                   R (Value.bool false) w3))))))) ∧
           (((↑l4.2 : Int) == 2) = false →
             R (Value.bool false) w3)))) ∧
        ((n5 == 0) = false →
          R (Value.bool false) w3)))))
theorem vc_cartularylaw24_awake_ok {w : World} {R : Value → World → Prop} {R' : Ending → World → Prop} (h : vc_cartularylaw24_awake w R) (hR : ∀ v w', R v w' → R' (.returned v) w') :
    Calls Tryd.prog 22 #[] w R' :=
  calls_of_body (vs := []) (ty := ty) (ann := ⟨[], [], [], []⟩) (c := Tryd.f22.body.getD .skip) (by kernel_rfl) Tryd.func22 (by kernel_rfl) (by kernel_rfl) (Eq.mp (by kernel_rfl) h) hR
/-- cartularylaw24.ModzipHashes -/
def vc_cartularylaw24_ModzipHashes (x0 : ByteArray) (x1 : ByteArray) (x2a : Option Addr) (x2n : Nat) (x2c : Nat) (w : World) (R : Value → World → Prop) : Prop :=
  Calls Tryd.prog (20 : Nat) (Array.mk [Value.string x0, Value.int IntKind.i64 100]) (w) (fun e1 w2 =>
    ∃ s3 : ByteArray, (e1 = Ending.returned (Value.string s3) ∧
     Calls Tryd.prog (20 : Nat) (Array.mk [Value.string x1, Value.int IntKind.i64 100]) (w2) (fun e4 w5 =>
       ∃ s6 : ByteArray, (e4 = Ending.returned (Value.string s6) ∧
        Calls Tryd.prog (12 : Nat) (Array.mk [Value.slice x2a x2n x2c, Value.int IntKind.i64 6]) (w5) (fun e7 w8 =>
          ∃ l9 : Sl, (e7 = Ending.returned (Value.slice l9.1 l9.2 l9.3) ∧
           ∃ I10 : Int → World → Prop, ∃ I11 : Int → World → Nat, (I10 0 w8 ∧
            ∀ n12 : Int,
            ∀ w13 : World,
            (I10 n12 w13 →
              (((decide (n12 < (↑l9.2 : Int)) = true →
                 ((0 ≤ n12 ∧
                   n12 < (↑l9.2 : Int)) ∧
                  ∃ a14 : Addr, (l9.1 = some a14 ∧
                   ∃ s15 : ByteArray, (World.cell? w13 (Addr.add (Addr.add a14 (Int.toNat n12 * 2)) 1) = some (Value.string s15) ∧
                    Calls Tryd.prog (20 : Nat) (Array.mk [Value.string s15, Value.int IntKind.i64 100]) (w13) (fun e16 w17 =>
                      ∃ s18 : ByteArray, (e16 = Ending.returned (Value.string s18) ∧
                       ((0 ≤ n12 ∧
                         n12 < (↑l9.2 : Int)) ∧
                        ∃ a19 : Addr, (l9.1 = some a19 ∧
                         (Wr w17 (Addr.add (Addr.add a19 (Int.toNat n12 * 2)) 1) ∧
                          ∀ w20 : World,
                          (w20 = World.setCell w17 (Addr.add (Addr.add a19 (Int.toNat n12 * 2)) 1) (Value.string s18) →
                            ((0 ≤ n12 ∧
                              n12 < (↑l9.2 : Int)) ∧
                             ∃ a21 : Addr, (l9.1 = some a21 ∧
                              ∃ s22 : ByteArray, (World.cell? w20 (Addr.add a21 (Int.toNat n12 * 2)) = some (Value.string s22) ∧
                               Calls Tryd.prog (20 : Nat) (Array.mk [Value.string s22, Value.int IntKind.i64 100]) (w20) (fun e23 w24 =>
                                 ∃ s25 : ByteArray, (e23 = Ending.returned (Value.string s25) ∧
                                  ((0 ≤ n12 ∧
                                    n12 < (↑l9.2 : Int)) ∧
                                   ∃ a26 : Addr, (l9.1 = some a26 ∧
                                    (Wr w24 (Addr.add a26 (Int.toNat n12 * 2)) ∧
                                     ∀ w27 : World,
                                     (w27 = World.setCell w24 (Addr.add a26 (Int.toNat n12 * 2)) (Value.string s25) →
                                       (I10 (IntKind.wrap IntKind.i64 (n12 + 1)) w27 ∧
                                        I11 (IntKind.wrap IntKind.i64 (n12 + 1)) w27 < I11 n12 w13))))))))))))))))))))) ∧
               (decide (n12 < (↑l9.2 : Int)) = false →
                 Calls Tryd.prog (22 : Nat) (Array.mk []) (w13) (fun e28 w29 =>
                   ∃ b30 : Bool, (e28 = Ending.returned (Value.bool b30) ∧
                    (((b30 = true →
                       Calls Tryd.prog (23 : Nat) (Array.mk [Value.string s3, Value.string s6, Value.slice l9.1 l9.2 l9.3]) (w29) (fun e31 w32 =>
                         ∃ s33 : ByteArray, (e31 = Ending.returned (Value.string s33) ∧
                          Calls Tryd.prog (25 : Nat) (Array.mk []) (w32) (fun e34 w35 =>
                            ∃ l36 : Sl, (e34 = Ending.returned (Value.slice l36.1 l36.2 l36.3) ∧
                             Calls Tryd.prog (24 : Nat) (Array.mk [Value.string s3, Value.string s6, Value.slice l9.1 l9.2 l9.3, Value.slice l36.1 l36.2 l36.3]) (w35) (fun e37 w38 =>
                               ∃ s39 : ByteArray, (e37 = Ending.returned (Value.string s39) ∧
                                R (Value.bool (ByteArray.toList s33 == ByteArray.toList s39)) w38)))))))) ∧
                     (b30 = false →
                       R (Value.bool false) w29))))))))))))))
theorem vc_cartularylaw24_ModzipHashes_ok {x0 : ByteArray} {x1 : ByteArray} {x2a : Option Addr} {x2n : Nat} {x2c : Nat} {w : World} {R : Value → World → Prop} {R' : Ending → World → Prop} (h : vc_cartularylaw24_ModzipHashes x0 x1 x2a x2n x2c w R) (hR : ∀ v w', R v w' → R' (.returned v) w') :
    Calls Tryd.prog 7 #[.string x0, .string x1, .slice x2a x2n x2c] w R' :=
  calls_of_body (vs := [(.string x0, false), (.string x1, false), (.slice x2a x2n x2c, false)]) (ty := ty) (ann := ⟨[], [(5, [(17, .int .i64)])], [], []⟩) (c := Tryd.f7.body.getD .skip) (by kernel_rfl) Tryd.func7 (by kernel_rfl) (by kernel_rfl) (Eq.mp (by kernel_rfl) h) hR
/-- cartularylaw24.ModzipNested -/
def vc_cartularylaw24_ModzipNested (x0a : Option Addr) (x0n : Nat) (x0c : Nat) (x1 : ByteArray) (w : World) (R : Value → World → Prop) : Prop :=
  Calls Tryd.prog (26 : Nat) (Array.mk [Value.slice x0a x0n x0c, Value.int IntKind.i64 40]) (w) (fun e1 w2 =>
    ∃ l3 : Sl, (e1 = Ending.returned (Value.slice l3.1 l3.2 l3.3) ∧
     Calls Tryd.prog (27 : Nat) (Array.mk [Value.slice l3.1 l3.2 l3.3, Value.string x1]) (w2) (fun e4 w5 =>
       ∃ l6 : Sl, ∃ n7 : Int, (e4 = Ending.returned (Value.tuple (Array.mk [Value.slice l6.1 l6.2 l6.3, Value.int IntKind.i64 n7])) ∧
        ((((n7 != 0) = true →
           Calls Tryd.prog (22 : Nat) (Array.mk []) (w5) (fun e8 w9 =>
             ∃ b10 : Bool, (e8 = Ending.returned (Value.bool b10) ∧
              R (Value.bool b10) w9)))) ∧
         ((n7 != 0) = false →
           ∃ I11 : ByteArray → World → Prop, (((((!ByteArray.toList x1 == ByteArray.toList (ByteArray.mk (Array.mk []))) = true →
               (ByteArray.size x1 + ByteArray.size (ByteArray.mk (Array.mk [47])) ≤ 9223372036854775807 ∧
                I11 (x1 ++ ByteArray.mk (Array.mk [47])) w5))) ∧
             ((!ByteArray.toList x1 == ByteArray.toList (ByteArray.mk (Array.mk []))) = false →
               I11 (ByteArray.mk (Array.mk [])) w5)) ∧
            ∀ s12 : ByteArray,
            ∀ w13 : World,
            (I11 s12 w13 →
              ∃ I14 : Int → World → Prop, ∃ I15 : Int → World → Nat, (I14 0 w13 ∧
               ∀ n16 : Int,
               ∀ w17 : World,
               (I14 n16 w17 →
                 (((decide (n16 < (↑l6.2 : Int)) = true →
                    ((0 ≤ n16 ∧
                      n16 < (↑l6.2 : Int)) ∧
                     ∃ a18 : Addr, (l6.1 = some a18 ∧
                      ∃ s19 : ByteArray, ∃ s20 : ByteArray, (Sem.run Tryd.prog (loadVar 37 (Addr.add a18 (Int.toNat n16 * 2))) w17 = Result.ok (Value.agg (Array.mk [Value.string s19, Value.string s20])) w17 ∧
                       ∀ w21 : World,
                       (w21 = World.alloc w17 (Obj.cells (Array.mk [Value.string (ByteArray.mk (Array.mk [])), Value.string (ByteArray.mk (Array.mk []))]) 37) →
                         ∃ w22 : World, (Sem.run Tryd.prog (storeVar 37 (Addr.mk (Array.size (World.heap w17)) 0 none) (Value.agg (Array.mk [Value.string s19, Value.string s20]))) w21 = Result.ok PUnit.unit w22 ∧
                          ∃ I23 : World → Prop, ((((decide (n16 > 0) = true →
                              ((0 ≤ IntKind.wrap IntKind.i64 (n16 - 1) ∧
                                IntKind.wrap IntKind.i64 (n16 - 1) < (↑l6.2 : Int)) ∧
                               ∃ a24 : Addr, (l6.1 = some a24 ∧
                                ∃ s25 : ByteArray, (World.cell? w22 (Addr.add a24 (Int.toNat (IntKind.wrap IntKind.i64 (n16 - 1)) * 2)) = some (Value.string s25) ∧
                                 ∃ s26 : ByteArray, (World.cell? w22 (Addr.mk (Array.size (World.heap w17)) 0 none) = some (Value.string s26) ∧
                                  ∀ w27 : World,
                                  (Drew w22 w27 →
                                    ((((!Op.bytesLess (ByteArray.toList s25) (ByteArray.toList s26)) = true →
                                       R (Value.bool false) w27)) ∧
                                     ((!Op.bytesLess (ByteArray.toList s25) (ByteArray.toList s26)) = false →
                                       I23 w27))))))))) ∧
                            (decide (n16 > 0) = false →
                              ∀ w28 : World,
                              (Drew w22 w28 →
                                I23 w28))) ∧
                           ∀ w29 : World,
                           (I23 w29 →
                             ∃ I30 : Bool → Int → World → Prop, ∃ I31 : Bool → Int → World → Nat, (I30 false 0 w29 ∧
                              ∀ b32 : Bool,
                              ∀ n33 : Int,
                              ∀ w34 : World,
                              (I30 b32 n33 w34 →
                                (((decide (n33 < (↑l3.2 : Int)) = true →
                                   ((0 ≤ n33 ∧
                                     n33 < (↑l3.2 : Int)) ∧
                                    ∃ a35 : Addr, (l3.1 = some a35 ∧
                                     ∃ s36 : ByteArray, ∃ n37 : Int, ∃ s38 : ByteArray, (Sem.run Tryd.prog (loadVar 51 (Addr.add a35 (Int.toNat n33 * 3))) w34 = Result.ok (Value.agg (Array.mk [Value.string s36, Value.int IntKind.i64 n37, Value.string s38])) w34 ∧
                                      ∀ w39 : World,
                                      (w39 = World.alloc w34 (Obj.cells (Array.mk [Value.string (ByteArray.mk (Array.mk [])), Value.int IntKind.i64 0, Value.string (ByteArray.mk (Array.mk []))]) 51) →
                                        ∃ w40 : World, (Sem.run Tryd.prog (storeVar 51 (Addr.mk (Array.size (World.heap w34)) 0 none) (Value.agg (Array.mk [Value.string s36, Value.int IntKind.i64 n37, Value.string s38]))) w39 = Result.ok PUnit.unit w40 ∧
                                         (((b32 = true →
                                            (I30 true (IntKind.wrap IntKind.i64 (n33 + 1)) w40 ∧
                                             I31 true (IntKind.wrap IntKind.i64 (n33 + 1)) w40 < I31 b32 n33 w34))) ∧
                                          (b32 = false →
                                            ∃ s41 : ByteArray, (World.cell? w40 (Addr.mk (Array.size (World.heap w34)) 2 none) = some (Value.string s41) ∧
                                             ∃ s42 : ByteArray, (World.cell? w40 (Addr.mk (Array.size (World.heap w17)) 1 none) = some (Value.string s42) ∧
                                              ((((ByteArray.toList s41 == ByteArray.toList s42) = true →
                                                 ∃ s43 : ByteArray, (World.cell? w40 (Addr.mk (Array.size (World.heap w34)) 0 none) = some (Value.string s43) ∧
                                                  ∃ s44 : ByteArray, (World.cell? w40 (Addr.mk (Array.size (World.heap w17)) 0 none) = some (Value.string s44) ∧
                                                   (ByteArray.size s12 + ByteArray.size s44 ≤ 9223372036854775807 ∧
                                                    ((((ByteArray.toList s43 == ByteArray.toList (s12 ++ s44)) = true →
                                                       (I30 true (IntKind.wrap IntKind.i64 (n33 + 1)) w40 ∧
                                                        I31 true (IntKind.wrap IntKind.i64 (n33 + 1)) w40 < I31 b32 n33 w34))) ∧
                                                     ((ByteArray.toList s43 == ByteArray.toList (s12 ++ s44)) = false →
                                                       ∃ s45 : ByteArray, (World.cell? w40 (Addr.mk (Array.size (World.heap w17)) 0 none) = some (Value.string s45) ∧
                                                        ((((ByteArray.toList s45 == ByteArray.toList (ByteArray.mk (Array.mk [76, 73, 67, 69, 78, 83, 69]))) = true →
                                                           ∃ s46 : ByteArray, (World.cell? w40 (Addr.mk (Array.size (World.heap w34)) 0 none) = some (Value.string s46) ∧
                                                            (I30 (ByteArray.toList s46 == ByteArray.toList (ByteArray.mk (Array.mk [76, 73, 67, 69, 78, 83, 69]))) (IntKind.wrap IntKind.i64 (n33 + 1)) w40 ∧
                                                             I31 (ByteArray.toList s46 == ByteArray.toList (ByteArray.mk (Array.mk [76, 73, 67, 69, 78, 83, 69]))) (IntKind.wrap IntKind.i64 (n33 + 1)) w40 < I31 b32 n33 w34)))) ∧
                                                         ((ByteArray.toList s45 == ByteArray.toList (ByteArray.mk (Array.mk [76, 73, 67, 69, 78, 83, 69]))) = false →
                                                           (I30 false (IntKind.wrap IntKind.i64 (n33 + 1)) w40 ∧
                                                            I31 false (IntKind.wrap IntKind.i64 (n33 + 1)) w40 < I31 b32 n33 w34))))))))))) ∧
                                               ((ByteArray.toList s41 == ByteArray.toList s42) = false →
                                                 (I30 false (IntKind.wrap IntKind.i64 (n33 + 1)) w40 ∧
                                                  I31 false (IntKind.wrap IntKind.i64 (n33 + 1)) w40 < I31 b32 n33 w34)))))))))))))) ∧
                                 (decide (n33 < (↑l3.2 : Int)) = false →
                                   ∃ I47 : Int → World → Prop, ∃ I48 : Int → World → Nat, (I47 0 w34 ∧
                                    ∀ n49 : Int,
                                    ∀ w50 : World,
                                    (I47 n49 w50 →
                                      ∃ s51 : ByteArray, (World.cell? w50 (Addr.mk (Array.size (World.heap w17)) 0 none) = some (Value.string s51) ∧
                                       (((decide (n49 < (↑(ByteArray.size s51) : Int)) = true →
                                          ∃ s52 : ByteArray, (World.cell? w50 (Addr.mk (Array.size (World.heap w17)) 0 none) = some (Value.string s52) ∧
                                           ((0 ≤ n49 ∧
                                             n49 < (↑(ByteArray.size s52) : Int)) ∧
                                            ((((byteAt s52 n49 != 47) = true →
                                               (I47 (IntKind.wrap IntKind.i64 (n49 + 1)) w50 ∧
                                                I48 (IntKind.wrap IntKind.i64 (n49 + 1)) w50 < I48 n49 w50))) ∧
                                             ((byteAt s52 n49 != 47) = false →
                                               ∃ s53 : ByteArray, (World.cell? w50 (Addr.mk (Array.size (World.heap w17)) 0 none) = some (Value.string s53) ∧
                                                ((0 ≤ IntKind.wrap IntKind.i64 (n49 + 1) ∧
                                                  IntKind.wrap IntKind.i64 (n49 + 1) ≤ (↑(ByteArray.size s53) : Int)) ∧
                                                 ∃ I54 : World → Prop, (((((ByteArray.toList (ByteArray.extract s53 0 (Int.toNat (IntKind.wrap IntKind.i64 (n49 + 1)))) == ByteArray.toList (ByteArray.mk (Array.mk [118, 101, 110, 100, 111, 114, 47]))) = true →
                                                     R (Value.bool false) w50)) ∧
                                                   ((ByteArray.toList (ByteArray.extract s53 0 (Int.toNat (IntKind.wrap IntKind.i64 (n49 + 1)))) == ByteArray.toList (ByteArray.mk (Array.mk [118, 101, 110, 100, 111, 114, 47]))) = false →
                                                     (((decide ((↑(ByteArray.size (ByteArray.extract s53 0 (Int.toNat (IntKind.wrap IntKind.i64 (n49 + 1))))) : Int) > 8) = true →
                                                        ((0 ≤ IntKind.wrap IntKind.i64 ((↑(ByteArray.size (ByteArray.extract s53 0 (Int.toNat (IntKind.wrap IntKind.i64 (n49 + 1))))) : Int) - 8) ∧
                                                          IntKind.wrap IntKind.i64 ((↑(ByteArray.size (ByteArray.extract s53 0 (Int.toNat (IntKind.wrap IntKind.i64 (n49 + 1))))) : Int) - 8) ≤ (↑(ByteArray.size (ByteArray.extract s53 0 (Int.toNat (IntKind.wrap IntKind.i64 (n49 + 1))))) : Int)) ∧
                                                         ((((ByteArray.toList (ByteArray.extract (ByteArray.extract s53 0 (Int.toNat (IntKind.wrap IntKind.i64 (n49 + 1)))) (Int.toNat (IntKind.wrap IntKind.i64 ((↑(ByteArray.size (ByteArray.extract s53 0 (Int.toNat (IntKind.wrap IntKind.i64 (n49 + 1))))) : Int) - 8))) (ByteArray.size (ByteArray.extract s53 0 (Int.toNat (IntKind.wrap IntKind.i64 (n49 + 1)))))) == ByteArray.toList (ByteArray.mk (Array.mk [47, 118, 101, 110, 100, 111, 114, 47]))) = true →
                                                            R (Value.bool false) w50)) ∧
                                                          ((ByteArray.toList (ByteArray.extract (ByteArray.extract s53 0 (Int.toNat (IntKind.wrap IntKind.i64 (n49 + 1)))) (Int.toNat (IntKind.wrap IntKind.i64 ((↑(ByteArray.size (ByteArray.extract s53 0 (Int.toNat (IntKind.wrap IntKind.i64 (n49 + 1))))) : Int) - 8))) (ByteArray.size (ByteArray.extract s53 0 (Int.toNat (IntKind.wrap IntKind.i64 (n49 + 1)))))) == ByteArray.toList (ByteArray.mk (Array.mk [47, 118, 101, 110, 100, 111, 114, 47]))) = false →
                                                            I54 w50))))) ∧
                                                      (decide ((↑(ByteArray.size (ByteArray.extract s53 0 (Int.toNat (IntKind.wrap IntKind.i64 (n49 + 1))))) : Int) > 8) = false →
                                                        I54 w50)))) ∧
                                                  ∀ w55 : World,
                                                  (I54 w55 →
                                                    ∃ I56 : Int → World → Prop, ∃ I57 : Int → World → Nat, (I56 0 w55 ∧
                                                     ∀ n58 : Int,
                                                     ∀ w59 : World,
                                                     (I56 n58 w59 →
                                                       (((decide (n58 < (↑l3.2 : Int)) = true →
                                                          ((0 ≤ n58 ∧
                                                            n58 < (↑l3.2 : Int)) ∧
                                                           ∃ a60 : Addr, (l3.1 = some a60 ∧
                                                            ∃ s61 : ByteArray, ∃ n62 : Int, ∃ s63 : ByteArray, (Sem.run Tryd.prog (loadVar 51 (Addr.add a60 (Int.toNat n58 * 3))) w59 = Result.ok (Value.agg (Array.mk [Value.string s61, Value.int IntKind.i64 n62, Value.string s63])) w59 ∧
                                                             ∀ w64 : World,
                                                             (w64 = World.alloc w59 (Obj.cells (Array.mk [Value.string (ByteArray.mk (Array.mk [])), Value.int IntKind.i64 0, Value.string (ByteArray.mk (Array.mk []))]) 51) →
                                                               ∃ w65 : World, (Sem.run Tryd.prog (storeVar 51 (Addr.mk (Array.size (World.heap w59)) 0 none) (Value.agg (Array.mk [Value.string s61, Value.int IntKind.i64 n62, Value.string s63]))) w64 = Result.ok PUnit.unit w65 ∧
                                                                ∃ s66 : ByteArray, (World.cell? w65 (Addr.mk (Array.size (World.heap w59)) 0 none) = some (Value.string s66) ∧
                                                                 (ByteArray.size s12 + ByteArray.size (ByteArray.extract s53 0 (Int.toNat (IntKind.wrap IntKind.i64 (n49 + 1)))) ≤ 9223372036854775807 ∧
                                                                  (ByteArray.size (s12 ++ ByteArray.extract s53 0 (Int.toNat (IntKind.wrap IntKind.i64 (n49 + 1)))) + ByteArray.size (ByteArray.mk (Array.mk [103, 111, 46, 109, 111, 100])) ≤ 9223372036854775807 ∧
                                                                   ((((ByteArray.toList s66 == ByteArray.toList (s12 ++ ByteArray.extract s53 0 (Int.toNat (IntKind.wrap IntKind.i64 (n49 + 1))) ++ ByteArray.mk (Array.mk [103, 111, 46, 109, 111, 100]))) = true →
                                                                      ∃ n67 : Int, (World.cell? w65 (Addr.mk (Array.size (World.heap w59)) 1 none) = some (Value.int IntKind.i64 n67) ∧
                                                                       ((((n67 == 33188) = true →
                                                                          R (Value.bool false) w65)) ∧
                                                                        ((n67 == 33188) = false →
                                                                          ∃ n68 : Int, (World.cell? w65 (Addr.mk (Array.size (World.heap w59)) 1 none) = some (Value.int IntKind.i64 n68) ∧
                                                                           ((((n68 == 33261) = true →
                                                                              R (Value.bool false) w65)) ∧
                                                                            ((n68 == 33261) = false →
                                                                              (I56 (IntKind.wrap IntKind.i64 (n58 + 1)) w65 ∧
                                                                               I57 (IntKind.wrap IntKind.i64 (n58 + 1)) w65 < I57 n58 w59))))))))) ∧
                                                                    ((ByteArray.toList s66 == ByteArray.toList (s12 ++ ByteArray.extract s53 0 (Int.toNat (IntKind.wrap IntKind.i64 (n49 + 1))) ++ ByteArray.mk (Array.mk [103, 111, 46, 109, 111, 100]))) = false →
                                                                      (I56 (IntKind.wrap IntKind.i64 (n58 + 1)) w65 ∧
                                                                       I57 (IntKind.wrap IntKind.i64 (n58 + 1)) w65 < I57 n58 w59))))))))))))) ∧
                                                        (decide (n58 < (↑l3.2 : Int)) = false →
                                                          (I47 (IntKind.wrap IntKind.i64 (n49 + 1)) w59 ∧
                                                           I48 (IntKind.wrap IntKind.i64 (n49 + 1)) w59 < I48 n49 w50))))))))))))))) ∧
                                        (decide (n49 < (↑(ByteArray.size s51) : Int)) = false →
                                          ((((!b32) = true →
                                             R (Value.bool false) w50)) ∧
                                           ((!b32) = false →
                                             (I14 (IntKind.wrap IntKind.i64 (n16 + 1)) w50 ∧
                                              I15 (IntKind.wrap IntKind.i64 (n16 + 1)) w50 < I15 n16 w17))))))))))))))))))))) ∧
                  (decide (n16 < (↑l6.2 : Int)) = false →
                    Calls Tryd.prog (22 : Nat) (Array.mk []) (w17) (fun e69 w70 =>
                      ∃ b71 : Bool, (e69 = Ending.returned (Value.bool b71) ∧
                       (((b71 = true →
                          Calls Tryd.prog (12 : Nat) (Array.mk [Value.slice l6.1 l6.2 l6.3, Value.int IntKind.i64 40]) (w70) (fun e72 w73 =>
                            ∃ l74 : Sl, (e72 = Ending.returned (Value.slice l74.1 l74.2 l74.3) ∧
                             (R (Value.bool ((↑l74.2 : Int) == if 40 < (↑l6.2 : Int) then 40 else (↑l6.2 : Int))) w73))))) ∧
                        (b71 = false →
                          R (Value.bool false) w70))))))))))))))))
theorem vc_cartularylaw24_ModzipNested_ok {x0a : Option Addr} {x0n : Nat} {x0c : Nat} {x1 : ByteArray} {w : World} {R : Value → World → Prop} {R' : Ending → World → Prop} (h : vc_cartularylaw24_ModzipNested x0a x0n x0c x1 w R) (hR : ∀ v w', R v w' → R' (.returned v) w') :
    Calls Tryd.prog 8 #[.slice x0a x0n x0c, .string x1] w R' :=
  calls_of_body (vs := [(.slice x0a x0n x0c, false), (.string x1, false)]) (ty := ty) (ann := ⟨[(8, [(8, .str)]), (13, []), (26, [])], [(9, [(35, .int .i64)]), (15, [(11, .bool), (55, .int .i64)]), (20, [(14, .int .i64)]), (27, [(121, .int .i64)])], [(11, .quiet)], []⟩) (c := Tryd.f8.body.getD .skip) (by kernel_rfl) Tryd.func8 (by kernel_rfl) (by kernel_rfl) (Eq.mp (by kernel_rfl) h) hR
/-- cartularylaw24.ModzipHashed -/
def vc_cartularylaw24_ModzipHashed (x0a : Option Addr) (x0n : Nat) (x0c : Nat) (x1 : ByteArray) (x2 : ByteArray) (w : World) (R : Value → World → Prop) : Prop :=
  Calls Tryd.prog (12 : Nat) (Array.mk [Value.slice x0a x0n x0c, Value.int IntKind.i64 20]) (w) (fun e1 w2 =>
    ∃ l3 : Sl, (e1 = Ending.returned (Value.slice l3.1 l3.2 l3.3) ∧
     Calls Tryd.prog (23 : Nat) (Array.mk [Value.string x1, Value.string x2, Value.slice l3.1 l3.2 l3.3]) (w2) (fun e4 w5 =>
       ∃ s6 : ByteArray, (e4 = Ending.returned (Value.string s6) ∧
        (((((↑(ByteArray.size s6) : Int) != 47) = true →
           R (Value.bool false) w5)) ∧
         (((↑(ByteArray.size s6) : Int) != 47) = false →
           (((0 : Int) ≤ (3 : Int) ∧
             3 ≤ (↑(ByteArray.size s6) : Int)) ∧
            ((((!ByteArray.toList (ByteArray.extract s6 0 (Int.toNat 3)) == ByteArray.toList (ByteArray.mk (Array.mk [104, 49, 58]))) = true →
               R (Value.bool false) w5)) ∧
             ((!ByteArray.toList (ByteArray.extract s6 0 (Int.toNat 3)) == ByteArray.toList (ByteArray.mk (Array.mk [104, 49, 58]))) = false →
               Calls Tryd.prog (12 : Nat) (Array.mk [Value.slice x0a x0n x0c, Value.int IntKind.i64 20]) (w5) (fun e7 w8 =>
                 ∃ l9 : Sl, (e7 = Ending.returned (Value.slice l9.1 l9.2 l9.3) ∧
                  Calls Tryd.prog (23 : Nat) (Array.mk [Value.string x1, Value.string x2, Value.slice l9.1 l9.2 l9.3]) (w8) (fun e10 w11 =>
                    ∃ s12 : ByteArray, (e10 = Ending.returned (Value.string s12) ∧
                     ((((!ByteArray.toList s6 == ByteArray.toList s12) = true →
                        R (Value.bool false) w11)) ∧
                      ((!ByteArray.toList s6 == ByteArray.toList s12) = false →
                        Calls Tryd.prog (12 : Nat) (Array.mk [Value.slice x0a x0n x0c, Value.int IntKind.i64 20]) (w11) (fun e13 w14 =>
                          ∃ l15 : Sl, (e13 = Ending.returned (Value.slice l15.1 l15.2 l15.3) ∧
                           ∀ w16 : World,
                           (w16 = World.alloc w14 (Obj.cells (Array.mk [Value.string (ByteArray.mk (Array.mk [97, 110, 111, 116, 104, 101, 114])), Value.string (ByteArray.mk (Array.mk [120]))]) 37) →
                             ∃ w17 : World, ∃ l18 : Sl, (Sem.run Tryd.prog (Builtin.append_ (Array.mk [22, 22]) 22 (Array.mk [Value.slice l15.1 l15.2 l15.3, Value.slice (some (Addr.mk (Array.size (World.heap w14)) 0 none)) 1 1])) w16 = Result.ok (Value.slice l18.1 l18.2 l18.3) w17 ∧
                              Calls Tryd.prog (22 : Nat) (Array.mk []) (w17) (fun e19 w20 =>
                                ∃ b21 : Bool, (e19 = Ending.returned (Value.bool b21) ∧
                                 (((b21 = true →
                                    Calls Tryd.prog (23 : Nat) (Array.mk [Value.string x1, Value.string x2, Value.slice l18.1 l18.2 l18.3]) (w20) (fun e22 w23 =>
                                      ∃ s24 : ByteArray, (e22 = Ending.returned (Value.string s24) ∧
                                       (((((↑(ByteArray.size s24) : Int) == 47) = true →
                                          (ByteArray.size x1 + ByteArray.size (ByteArray.mk (Array.mk [64])) ≤ 9223372036854775807 ∧
                                           (ByteArray.size (x1 ++ ByteArray.mk (Array.mk [64])) + ByteArray.size x2 ≤ 9223372036854775807 ∧
                                            Calls Tryd.prog (23 : Nat) (Array.mk [Value.string (x1 ++ ByteArray.mk (Array.mk [64]) ++ x2), Value.string (ByteArray.mk (Array.mk [])), Value.slice none 0 0]) (w23) (fun e25 w26 =>
                                              ∃ s27 : ByteArray, (e25 = Ending.returned (Value.string s27) ∧
                                               Calls Tryd.prog (23 : Nat) (Array.mk [Value.string x1, Value.string x2, Value.slice none 0 0]) (w26) (fun e28 w29 =>
                                                 ∃ s30 : ByteArray, (e28 = Ending.returned (Value.string s30) ∧
                                                  R (Value.bool (ByteArray.toList s27 == ByteArray.toList s30)) w29)))))))) ∧
                                        (((↑(ByteArray.size s24) : Int) == 47) = false →
                                          R (Value.bool false) w23)))))) ∧
                                  (b21 = false →
                                    R (Value.bool false) w20)))))))))))))))))))))))
theorem vc_cartularylaw24_ModzipHashed_ok {x0a : Option Addr} {x0n : Nat} {x0c : Nat} {x1 : ByteArray} {x2 : ByteArray} {w : World} {R : Value → World → Prop} {R' : Ending → World → Prop} (h : vc_cartularylaw24_ModzipHashed x0a x0n x0c x1 x2 w R) (hR : ∀ v w', R v w' → R' (.returned v) w') :
    Calls Tryd.prog 9 #[.slice x0a x0n x0c, .string x1, .string x2] w R' :=
  calls_of_body (vs := [(.slice x0a x0n x0c, false), (.string x1, false), (.string x2, false)]) (ty := ty) (ann := ⟨[], [], [], []⟩) (c := Tryd.f9.body.getD .skip) (by kernel_rfl) Tryd.func9 (by kernel_rfl) (by kernel_rfl) (Eq.mp (by kernel_rfl) h) hR
/-- cartularylaw24.ModzipTurns -/
def vc_cartularylaw24_ModzipTurns (x0a : Option Addr) (x0n : Nat) (x0c : Nat) (x1 : ByteArray) (w : World) (R : Value → World → Prop) : Prop :=
  Calls Tryd.prog (26 : Nat) (Array.mk [Value.slice x0a x0n x0c, Value.int IntKind.i64 40]) (w) (fun e1 w2 =>
    ∃ l3 : Sl, (e1 = Ending.returned (Value.slice l3.1 l3.2 l3.3) ∧
     ∀ w4 : World,
     (w4 = World.alloc w2 (Obj.cells (Array.mk []) 51) →
       ∃ I5 : Sl → Int → World → Prop, ∃ I6 : Sl → Int → World → Nat, (I5 (Sl.mk (some (Addr.mk (Array.size (World.heap w2)) 0 none)) 0 0) 0 w4 ∧
        ∀ l7 : Sl,
        ∀ n8 : Int,
        ∀ w9 : World,
        (I5 l7 n8 w9 →
          (((decide (n8 < (↑l3.2 : Int)) = true →
             ((0 ≤ n8 ∧
               n8 < (↑l3.2 : Int)) ∧
              ∃ a10 : Addr, (l3.1 = some a10 ∧
               ∃ s11 : ByteArray, ∃ n12 : Int, ∃ s13 : ByteArray, (Sem.run Tryd.prog (loadVar 51 (Addr.add a10 (Int.toNat n8 * 3))) w9 = Result.ok (Value.agg (Array.mk [Value.string s11, Value.int IntKind.i64 n12, Value.string s13])) w9 ∧
                ∀ w14 : World,
                (w14 = World.alloc w9 (Obj.cells (Array.mk [Value.string (ByteArray.mk (Array.mk [])), Value.int IntKind.i64 0, Value.string (ByteArray.mk (Array.mk []))]) 51) →
                  ∃ w15 : World, (Sem.run Tryd.prog (storeVar 51 (Addr.mk (Array.size (World.heap w9)) 0 none) (Value.agg (Array.mk [Value.string s11, Value.int IntKind.i64 n12, Value.string s13]))) w14 = Result.ok PUnit.unit w15 ∧
                   ((0 ≤ n8 ∧
                     n8 ≤ (↑l3.3 : Int)) ∧
                    ∃ I16 : Int → World → Prop, ∃ I17 : Int → World → Nat, (I16 0 w15 ∧
                     ∀ n18 : Int,
                     ∀ w19 : World,
                     (I16 n18 w19 →
                       (((decide (n18 < (↑(Int.toNat n8) : Int)) = true →
                          ((0 ≤ n18 ∧
                            n18 < (↑(Int.toNat n8) : Int)) ∧
                           ∃ a20 : Addr, (subA l3.1 l3.3 0 3 = some a20 ∧
                            ∃ s21 : ByteArray, ∃ n22 : Int, ∃ s23 : ByteArray, (Sem.run Tryd.prog (loadVar 51 (Addr.add a20 (Int.toNat n18 * 3))) w19 = Result.ok (Value.agg (Array.mk [Value.string s21, Value.int IntKind.i64 n22, Value.string s23])) w19 ∧
                             ∀ w24 : World,
                             (w24 = World.alloc w19 (Obj.cells (Array.mk [Value.string (ByteArray.mk (Array.mk [])), Value.int IntKind.i64 0, Value.string (ByteArray.mk (Array.mk []))]) 51) →
                               ∃ w25 : World, (Sem.run Tryd.prog (storeVar 51 (Addr.mk (Array.size (World.heap w19)) 0 none) (Value.agg (Array.mk [Value.string s21, Value.int IntKind.i64 n22, Value.string s23]))) w24 = Result.ok PUnit.unit w25 ∧
                                ∃ s26 : ByteArray, (World.cell? w25 (Addr.mk (Array.size (World.heap w9)) 0 none) = some (Value.string s26) ∧
                                 ∃ s27 : ByteArray, (World.cell? w25 (Addr.mk (Array.size (World.heap w19)) 0 none) = some (Value.string s27) ∧
                                  ((((ByteArray.toList s26 == ByteArray.toList s27) = true →
                                     Calls Tryd.prog (22 : Nat) (Array.mk []) (w25) (fun e28 w29 =>
                                       ∃ b30 : Bool, (e28 = Ending.returned (Value.bool b30) ∧
                                        R (Value.bool b30) w29)))) ∧
                                   ((ByteArray.toList s26 == ByteArray.toList s27) = false →
                                     (I16 (IntKind.wrap IntKind.i64 (n18 + 1)) w25 ∧
                                      I17 (IntKind.wrap IntKind.i64 (n18 + 1)) w25 < I17 n18 w19)))))))))))) ∧
                        (decide (n18 < (↑(Int.toNat n8) : Int)) = false →
                          ∃ s31 : ByteArray, ∃ n32 : Int, ∃ s33 : ByteArray, (Sem.run Tryd.prog (loadVar 51 (Addr.mk (Array.size (World.heap w9)) 0 none)) w19 = Result.ok (Value.agg (Array.mk [Value.string s31, Value.int IntKind.i64 n32, Value.string s33])) w19 ∧
                           ∀ w34 : World,
                           (w34 = World.alloc w19 (Obj.cells (Array.mk [Value.string s31, Value.int IntKind.i64 n32, Value.string s33]) 51) →
                             ∃ w35 : World, ∃ l36 : Sl, (Sem.run Tryd.prog (Builtin.append_ (Array.mk [47, 47]) 47 (Array.mk [Value.slice (some (Addr.mk (Array.size (World.heap w19)) 0 none)) 1 1, Value.slice l7.1 l7.2 l7.3])) w34 = Result.ok (Value.slice l36.1 l36.2 l36.3) w35 ∧
                              (I5 (Sl.mk l36.1 l36.2 l36.3) (IntKind.wrap IntKind.i64 (n8 + 1)) w35 ∧
                               I6 (Sl.mk l36.1 l36.2 l36.3) (IntKind.wrap IntKind.i64 (n8 + 1)) w35 < I6 l7 n8 w9)))))))))))))))) ∧
           (decide (n8 < (↑l3.2 : Int)) = false →
             Calls Tryd.prog (27 : Nat) (Array.mk [Value.slice l3.1 l3.2 l3.3, Value.string x1]) (w9) (fun e37 w38 =>
               ∃ l39 : Sl, ∃ n40 : Int, (e37 = Ending.returned (Value.tuple (Array.mk [Value.slice l39.1 l39.2 l39.3, Value.int IntKind.i64 n40])) ∧
                Calls Tryd.prog (27 : Nat) (Array.mk [Value.slice l7.1 l7.2 l7.3, Value.string x1]) (w38) (fun e41 w42 =>
                  ∃ l43 : Sl, ∃ n44 : Int, (e41 = Ending.returned (Value.tuple (Array.mk [Value.slice l43.1 l43.2 l43.3, Value.int IntKind.i64 n44])) ∧
                   ((((n40 != n44) = true →
                      R (Value.bool false) w42)) ∧
                    ((n40 != n44) = false →
                      (((((↑l39.2 : Int) != (↑l43.2 : Int)) = true →
                         R (Value.bool false) w42)) ∧
                       (((↑l39.2 : Int) != (↑l43.2 : Int)) = false →
                         ∀ w45 : World,
                         (w45 = World.alloc w42 (Obj.cells (Array.mk []) 37) →
                           ∃ I46 : Sl → Int → World → Prop, ∃ I47 : Sl → Int → World → Nat, (I46 (Sl.mk (some (Addr.mk (Array.size (World.heap w42)) 0 none)) 0 0) 0 w45 ∧
                            ∀ l48 : Sl,
                            ∀ n49 : Int,
                            ∀ w50 : World,
                            (I46 l48 n49 w50 →
                              (((decide (n49 < (↑l39.2 : Int)) = true →
                                 ∀ w51 : World,
                                 (Drew w50 w51 →
                                   ∃ I52 : World → Prop, (I52 w51 ∧
                                    ((0 ≤ n49 ∧
                                      n49 < (↑l39.2 : Int)) ∧
                                     ∃ a53 : Addr, (l39.1 = some a53 ∧
                                      ((0 ≤ n49 ∧
                                        n49 < (↑l43.2 : Int)) ∧
                                       ∃ a54 : Addr, (l43.1 = some a54 ∧
                                        ∃ s55 : ByteArray, ∃ s56 : ByteArray, ((∀ w57 : World,
                                         (I52 w57 →
                                           Sem.run Tryd.prog (loadVar 37 (Addr.add a53 (Int.toNat n49 * 2))) w57 = Result.ok (Value.agg (Array.mk [Value.string s55, Value.string s56])) w57)) ∧
                                         ∃ s58 : ByteArray, ∃ s59 : ByteArray, ((∀ w60 : World,
                                          (I52 w60 →
                                            Sem.run Tryd.prog (loadVar 37 (Addr.add a54 (Int.toNat n49 * 2))) w60 = Result.ok (Value.agg (Array.mk [Value.string s58, Value.string s59])) w60)) ∧
                                          ((((!(ByteArray.toList s55 == ByteArray.toList s58 && ByteArray.toList s56 == ByteArray.toList s59)) = true →
                                             R (Value.bool false) w51)) ∧
                                           ((!(ByteArray.toList s55 == ByteArray.toList s58 && ByteArray.toList s56 == ByteArray.toList s59)) = false →
                                             ((0 ≤ n49 ∧
                                               n49 < (↑l39.2 : Int)) ∧
                                              ∃ a61 : Addr, (l39.1 = some a61 ∧
                                               ∃ s62 : ByteArray, ∃ s63 : ByteArray, (Sem.run Tryd.prog (loadVar 37 (Addr.add a61 (Int.toNat n49 * 2))) w51 = Result.ok (Value.agg (Array.mk [Value.string s62, Value.string s63])) w51 ∧
                                                ∀ w64 : World,
                                                (w64 = World.alloc w51 (Obj.cells (Array.mk [Value.string s62, Value.string s63]) 37) →
                                                  ∃ w65 : World, ∃ l66 : Sl, (Sem.run Tryd.prog (Builtin.append_ (Array.mk [22, 22]) 22 (Array.mk [Value.slice (some (Addr.mk (Array.size (World.heap w51)) 0 none)) 1 1, Value.slice l48.1 l48.2 l48.3])) w64 = Result.ok (Value.slice l66.1 l66.2 l66.3) w65 ∧
                                                   (I46 (Sl.mk l66.1 l66.2 l66.3) (IntKind.wrap IntKind.i64 (n49 + 1)) w65 ∧
                                                    I47 (Sl.mk l66.1 l66.2 l66.3) (IntKind.wrap IntKind.i64 (n49 + 1)) w65 < I47 l48 n49 w50)))))))))))))))))) ∧
                               (decide (n49 < (↑l39.2 : Int)) = false →
                                 ((((n40 != 0) = true →
                                    Calls Tryd.prog (22 : Nat) (Array.mk []) (w50) (fun e67 w68 =>
                                      ∃ b69 : Bool, (e67 = Ending.returned (Value.bool b69) ∧
                                       R (Value.bool b69) w68)))) ∧
                                  ((n40 != 0) = false →
                                    Calls Tryd.prog (30 : Nat) (Array.mk [Value.string (ByteArray.mk (Array.mk [101, 120, 97, 109, 112, 108, 101, 46, 99, 111, 109, 47, 109])), Value.string (ByteArray.mk (Array.mk [118, 49, 46, 48, 46, 48])), Value.slice l39.1 l39.2 l39.3]) (w50) (fun e70 w71 =>
                                      ∃ s72 : ByteArray, ∃ n73 : Int, (e70 = Ending.returned (Value.tuple (Array.mk [Value.string s72, Value.int IntKind.i64 n73])) ∧
                                       Calls Tryd.prog (30 : Nat) (Array.mk [Value.string (ByteArray.mk (Array.mk [101, 120, 97, 109, 112, 108, 101, 46, 99, 111, 109, 47, 109])), Value.string (ByteArray.mk (Array.mk [118, 49, 46, 48, 46, 48])), Value.slice l43.1 l43.2 l43.3]) (w71) (fun e74 w75 =>
                                         ∃ s76 : ByteArray, ∃ n77 : Int, (e74 = Ending.returned (Value.tuple (Array.mk [Value.string s76, Value.int IntKind.i64 n77])) ∧
                                          Calls Tryd.prog (22 : Nat) (Array.mk []) (w75) (fun e78 w79 =>
                                            ∃ b80 : Bool, (e78 = Ending.returned (Value.bool b80) ∧
                                             (((b80 = true →
                                                ((((ByteArray.toList s72 == ByteArray.toList s76) = true →
                                                   ((((n73 == n77) = true →
                                                      Calls Tryd.prog (23 : Nat) (Array.mk [Value.string (ByteArray.mk (Array.mk [109])), Value.string (ByteArray.mk (Array.mk [118])), Value.slice l39.1 l39.2 l39.3]) (w79) (fun e81 w82 =>
                                                        ∃ s83 : ByteArray, (e81 = Ending.returned (Value.string s83) ∧
                                                         Calls Tryd.prog (23 : Nat) (Array.mk [Value.string (ByteArray.mk (Array.mk [109])), Value.string (ByteArray.mk (Array.mk [118])), Value.slice l48.1 l48.2 l48.3]) (w82) (fun e84 w85 =>
                                                           ∃ s86 : ByteArray, (e84 = Ending.returned (Value.string s86) ∧
                                                            R (Value.bool (ByteArray.toList s83 == ByteArray.toList s86)) w85)))))) ∧
                                                    ((n73 == n77) = false →
                                                      R (Value.bool false) w79)))) ∧
                                                 ((ByteArray.toList s72 == ByteArray.toList s76) = false →
                                                   R (Value.bool false) w79)))) ∧
                                              (b80 = false →
                                                R (Value.bool false) w79))))))))))))))))))))))))))))))
theorem vc_cartularylaw24_ModzipTurns_ok {x0a : Option Addr} {x0n : Nat} {x0c : Nat} {x1 : ByteArray} {w : World} {R : Value → World → Prop} {R' : Ending → World → Prop} (h : vc_cartularylaw24_ModzipTurns x0a x0n x0c x1 w R) (hR : ∀ v w', R v w' → R' (.returned v) w') :
    Calls Tryd.prog 11 #[.slice x0a x0n x0c, .string x1] w R' :=
  calls_of_body (vs := [(.slice x0a x0n x0c, false), (.string x1, false)]) (ty := ty) (ann := ⟨[], [(4, [(6, .slice), (26, .int .i64)]), (7, [(35, .int .i64)]), (20, [(15, .slice), (76, .int .i64)])], [(22, .held [(0, true), (1, true), (2, true), (4, true), (5, true), (6, true), (3, true), (7, true), (8, true)])], []⟩) (c := Tryd.f11.body.getD .skip) (by kernel_rfl) Tryd.func11 (by kernel_rfl) (by kernel_rfl) (Eq.mp (by kernel_rfl) h) hR
end Go.Proofs.YtfoeooddnmppnaaDoor

/- Chapter 24's awake, and its Short of items. Conditions: as named. -/
set_option linter.unusedVariables false
namespace Go.Proofs.YtfoeooddnmppnaaDoor
open Go Vc ShaM HexM StabM B64M Go.Proofs

def it0 : List ItE := [⟨⟨#[97, 46, 103, 111]⟩, 33188, ⟨#[120]⟩⟩, ⟨⟨#[115, 117, 98, 47, 103, 111, 46, 109, 111, 100]⟩, 33188, ⟨#[]⟩⟩, ⟨sLic, 33261, ⟨#[]⟩⟩]
def dir0 : ByteArray := ⟨#[115, 117, 98]⟩
def sel0 : List FileE := [⟨sLic, ⟨#[]⟩⟩, ⟨sMod, ⟨#[]⟩⟩]
theorem sel0_is : selE it0 dir0 = [⟨sMod, ⟨#[]⟩⟩, ⟨sLic, ⟨#[]⟩⟩] := by kernel_rfl
theorem dir0_ok : dirOK dir0 = true := by kernel_rfl
theorem chk0 : chkE sel0 = 0 := by kernel_rfl
theorem hash0 : hashE [] = ⟨#[104, 49, 58, 52, 55, 68, 69, 81, 112, 106, 56, 72, 66, 83, 97, 43, 47, 84, 73, 109, 87, 43, 53, 74, 67, 101, 117, 81, 101, 82, 107, 109, 53, 78, 77, 112, 74, 87, 90, 71, 51, 104, 83, 117, 70, 85, 61]⟩ := by kernel_rfl
theorem sel0_all {ys : List FileE} (hp : ys.Perm (selE it0 dir0)) (hs : Srt ltP ys) : ys = sel0 := by
  have h1 : Srt ltP sel0 := List.pairwise_cons.2 ⟨fun y hy => by rw [List.mem_singleton] at hy; subst hy; kernel_rfl, srt_one _⟩
  have hp2 : ys.Perm sel0 := hp.trans (by rw [sel0_is]; exact List.Perm.swap _ _ _)
  have hn : (sel0.map (·.path)).Nodup := by
    unfold sel0
    rw [List.map_cons, List.map_cons, List.map_nil, List.nodup_cons]
    exact ⟨fun h => (by rw [List.mem_singleton] at h; have := congrArg ByteArray.size h; cases this), by simp⟩
  have key : ∀ zs : List FileE, Srt ltP zs → zs.Pairwise fun x y => ¬ y.path.data.toList < x.path.data.toList := fun zs h => h.imp fun h => of_decide_eq_false h
  exact sorted_one hp2 ((hp2.map _).nodup_iff.2 hn) (key _ hs) (key _ h1)
theorem awake24_spec {w : World} (hm : MaxL w) : Calls Tryd.prog F_cartularylaw24_awake #[] w fun e w' => e = .returned (.bool true) ∧ Fr (fun _ => False) w w' := by
  refine vc_cartularylaw24_awake_ok (R := fun v w' => v = .bool true ∧ Fr (fun _ => False) w w') ?_ (fun v w' h => ⟨by rw [h.1], h.2⟩)
  intro w1 h1
  have hf1 : Fr (fun _ => False) w w1 := by rw [h1]; exact .alloc _ _ _
  have hb1 : w1.heap[w.heap.size]? = some (.cells (it0.flatMap encI).toArray T_modzip_Item (0, 0)) := by rw [h1]; exact alloc_new _ _
  have hr : ReadsK encI 3 w1 (some ⟨w.heap.size, 0, none⟩) it0 := fun i x hx => by
    refine ⟨_, rfl, fun j v hv => ?_⟩
    have hj : j < 3 := (List.getElem?_eq_some_iff.1 hv).1
    rw [add_lit, add_lit, cell_blk hb1, List.getElem?_toArray, Nat.zero_add]
    exact flat_get (enc := encI) (k := 3) (fun _ => rfl) it0 i x j v hx hv
  refine (select_spec hr rfl (by decide) (dir := dir0) (by decide +kernel) (by decide +kernel) (by decide) (hm.keep hf1)).mono ?_
  rintro e w3 ⟨v, rfl, hf3, hcase⟩
  rcases hcase with ⟨h, _⟩ | ⟨_, ys, hp, hs, hc⟩
  · rw [dir0_ok] at h; cases h
  have hys := sel0_all hp hs
  subst hys
  rw [chk0] at hc
  rcases hc with ⟨h, _⟩ | ⟨_, l, rfl, ho⟩
  · exact absurd rfl h
  have hl := ho.len
  obtain ⟨ad, had, hrd⟩ := (ho.reads fun _ => rfl) 0 _ rfl
  obtain ⟨ad', had', hrd'⟩ := (ho.reads fun _ => rfl) 1 _ rfl
  rw [had] at had'
  cases had'
  have c0 := hrd 0 _ rfl
  have c1 := hrd' 0 _ rfl
  have hz : ∀ q : Addr, q.add 0 = q := fun q => by cases q; rfl
  rw [hz] at c0 c1
  have hl2 : l.len = 2 := hl
  refine ⟨l, 0, rfl, fun _ => ⟨fun _ => ⟨⟨by decide, by omega⟩, ad, had, _, c0, fun _ => ⟨⟨by decide, by omega⟩, ad, had, _, c1, fun _ => ?_, fun h => (by rw [bs_eq] at h; exact absurd rfl (of_decide_eq_false h))⟩, fun h => (by rw [bs_eq] at h; exact absurd rfl (of_decide_eq_false h))⟩, fun h => (by rw [hl2] at h; cases h)⟩, fun h => (by cases h)⟩
  refine (hash_spec (xs := []) (.nil _ _) rfl (by decide) ⟨#[109]⟩ ⟨#[118]⟩ (by simp) (by decide) (by simp)).mono ?_
  rintro e w11 ⟨ys, rfl, hp, _, _, hf11⟩
  have hy0 : ys = [] := List.perm_nil.1 hp
  subst hy0
  refine ⟨_, rfl, ?_, (hf1.trans' hf3).trans' hf11⟩
  rw [hash0, bs_eq, decide_eq_true rfl]
/-- An item of at most 400 bytes. -/
def cutI (x : ItE) : ItE := ⟨x.path, x.mode, fewB x.data 400⟩
def shortI (xs : List ItE) (m : Nat) : List ItE := (xs.take m).map cutI
theorem short24_spec {w : World} {a : Option Addr} {n c : Nat} {xs : List ItE} (hr : ReadsK encI 3 w a xs) (hn : xs.length = n) (m : Nat) (hm : m ≤ 1000) : Calls Tryd.prog F_cartularylaw24_Short #[.slice a n c, .int .i64 m] w fun e w' =>
    ∃ l, e = .returned (.slice l.a l.len l.cap) ∧ OwnK encI 3 w' w.heap.size T_modzip_Item l (shortI xs m) ∧ Fr (fun _ => False) w w' := by
  refine vc_cartularylaw24_Short_ok (R := fun v w' => ∃ l : Sl, v = .slice l.a l.len l.cap ∧ OwnK encI 3 w' w.heap.size T_modzip_Item l (shortI xs m) ∧ Fr (fun _ => False) w w') ?_ (fun v w' ⟨l, h⟩ => ⟨l, by rw [h.1], h.2⟩)
  intro w1 h1
  have hf1 : Fr (fun _ => False) w w1 := by rw [h1]; exact .alloc _ _ _
  have ho1 : OwnK encI 3 w1 w.heap.size T_modzip_Item ⟨some ⟨w.heap.size, 0, none⟩, 0, 0⟩ [] := by rw [h1]; exact .empty w T_modzip_Item
  refine ⟨fun l i w' => ∃ k : Nat, i = k ∧ k ≤ xs.length ∧ k ≤ m ∧ OwnK encI 3 w' w.heap.size T_modzip_Item l ((xs.take k).map cutI) ∧ Fr (fun _ => False) w w', fun _ i _ => xs.length - i.toNat, ⟨0, rfl, Nat.zero_le _, Nat.zero_le _, ho1, hf1⟩, ?_⟩
  rintro l i w6 ⟨k, rfl, hk, hkm, ho, hf⟩
  refine ⟨fun hlt => ⟨fun hlm => ?_, fun hge => ⟨l, rfl, ?_, hf⟩⟩, fun hge => ⟨l, rfl, ?_, hf⟩⟩
  · have hlt := of_decide_eq_true hlt
    have hlm := of_decide_eq_true hlm
    have hkl : k < xs.length := by omega
    have hx : xs[k]? = some xs[k] := List.getElem?_eq_getElem hkl
    have htk : xs.take (k + 1) = xs.take k ++ [xs[k]] := (List.take_append_getElem hkl).symm
    generalize xs[k] = x at hx htk
    obtain ⟨ad, had, hld⟩ := ((hr.keep hf (by simp)).load elI hx)
    refine ⟨⟨by omega, by omega⟩, ad, had, x.path, x.mode, x.data, by rw [Int.toNat_natCast]; exact hld, fun w11 h11 => ?_⟩
    subst h11
    have hbb : (w6.alloc (.cells (encI x).toArray T_modzip_Item)).heap[w6.heap.size]? = some (.cells (encI x).toArray T_modzip_Item (0, 0)) := alloc_new _ _
    have hfb : Fr (fun _ => False) w6 (w6.alloc (.cells (encI x).toArray T_modzip_Item)) := .alloc _ _ _
    refine ⟨_, boxI_run w6 x, x.data, by rw [cell_blk hbb]; rfl, (fewS_spec x.data 400 _).mono ?_⟩
    rintro e w15 ⟨rfl, hw⟩
    replace hw := hw.symm
    subst hw
    refine ⟨_, rfl, wr_blk hbb (by simp [encI]), fun w17 h17 => ?_⟩
    have hb17 : w17.heap[w6.heap.size]? = some (.cells (encI (cutI x)).toArray T_modzip_Item (0, 0)) := by rw [h17, set_blk hbb]; rfl
    have hf17 : Fr (fun _ => False) w6 w17 := by
      rw [h17]
      exact hfb.trans (Fr.set (· = w6.heap.size) _ _ rfl) fun q hq e => by omega
    refine ⟨_, _, _, boxI_load hb17, fun w21 h21 => ?_⟩
    have hfl : ((xs.take k).map cutI).length ≤ 1000 := by rw [List.length_map, List.length_take]; omega
    obtain ⟨w22, l23, hr22, ho22, hf22, _⟩ := append_oneK elI (ho.keep hf17 (by simp)) (x := cutI x) (by unfold maxLen; omega) (by omega) (by have := hf17.size; have := hf.size; omega) h21
    have e1 : IntKind.i64.wrap ((k : Int) + 1) = ((k + 1 : Nat) : Int) := by rw [wrap_i64 (by omega) (by omega)]; omega
    rw [e1]
    refine ⟨w22, l23, hr22, ⟨k + 1, rfl, by omega, by omega, by rw [htk, List.map_append]; exact ho22, (hf.trans' hf17).trans hf22 fun q hq ⟨y, hy, e⟩ => by have := (ho.blk hy).1; omega⟩, by dsimp only; omega⟩
  · have hge := of_decide_eq_false hge
    have : k = m := by omega
    subst this
    exact ho
  · have hge := of_decide_eq_false hge
    have : k = xs.length := by omega
    unfold shortI
    rw [List.take_of_length_le (by omega : xs.length ≤ m)]
    rw [this, List.take_length] at ho
    exact ho
theorem shortI_facts {xs : List ItE} (m : Nat) : (shortI xs m).length ≤ m ∧ ∀ x ∈ shortI xs m, x.data.size ≤ 400 ∧ ∃ y ∈ xs, x.path = y.path := by
  refine ⟨by unfold shortI; rw [List.length_map, List.length_take]; omega, fun x hx => ?_⟩
  obtain ⟨y, hy, rfl⟩ := List.mem_map.1 hx
  exact ⟨(fewB_size _ _).1, y, List.mem_of_mem_take hy, rfl⟩
end Go.Proofs.YtfoeooddnmppnaaDoor

/- ModzipHashed: a hash has 47 letters and hangs on nothing else than the files. Conditions: what comes in is within the reach. -/
set_option linter.unusedVariables false
namespace Go.Proofs.YtfoeooddnmppnaaDoor
open Go Vc ShaM HexM StabM B64M Go.Proofs

theorem hashE_head (ys : List FileE) : (hashE ys).extract 0 3 = ⟨#[104, 49, 58]⟩ := by
  refine bs_ext ?_
  unfold hashE
  rw [bs_head, bs_app]; rfl
theorem front_size (m v : ByteArray) : (frontE m v).size = m.size + v.size + 2 := by
  unfold frontE
  rw [ByteArray.size_append, ByteArray.size_append, ByteArray.size_append]
  show m.size + 1 + v.size + 1 = _
  omega
theorem shortF_sz {xs : List FileE} {m N : Nat} (hb : ∀ x ∈ xs, x.path.size ≤ N ∧ x.data.size ≤ N) : (shortF xs m).length ≤ m ∧ ∀ x ∈ shortF xs m, x.path.size ≤ N ∧ x.data.size ≤ 400 := by
  refine ⟨by unfold shortF; rw [List.length_map, List.length_take]; omega, fun x hx => ?_⟩
  obtain ⟨y, hy, rfl⟩ := List.mem_map.1 hx
  exact ⟨(hb y (List.mem_of_mem_take hy)).1, (fewB_size _ _).1⟩
def fAn : FileE := ⟨⟨#[97, 110, 111, 116, 104, 101, 114]⟩, ⟨#[120]⟩⟩
theorem hashed_walk {a : Option Addr} {n c : Nat} {W : World} {xs : List FileE} (hr : ReadsK encF 2 W a xs) (hn : xs.length = n) (hc : n ≤ c) (hb : ∀ x ∈ xs, x.path.size ≤ reachBytes ∧ x.data.size ≤ reachBytes) (m : ByteArray) (hm : m.size ≤ reachBytes) (v : ByteArray) (hv : v.size ≤ reachBytes) (hml : MaxL W) :
    Calls Tryd.prog F_cartularylaw24_ModzipHashed #[.slice a n c, .string m, .string v] W fun e w' => e = .returned (.bool true) ∧ RowKit.Below W.heap.size W w' := by
  refine vc_cartularylaw24_ModzipHashed_ok (R := fun u w' => u = .bool true ∧ Fr (fun _ => False) W w') ?_ (fun u w' h => ⟨by rw [h.1], (h.2.mono fun _ _ h => h.elim : Fr (fun k => W.heap.size ≤ k) W w').below (Nat.le_refl _)⟩)
  have hrb : reachBytes ≤ 140737488355328 := by decide
  obtain ⟨hl20, hsz⟩ := shortF_sz (m := 20) hb
  have hfs := front_size m v
  have hpre : ∀ x ∈ shortF xs 20, (frontE m v).size + x.path.size ≤ 562949953421312 := fun x hx => by have := (hsz x hx).1; omega
  have hdat : ∀ x ∈ shortF xs 20, x.data.size ≤ 1000000 := fun x hx => by have := (hsz x hx).2; omega
  refine (short09_spec hr hn hc 20 (by decide)).mono ?_
  rintro e w2 ⟨l3, rfl, ho2, hf2⟩
  refine ⟨l3, rfl, (hash_spec (ho2.reads fun _ => rfl) ho2.1 (by have := ho2.1; omega) m v hpre (by omega) hdat).mono ?_⟩
  rintro e w5 ⟨ys, rfl, _, _, hi5, hf5⟩
  have hf5' := hf2.trans' hf5
  refine ⟨_, rfl, fun h => (by rw [hashE_size] at h; cases h), fun _ => ⟨⟨by decide, by rw [hashE_size]; decide⟩, fun h => ?_, fun _ => ?_⟩⟩
  · rw [show Int.toNat 3 = 3 from rfl, hashE_head, bs_eq, decide_eq_true rfl] at h; cases h
  refine (short09_spec (hr.keep hf5' (by simp)) hn hc 20 (by decide)).mono ?_
  rintro e w8 ⟨l9, rfl, ho8, hf8⟩
  refine ⟨l9, rfl, (hash_spec (ho8.reads fun _ => rfl) ho8.1 (by have := ho8.1; omega) m v hpre (by omega) hdat).mono ?_⟩
  rintro e w11 ⟨zs, rfl, _, _, hi11, hf11⟩
  have hf11' := (hf5'.trans' hf8).trans' hf11
  have hyz : ys = zs := (hi5 hl20).trans (hi11 hl20).symm
  refine ⟨_, rfl, fun h => (by rw [hyz, bs_eq, decide_eq_true rfl] at h; cases h), fun _ => ?_⟩
  refine (short09_spec (hr.keep hf11' (by simp)) hn hc 20 (by decide)).mono ?_
  rintro e w14 ⟨l15, rfl, ho14, hf14⟩
  refine ⟨l15, rfl, fun w16 h16 => ?_⟩
  obtain ⟨w17, l18, hr17, ho17, hf17, _⟩ := append_oneK elF ho14 (x := fAn) (by unfold maxLen; omega) (by omega) hf14.size h16
  have hf17' : Fr (fun _ => False) W w17 := (hf11'.trans' hf14).trans hf17 fun q hq ⟨y, hy, e⟩ => by have := (ho14.blk hy).1; have := hf11'.size; omega
  refine ⟨w17, l18, hr17, (awake24_spec (hml.keep hf17')).mono ?_⟩
  rintro e w20 ⟨rfl, hf20⟩
  refine ⟨_, rfl, fun _ => ?_, fun h => (by cases h)⟩
  have ho20 := ho17.keep hf20 (by simp)
  have hf20' := hf17'.trans' hf20
  have hl21 : (shortF xs 20 ++ [fAn]).length ≤ 21 := by rw [List.length_append]; simp; omega
  refine (hash_spec (ho20.reads fun _ => rfl) ho20.1 (by have := ho20.1; omega) m v (fun x hx => ?_) (by omega) (fun x hx => ?_)).mono ?_
  · rcases List.mem_append.1 hx with hx | hx
    · exact hpre x hx
    · rw [List.mem_singleton] at hx
      subst hx
      have : fAn.path.size = 7 := rfl
      omega
  · rcases List.mem_append.1 hx with hx | hx
    · exact hdat x hx
    · rw [List.mem_singleton] at hx
      subst hx
      have : fAn.data.size = 1 := rfl
      omega
  rintro e w23 ⟨us, rfl, _, _, _, hf23⟩
  refine ⟨_, rfl, fun _ => ⟨?_, ?_, ?_⟩, fun h => (by rw [hashE_size] at h; cases h)⟩
  · show m.size + 1 ≤ 9223372036854775807
    omega
  · rw [ByteArray.size_append]
    show m.size + 1 + v.size ≤ 9223372036854775807
    omega
  have hmv : (m ++ (⟨#[64]⟩ : ByteArray) ++ v).size = m.size + 1 + v.size := by rw [ByteArray.size_append, ByteArray.size_append]; rfl
  have hbnd : (m ++ (⟨#[64]⟩ : ByteArray) ++ v).size + (⟨#[]⟩ : ByteArray).size ≤ 4611686018427387904 := by
    have h0 : (⟨#[]⟩ : ByteArray).size = 0 := rfl
    rw [hmv, h0]; omega
  refine (hash_spec (xs := []) (c := 0) (.nil w23 none) rfl (by decide) (m ++ (⟨#[64]⟩ : ByteArray) ++ v) (⟨#[]⟩ : ByteArray) (fun x hx => by simp at hx) hbnd (fun x hx => by simp at hx)).mono ?_
  rintro e w26 ⟨p1, rfl, hp1, _, _, hf26⟩
  refine ⟨_, rfl, (hash_spec (xs := []) (.nil _ _) rfl (by decide) m v (by simp) (by omega) (by simp)).mono ?_⟩
  rintro e w29 ⟨p2, rfl, hp2, _, _, hf29⟩
  rw [List.perm_nil.1 hp1, List.perm_nil.1 hp2]
  exact ⟨_, rfl, by rw [bs_eq, decide_eq_true rfl], ((hf20'.trans' hf23).trans' hf26).trans' hf29⟩
end Go.Proofs.YtfoeooddnmppnaaDoor

/- Formulas of 4 Go functions of this seat (written by a program of the author's, vcgen.py), and that each is enough for the call. No condition. -/
set_option linter.unusedVariables false
namespace Go.Proofs.YtfoeooddnmppnaaDoor
open Go Vc Go.Proofs
set_option maxRecDepth 100000
/-- cartularyref24.put -/
def vc_cartularyref24_put (x0a : Option Addr) (x0n : Nat) (x0c : Nat) (x1_0 : ByteArray) (x1_1 : ByteArray) (w : World) (R : Value → World → Prop) : Prop :=
  ∀ w1 : World,
  (w1 = World.alloc w (Obj.cells (Array.mk [Value.string x1_0, Value.string x1_1]) 37) →
    ∀ w2 : World,
    (w2 = World.alloc w1 (Obj.cells (Array.mk []) 37) →
      ∃ I3 : Sl → Bool → Int → World → Prop, ∃ I4 : Sl → Bool → Int → World → Nat, (I3 (Sl.mk (some (Addr.mk (Array.size (World.heap w1)) 0 none)) 0 0) false 0 w2 ∧
       ∀ l5 : Sl,
       ∀ b6 : Bool,
       ∀ n7 : Int,
       ∀ w8 : World,
       (I3 l5 b6 n7 w8 →
         (((decide (n7 < (↑x0n : Int)) = true →
            ((0 ≤ n7 ∧
              n7 < (↑x0n : Int)) ∧
             ∃ a9 : Addr, (x0a = some a9 ∧
              ∃ s10 : ByteArray, ∃ s11 : ByteArray, (Sem.run Tryd.prog (loadVar 37 (Addr.add a9 (Int.toNat n7 * 2))) w8 = Result.ok (Value.agg (Array.mk [Value.string s10, Value.string s11])) w8 ∧
               ∀ w12 : World,
               (w12 = World.alloc w8 (Obj.cells (Array.mk [Value.string (ByteArray.mk (Array.mk [])), Value.string (ByteArray.mk (Array.mk []))]) 37) →
                 ∃ w13 : World, (Sem.run Tryd.prog (storeVar 37 (Addr.mk (Array.size (World.heap w8)) 0 none) (Value.agg (Array.mk [Value.string s10, Value.string s11]))) w12 = Result.ok PUnit.unit w13 ∧
                  ((((!b6) = true →
                     ∃ s14 : ByteArray, (World.cell? w13 (Addr.mk (Array.size (World.heap w8)) 0 none) = some (Value.string s14) ∧
                      ∃ s15 : ByteArray, (World.cell? w13 (Addr.mk (Array.size (World.heap w)) 0 none) = some (Value.string s15) ∧
                       ((((!(Op.bytesLess (ByteArray.toList s14) (ByteArray.toList s15) || ByteArray.toList s14 == ByteArray.toList s15)) = true →
                          ∃ s16 : ByteArray, ∃ s17 : ByteArray, (Sem.run Tryd.prog (loadVar 37 (Addr.mk (Array.size (World.heap w)) 0 none)) w13 = Result.ok (Value.agg (Array.mk [Value.string s16, Value.string s17])) w13 ∧
                           ∀ w18 : World,
                           (w18 = World.alloc w13 (Obj.cells (Array.mk [Value.string s16, Value.string s17]) 37) →
                             ∃ w19 : World, ∃ l20 : Sl, (Sem.run Tryd.prog (Builtin.append_ (Array.mk [22, 22]) 22 (Array.mk [Value.slice l5.1 l5.2 l5.3, Value.slice (some (Addr.mk (Array.size (World.heap w13)) 0 none)) 1 1])) w18 = Result.ok (Value.slice l20.1 l20.2 l20.3) w19 ∧
                              ∃ s21 : ByteArray, ∃ s22 : ByteArray, (Sem.run Tryd.prog (loadVar 37 (Addr.mk (Array.size (World.heap w8)) 0 none)) w19 = Result.ok (Value.agg (Array.mk [Value.string s21, Value.string s22])) w19 ∧
                               ∀ w23 : World,
                               (w23 = World.alloc w19 (Obj.cells (Array.mk [Value.string s21, Value.string s22]) 37) →
                                 ∃ w24 : World, ∃ l25 : Sl, (Sem.run Tryd.prog (Builtin.append_ (Array.mk [22, 22]) 22 (Array.mk [Value.slice l20.1 l20.2 l20.3, Value.slice (some (Addr.mk (Array.size (World.heap w19)) 0 none)) 1 1])) w23 = Result.ok (Value.slice l25.1 l25.2 l25.3) w24 ∧
                                  (I3 (Sl.mk l25.1 l25.2 l25.3) true (IntKind.wrap IntKind.i64 (n7 + 1)) w24 ∧
                                   I4 (Sl.mk l25.1 l25.2 l25.3) true (IntKind.wrap IntKind.i64 (n7 + 1)) w24 < I4 l5 b6 n7 w8))))))))) ∧
                        ((!(Op.bytesLess (ByteArray.toList s14) (ByteArray.toList s15) || ByteArray.toList s14 == ByteArray.toList s15)) = false →
                          ∃ s26 : ByteArray, ∃ s27 : ByteArray, (Sem.run Tryd.prog (loadVar 37 (Addr.mk (Array.size (World.heap w8)) 0 none)) w13 = Result.ok (Value.agg (Array.mk [Value.string s26, Value.string s27])) w13 ∧
                           ∀ w28 : World,
                           (w28 = World.alloc w13 (Obj.cells (Array.mk [Value.string s26, Value.string s27]) 37) →
                             ∃ w29 : World, ∃ l30 : Sl, (Sem.run Tryd.prog (Builtin.append_ (Array.mk [22, 22]) 22 (Array.mk [Value.slice l5.1 l5.2 l5.3, Value.slice (some (Addr.mk (Array.size (World.heap w13)) 0 none)) 1 1])) w28 = Result.ok (Value.slice l30.1 l30.2 l30.3) w29 ∧
                              (I3 (Sl.mk l30.1 l30.2 l30.3) b6 (IntKind.wrap IntKind.i64 (n7 + 1)) w29 ∧
                               I4 (Sl.mk l30.1 l30.2 l30.3) b6 (IntKind.wrap IntKind.i64 (n7 + 1)) w29 < I4 l5 b6 n7 w8)))))))))) ∧
                   ((!b6) = false →
                     ∃ s31 : ByteArray, ∃ s32 : ByteArray, (Sem.run Tryd.prog (loadVar 37 (Addr.mk (Array.size (World.heap w8)) 0 none)) w13 = Result.ok (Value.agg (Array.mk [Value.string s31, Value.string s32])) w13 ∧
                      ∀ w33 : World,
                      (w33 = World.alloc w13 (Obj.cells (Array.mk [Value.string s31, Value.string s32]) 37) →
                        ∃ w34 : World, ∃ l35 : Sl, (Sem.run Tryd.prog (Builtin.append_ (Array.mk [22, 22]) 22 (Array.mk [Value.slice l5.1 l5.2 l5.3, Value.slice (some (Addr.mk (Array.size (World.heap w13)) 0 none)) 1 1])) w33 = Result.ok (Value.slice l35.1 l35.2 l35.3) w34 ∧
                         (I3 (Sl.mk l35.1 l35.2 l35.3) b6 (IntKind.wrap IntKind.i64 (n7 + 1)) w34 ∧
                          I4 (Sl.mk l35.1 l35.2 l35.3) b6 (IntKind.wrap IntKind.i64 (n7 + 1)) w34 < I4 l5 b6 n7 w8))))))))))))) ∧
          (decide (n7 < (↑x0n : Int)) = false →
            ((((!b6) = true →
               ∃ s36 : ByteArray, ∃ s37 : ByteArray, (Sem.run Tryd.prog (loadVar 37 (Addr.mk (Array.size (World.heap w)) 0 none)) w8 = Result.ok (Value.agg (Array.mk [Value.string s36, Value.string s37])) w8 ∧
                ∀ w38 : World,
                (w38 = World.alloc w8 (Obj.cells (Array.mk [Value.string s36, Value.string s37]) 37) →
                  ∃ w39 : World, ∃ l40 : Sl, (Sem.run Tryd.prog (Builtin.append_ (Array.mk [22, 22]) 22 (Array.mk [Value.slice l5.1 l5.2 l5.3, Value.slice (some (Addr.mk (Array.size (World.heap w8)) 0 none)) 1 1])) w38 = Result.ok (Value.slice l40.1 l40.2 l40.3) w39 ∧
                   R (Value.slice l40.1 l40.2 l40.3) w39))))) ∧
             ((!b6) = false →
               R (Value.slice l5.1 l5.2 l5.3) w8))))))))
theorem vc_cartularyref24_put_ok {x0a : Option Addr} {x0n : Nat} {x0c : Nat} {x1_0 : ByteArray} {x1_1 : ByteArray} {w : World} {R : Value → World → Prop} {R' : Ending → World → Prop} (h : vc_cartularyref24_put x0a x0n x0c x1_0 x1_1 w R) (hR : ∀ v w', R v w' → R' (.returned v) w') :
    Calls Tryd.prog 102 #[.slice x0a x0n x0c, .agg #[.string x1_0, .string x1_1]] w R' :=
  calls_of_body (vs := [(.slice x0a x0n x0c, false), (.agg #[.string x1_0, .string x1_1], false)]) (ty := ty) (ann := ⟨[], [(4, [(5, .slice), (6, .bool), (12, .int .i64)])], [], []⟩) (c := Tryd.f102.body.getD .skip) (by kernel_rfl) Tryd.func102 (by kernel_rfl) (by kernel_rfl) (Eq.mp (by kernel_rfl) h) hR
/-- cartularyref24.Sorted -/
def vc_cartularyref24_Sorted (x0a : Option Addr) (x0n : Nat) (x0c : Nat) (w : World) (R : Value → World → Prop) : Prop :=
  ∀ w1 : World,
  (w1 = World.alloc w (Obj.cells (Array.mk []) 37) →
    ∃ I2 : Sl → Int → World → Prop, ∃ I3 : Sl → Int → World → Nat, (I2 (Sl.mk (some (Addr.mk (Array.size (World.heap w)) 0 none)) 0 0) 0 w1 ∧
     ∀ l4 : Sl,
     ∀ n5 : Int,
     ∀ w6 : World,
     (I2 l4 n5 w6 →
       (((decide (n5 < (↑x0n : Int)) = true →
          ((0 ≤ n5 ∧
            n5 < (↑x0n : Int)) ∧
           ∃ a7 : Addr, (x0a = some a7 ∧
            ∃ s8 : ByteArray, ∃ s9 : ByteArray, (Sem.run Tryd.prog (loadVar 37 (Addr.add a7 (Int.toNat n5 * 2))) w6 = Result.ok (Value.agg (Array.mk [Value.string s8, Value.string s9])) w6 ∧
             ∀ w10 : World,
             (w10 = World.alloc w6 (Obj.cells (Array.mk [Value.string (ByteArray.mk (Array.mk [])), Value.string (ByteArray.mk (Array.mk []))]) 37) →
               ∃ w11 : World, (Sem.run Tryd.prog (storeVar 37 (Addr.mk (Array.size (World.heap w6)) 0 none) (Value.agg (Array.mk [Value.string s8, Value.string s9]))) w10 = Result.ok PUnit.unit w11 ∧
                ∃ s12 : ByteArray, ∃ s13 : ByteArray, (Sem.run Tryd.prog (loadVar 37 (Addr.mk (Array.size (World.heap w6)) 0 none)) w11 = Result.ok (Value.agg (Array.mk [Value.string s12, Value.string s13])) w11 ∧
                 Calls Tryd.prog (102 : Nat) (Array.mk [Value.slice l4.1 l4.2 l4.3, Value.agg (Array.mk [Value.string s12, Value.string s13])]) (w11) (fun e14 w15 =>
                   ∃ l16 : Sl, (e14 = Ending.returned (Value.slice l16.1 l16.2 l16.3) ∧
                    (I2 (Sl.mk l16.1 l16.2 l16.3) (IntKind.wrap IntKind.i64 (n5 + 1)) w15 ∧
                     I3 (Sl.mk l16.1 l16.2 l16.3) (IntKind.wrap IntKind.i64 (n5 + 1)) w15 < I3 l4 n5 w6))))))))))) ∧
        (decide (n5 < (↑x0n : Int)) = false →
          R (Value.slice l4.1 l4.2 l4.3) w6)))))
theorem vc_cartularyref24_Sorted_ok {x0a : Option Addr} {x0n : Nat} {x0c : Nat} {w : World} {R : Value → World → Prop} {R' : Ending → World → Prop} (h : vc_cartularyref24_Sorted x0a x0n x0c w R) (hR : ∀ v w', R v w' → R' (.returned v) w') :
    Calls Tryd.prog 55 #[.slice x0a x0n x0c] w R' :=
  calls_of_body (vs := [(.slice x0a x0n x0c, false)]) (ty := ty) (ann := ⟨[], [(3, [(3, .slice), (9, .int .i64)])], [], []⟩) (c := Tryd.f55.body.getD .skip) (by kernel_rfl) Tryd.func55 (by kernel_rfl) (by kernel_rfl) (Eq.mp (by kernel_rfl) h) hR
/-- cartularyref24.Ahead -/
def vc_cartularyref24_Ahead (x0a : Option Addr) (x0n : Nat) (x0c : Nat) (x1 : ByteArray) (x2 : ByteArray) (w : World) (R : Value → World → Prop) : Prop :=
  ∀ w1 : World,
  (w1 = World.alloc w (Obj.cells (Array.mk []) 37) →
    ∃ I2 : Sl → Int → World → Prop, ∃ I3 : Sl → Int → World → Nat, (I2 (Sl.mk (some (Addr.mk (Array.size (World.heap w)) 0 none)) 0 0) 0 w1 ∧
     ∀ l4 : Sl,
     ∀ n5 : Int,
     ∀ w6 : World,
     (I2 l4 n5 w6 →
       (((decide (n5 < (↑x0n : Int)) = true →
          ((0 ≤ n5 ∧
            n5 < (↑x0n : Int)) ∧
           ∃ a7 : Addr, (x0a = some a7 ∧
            ∃ s8 : ByteArray, ∃ s9 : ByteArray, (Sem.run Tryd.prog (loadVar 37 (Addr.add a7 (Int.toNat n5 * 2))) w6 = Result.ok (Value.agg (Array.mk [Value.string s8, Value.string s9])) w6 ∧
             ∀ w10 : World,
             (w10 = World.alloc w6 (Obj.cells (Array.mk [Value.string (ByteArray.mk (Array.mk [])), Value.string (ByteArray.mk (Array.mk []))]) 37) →
               ∃ w11 : World, (Sem.run Tryd.prog (storeVar 37 (Addr.mk (Array.size (World.heap w6)) 0 none) (Value.agg (Array.mk [Value.string s8, Value.string s9]))) w10 = Result.ok PUnit.unit w11 ∧
                (ByteArray.size x1 + ByteArray.size (ByteArray.mk (Array.mk [64])) ≤ 9223372036854775807 ∧
                 (ByteArray.size (x1 ++ ByteArray.mk (Array.mk [64])) + ByteArray.size x2 ≤ 9223372036854775807 ∧
                  (ByteArray.size (x1 ++ ByteArray.mk (Array.mk [64]) ++ x2) + ByteArray.size (ByteArray.mk (Array.mk [47])) ≤ 9223372036854775807 ∧
                   ∃ s12 : ByteArray, (World.cell? w11 (Addr.mk (Array.size (World.heap w6)) 0 none) = some (Value.string s12) ∧
                    (ByteArray.size (x1 ++ ByteArray.mk (Array.mk [64]) ++ x2 ++ ByteArray.mk (Array.mk [47])) + ByteArray.size s12 ≤ 9223372036854775807 ∧
                     ∃ s13 : ByteArray, (World.cell? w11 (Addr.mk (Array.size (World.heap w6)) 1 none) = some (Value.string s13) ∧
                      ∀ w14 : World,
                      (w14 = World.alloc w11 (Obj.cells (Array.mk [Value.string (x1 ++ ByteArray.mk (Array.mk [64]) ++ x2 ++ ByteArray.mk (Array.mk [47]) ++ s12), Value.string s13]) 37) →
                        ∃ w15 : World, ∃ l16 : Sl, (Sem.run Tryd.prog (Builtin.append_ (Array.mk [22, 22]) 22 (Array.mk [Value.slice l4.1 l4.2 l4.3, Value.slice (some (Addr.mk (Array.size (World.heap w11)) 0 none)) 1 1])) w14 = Result.ok (Value.slice l16.1 l16.2 l16.3) w15 ∧
                         (I2 (Sl.mk l16.1 l16.2 l16.3) (IntKind.wrap IntKind.i64 (n5 + 1)) w15 ∧
                          I3 (Sl.mk l16.1 l16.2 l16.3) (IntKind.wrap IntKind.i64 (n5 + 1)) w15 < I3 l4 n5 w6)))))))))))))))) ∧
        (decide (n5 < (↑x0n : Int)) = false →
          R (Value.slice l4.1 l4.2 l4.3) w6)))))
theorem vc_cartularyref24_Ahead_ok {x0a : Option Addr} {x0n : Nat} {x0c : Nat} {x1 : ByteArray} {x2 : ByteArray} {w : World} {R : Value → World → Prop} {R' : Ending → World → Prop} (h : vc_cartularyref24_Ahead x0a x0n x0c x1 x2 w R) (hR : ∀ v w', R v w' → R' (.returned v) w') :
    Calls Tryd.prog 56 #[.slice x0a x0n x0c, .string x1, .string x2] w R' :=
  calls_of_body (vs := [(.slice x0a x0n x0c, false), (.string x1, false), (.string x2, false)]) (ty := ty) (ann := ⟨[], [(3, [(7, .slice), (13, .int .i64)])], [], []⟩) (c := Tryd.f56.body.getD .skip) (by kernel_rfl) Tryd.func56 (by kernel_rfl) (by kernel_rfl) (Eq.mp (by kernel_rfl) h) hR
/-- cartularyref24.Hash -/
def vc_cartularyref24_Hash (x0 : ByteArray) (x1 : ByteArray) (x2a : Option Addr) (x2n : Nat) (x2c : Nat) (x3a : Option Addr) (x3n : Nat) (x3c : Nat) (w : World) (R : Value → World → Prop) : Prop :=
  Calls Tryd.prog (56 : Nat) (Array.mk [Value.slice x2a x2n x2c, Value.string x0, Value.string x1]) (w) (fun e1 w2 =>
    ∃ l3 : Sl, (e1 = Ending.returned (Value.slice l3.1 l3.2 l3.3) ∧
     Calls Tryd.prog (55 : Nat) (Array.mk [Value.slice l3.1 l3.2 l3.3]) (w2) (fun e4 w5 =>
       ∃ l6 : Sl, (e4 = Ending.returned (Value.slice l6.1 l6.2 l6.3) ∧
        ∃ I7 : ByteArray → Int → World → Prop, ∃ I8 : ByteArray → Int → World → Nat, (I7 (ByteArray.mk (Array.mk [])) 0 w5 ∧
         ∀ s9 : ByteArray,
         ∀ n10 : Int,
         ∀ w11 : World,
         (I7 s9 n10 w11 →
           (((decide (n10 < (↑l6.2 : Int)) = true →
              ((0 ≤ n10 ∧
                n10 < (↑l6.2 : Int)) ∧
               ∃ a12 : Addr, (l6.1 = some a12 ∧
                ∃ s13 : ByteArray, ∃ s14 : ByteArray, (Sem.run Tryd.prog (loadVar 37 (Addr.add a12 (Int.toNat n10 * 2))) w11 = Result.ok (Value.agg (Array.mk [Value.string s13, Value.string s14])) w11 ∧
                 ∀ w15 : World,
                 (w15 = World.alloc w11 (Obj.cells (Array.mk [Value.string (ByteArray.mk (Array.mk [])), Value.string (ByteArray.mk (Array.mk []))]) 37) →
                   ∃ w16 : World, (Sem.run Tryd.prog (storeVar 37 (Addr.mk (Array.size (World.heap w11)) 0 none) (Value.agg (Array.mk [Value.string s13, Value.string s14]))) w15 = Result.ok PUnit.unit w16 ∧
                    ∀ w17 : World,
                    (Drew w16 w17 →
                      ∃ I18 : World → Prop, (I18 w17 ∧
                       ∃ s19 : ByteArray, ((∀ w20 : World,
                        (I18 w20 →
                          World.cell? w20 (Addr.mk (Array.size (World.heap w11)) 1 none) = some (Value.string s19))) ∧
                        ∃ s21 : ByteArray, ((∀ w22 : World,
                         (I18 w22 →
                           World.cell? w22 (Addr.mk (Array.size (World.heap w11)) 0 none) = some (Value.string s21))) ∧
                         Calls Tryd.prog (58 : Nat) (Array.mk [Value.string s19, Value.slice x3a x3n x3c]) (w17) (fun e23 w24 =>
                           ∃ s25 : ByteArray, (e23 = Ending.returned (Value.string s25) ∧
                            (I18 w24 ∧
                             Calls Tryd.prog (57 : Nat) (Array.mk [Value.string s25]) (w24) (fun e26 w27 =>
                               ∃ s28 : ByteArray, (e26 = Ending.returned (Value.string s28) ∧
                                (I18 w27 ∧
                                 (ByteArray.size s28 + ByteArray.size (ByteArray.mk (Array.mk [32, 32])) ≤ 9223372036854775807 ∧
                                  (ByteArray.size (s28 ++ ByteArray.mk (Array.mk [32, 32])) + ByteArray.size s21 ≤ 9223372036854775807 ∧
                                   (ByteArray.size (s28 ++ ByteArray.mk (Array.mk [32, 32]) ++ s21) + ByteArray.size (ByteArray.mk (Array.mk [10])) ≤ 9223372036854775807 ∧
                                    (ByteArray.size s9 + ByteArray.size (s28 ++ ByteArray.mk (Array.mk [32, 32]) ++ s21 ++ ByteArray.mk (Array.mk [10])) ≤ 9223372036854775807 ∧
                                     (I7 (s9 ++ (s28 ++ ByteArray.mk (Array.mk [32, 32]) ++ s21 ++ ByteArray.mk (Array.mk [10]))) (IntKind.wrap IntKind.i64 (n10 + 1)) w27 ∧
                                      I8 (s9 ++ (s28 ++ ByteArray.mk (Array.mk [32, 32]) ++ s21 ++ ByteArray.mk (Array.mk [10]))) (IntKind.wrap IntKind.i64 (n10 + 1)) w27 < I8 s9 n10 w11)))))))))))))))))))))) ∧
            (decide (n10 < (↑l6.2 : Int)) = false →
              Calls Tryd.prog (58 : Nat) (Array.mk [Value.string s9, Value.slice x3a x3n x3c]) (w11) (fun e29 w30 =>
                ∃ s31 : ByteArray, (e29 = Ending.returned (Value.string s31) ∧
                 Calls Tryd.prog (59 : Nat) (Array.mk [Value.string s31]) (w30) (fun e32 w33 =>
                   ∃ s34 : ByteArray, (e32 = Ending.returned (Value.string s34) ∧
                    (ByteArray.size (ByteArray.mk (Array.mk [104, 49, 58])) + ByteArray.size s34 ≤ 9223372036854775807 ∧
                     R (Value.string (ByteArray.mk (Array.mk [104, 49, 58]) ++ s34)) w33)))))))))))))
theorem vc_cartularyref24_Hash_ok {x0 : ByteArray} {x1 : ByteArray} {x2a : Option Addr} {x2n : Nat} {x2c : Nat} {x3a : Option Addr} {x3n : Nat} {x3c : Nat} {w : World} {R : Value → World → Prop} {R' : Ending → World → Prop} (h : vc_cartularyref24_Hash x0 x1 x2a x2n x2c x3a x3n x3c w R) (hR : ∀ v w', R v w' → R' (.returned v) w') :
    Calls Tryd.prog 24 #[.string x0, .string x1, .slice x2a x2n x2c, .slice x3a x3n x3c] w R' :=
  calls_of_body (vs := [(.string x0, false), (.string x1, false), (.slice x2a x2n x2c, false), (.slice x3a x3n x3c, false)]) (ty := ty) (ann := ⟨[], [(3, [(9, .str), (18, .int .i64)])], [(5, .held [(0, true), (1, true), (2, true), (3, true), (7, true), (8, true), (4, false), (5, false), (6, true), (9, true), (10, true), (11, true), (12, true)])], []⟩) (c := Tryd.f24.body.getD .skip) (by kernel_rfl) Tryd.func24 (by kernel_rfl) (by kernel_rfl) (Eq.mp (by kernel_rfl) h) hR
end Go.Proofs.YtfoeooddnmppnaaDoor

/- The reference's order of a module's files, and what stands ahead of their paths. Condition: no more than a thousand files. -/
set_option linter.unusedVariables false
namespace Go.Proofs.YtfoeooddnmppnaaDoor
open Go Vc StabM Go.Proofs

theorem boxF_load {w : World} {g : Nat} {x : FileE} (h : w.heap[g]? = some (.cells (encF x).toArray T_api_File (0, 0))) : (loadVar T_api_File ⟨g, 0, none⟩).run Tryd.prog w = .ok (.agg #[.string x.path, .string x.data]) w :=
  load_agg (vs := encF x) (agg_of (by kernel_rfl)) (by kernel_rfl) fun k v hv => by rw [add_lit, Nat.zero_add, cell_blk h]; simpa [encF] using hv
theorem rput24_spec {w : World} {a : Option Addr} {n c : Nat} {xs : List FileE} (hr : ReadsK encF 2 w a xs) (hn : xs.length = n) (hl : n ≤ 1000) (f : FileE) : Calls Tryd.prog F_cartularyref24_put #[.slice a n c, .agg #[.string f.path, .string f.data]] w fun e w' =>
    ∃ l, e = .returned (.slice l.a l.len l.cap) ∧ OwnK encF 2 w' w.heap.size T_api_File l (put ltP f xs) ∧ Fr (fun _ => False) w w' := by
  refine vc_cartularyref24_put_ok (R := fun v w' => ∃ l : Sl, v = .slice l.a l.len l.cap ∧ OwnK encF 2 w' w.heap.size T_api_File l (put ltP f xs) ∧ Fr (fun _ => False) w w') ?_ (fun v w' ⟨l, h⟩ => ⟨l, by rw [h.1], h.2⟩)
  intro w1 h1 w2 h2
  have hf1 : Fr (fun _ => False) w w1 := by rw [h1]; exact .alloc _ _ _
  have hf2 : Fr (fun _ => False) w1 w2 := by rw [h2]; exact .alloc _ _ _
  have hbf : w1.heap[w.heap.size]? = some (.cells (encF f).toArray T_api_File (0, 0)) := by rw [h1]; exact alloc_new _ _
  have ho2 : OwnK encF 2 w2 w.heap.size T_api_File ⟨some ⟨w1.heap.size, 0, none⟩, 0, 0⟩ [] := (by rw [h2]; exact OwnK.empty w1 T_api_File : OwnK encF 2 w2 w1.heap.size T_api_File ⟨some ⟨w1.heap.size, 0, none⟩, 0, 0⟩ []).mono hf1.size
  have hs1 : w1.heap.size = w.heap.size + 1 := by rw [h1]; simp
  refine ⟨fun l b i w' => ∃ (k : Nat) (out : List FileE), i = k ∧ k ≤ xs.length ∧ OwnK encF 2 w' w.heap.size T_api_File l out ∧ (∀ y, l.a = some y → w.heap.size < y.block) ∧ Fr (fun _ => False) w1 w' ∧ out.length ≤ k + 1 ∧
      ((b = false ∧ out = xs.take k ∧ ∀ y ∈ xs.take k, ltP f y = false) ∨ (b = true ∧ out ++ xs.drop k = put ltP f xs)), fun _ _ i _ => xs.length - i.toNat,
    ⟨0, [], rfl, Nat.zero_le _, ho2, fun y hy => by cases hy; simp only; omega, hf2, Nat.zero_le _, .inl ⟨rfl, rfl, fun y hy => by simp at hy⟩⟩, ?_⟩
  rintro l b i w8 ⟨k, out, rfl, hk, ho, hab, hf, hol, hcase⟩
  have happ : ∀ {w' w3 : World} {l' : Sl} {o : List FileE} (x : FileE), OwnK encF 2 w' w.heap.size T_api_File l' o → (∀ y, l'.a = some y → w.heap.size < y.block) → Fr (fun _ => False) w1 w' → o.length ≤ 2000 → w3 = w'.alloc (.cells #[.string x.path, .string x.data] T_api_File) →
      ∃ (w4 : World) (l4 : Sl), (Builtin.append_ #[T_S_api_File, T_S_api_File] T_S_api_File #[.slice l'.a l'.len l'.cap, .slice (some ⟨w'.heap.size, 0, none⟩) 1 1]).run Tryd.prog w3 = .ok (.slice l4.a l4.len l4.cap) w4 ∧ OwnK encF 2 w4 w.heap.size T_api_File l4 (o ++ [x]) ∧ (∀ y, l4.a = some y → w.heap.size < y.block) ∧ Fr (fun _ => False) w1 w4 ∧ ∀ g, g < w'.heap.size → (∀ y, l'.a = some y → y.block ≠ g) → w4.heap[g]? = w'.heap[g]? := fun {w' w3 l' o} x ho' hab' hf' hl' h3 => by
    have hsz := hf'.size
    obtain ⟨w4, l4, hr4, ho4, hf4, hs4⟩ := append_oneK elF ho' (x := x) (by unfold maxLen; omega) (by omega) (by omega) h3
    refine ⟨w4, l4, hr4, ho4, fun y hy => ?_, hf'.trans hf4 fun q hq ⟨y, hy, e⟩ => ?_, fun g hg hne => hf4.blk g hg fun ⟨y, hy, e⟩ => hne y hy e.symm⟩
    · rcases hs4 y hy with ⟨z, hz, e⟩ | h
      · have := hab' z hz; omega
      · omega
    · have := hab' y hy; omega
  refine ⟨fun hlt => ?_, fun hge => ?_⟩
  · have hlt := of_decide_eq_true hlt
    have hkl : k < xs.length := by omega
    have hx : xs[k]? = some xs[k] := List.getElem?_eq_getElem hkl
    have htk : xs.take (k + 1) = xs.take k ++ [xs[k]] := (List.take_append_getElem hkl).symm
    have hdr : xs.drop k = xs[k] :: xs.drop (k + 1) := List.drop_eq_getElem_cons hkl
    generalize xs[k] = x at hx htk hdr
    obtain ⟨ad, had, hld⟩ := ((hr.keep (hf1.trans' hf) (by simp)).load elF hx)
    refine ⟨⟨by omega, by omega⟩, ad, had, x.path, x.data, by rw [Int.toNat_natCast]; exact hld, fun w12 h12 => ?_⟩
    subst h12
    obtain ⟨w13, hw13⟩ : ∃ w13, w8.alloc (.cells (encF x).toArray T_api_File) = w13 := ⟨_, rfl⟩
    have hfb : Fr (fun _ => False) w8 w13 := by rw [← hw13]; exact .alloc _ _ _
    have hbx : w13.heap[w8.heap.size]? = some (.cells (encF x).toArray T_api_File (0, 0)) := by rw [← hw13]; exact alloc_new _ _
    have hbf13 : w13.heap[w.heap.size]? = some (.cells (encF f).toArray T_api_File (0, 0)) := (hf.trans' hfb).keep hbf (by simp)
    have ho13 := ho.keep hfb (by simp)
    have hf13 := hf.trans' hfb
    have hs13 : w8.heap.size < w13.heap.size := lt_blk hbx
    have hlb : ∀ y, l.a = some y → y.block ≠ w8.heap.size := fun y hy => by have := (ho.blk hy).2; omega
    have e1 : IntKind.i64.wrap ((k : Int) + 1) = ((k + 1 : Nat) : Int) := by rw [wrap_i64 (by omega) (by omega)]; omega
    rw [e1]
    have hcmp : (!(Op.bytesLess (ByteArray.toList x.path) (ByteArray.toList f.path) || ByteArray.toList x.path == ByteArray.toList f.path)) = ltP f x := by
      rw [bs_eq, ByteArray.toList_eq, ByteArray.toList_eq, Proofs.bytesLess_eq]
      unfold ltP
      rw [Bool.eq_iff_iff, Bool.not_eq_true', Bool.or_eq_false_iff, decide_eq_false_iff_not, decide_eq_false_iff_not, decide_eq_true_eq]
      refine ⟨fun ⟨h1, h2⟩ => ?_, fun h => ⟨List.lt_asymm h, fun e => by rw [e] at h; exact List.lt_irrefl _ h⟩⟩
      rcases lt_tri x.path.data.toList f.path.data.toList with h | h | h
      · exact absurd h h1
      · exact absurd (bs_ext h) h2
      · exact h
    refine ⟨w13, by rw [← hw13]; exact boxF_run w8 x, fun hb => ?_, fun hb => ⟨x.path, x.data, boxF_load hbx, fun w33 h33 => ?_⟩⟩
    · have hb : b = false := by simpa using hb
      obtain ⟨_, ho_eq, hall⟩ := hcase.resolve_right fun h => by rw [hb] at h; cases h.1
      refine ⟨x.path, by rw [cell_blk hbx]; rfl, f.path, by rw [cell_blk hbf13]; rfl, fun hg => ⟨f.path, f.data, boxF_load hbf13, fun w18 h18 => ?_⟩, fun hg => ⟨x.path, x.data, boxF_load hbx, fun w28 h28 => ?_⟩⟩
      · rw [hcmp] at hg
        obtain ⟨w19, l20, hr19, ho19, hab19, hf19, hk19⟩ := happ f ho13 hab hf13 (by omega) h18
        have hbx19 : w19.heap[w8.heap.size]? = some (.cells (encF x).toArray T_api_File (0, 0)) := by rw [hk19 _ hs13 hlb]; exact hbx
        refine ⟨w19, l20, hr19, x.path, x.data, boxF_load hbx19, fun w23 h23 => ?_⟩
        obtain ⟨w24, l25, hr24, ho24, hab24, hf24, _⟩ := happ x ho19 hab19 hf19 (by rw [List.length_append]; simp only [List.length_cons, List.length_nil]; omega) h23
        refine ⟨w24, l25, hr24, ⟨k + 1, _, rfl, by omega, ho24, hab24, hf24, by rw [ho_eq, List.length_append, List.length_append, List.length_take]; simp only [List.length_cons, List.length_nil]; omega, .inr ⟨rfl, ?_⟩⟩, by dsimp only; omega⟩
        have hpa := put_at (lt := ltP) (x := f) (L := xs.take k) (R := xs.drop k) hall (fun y hy => by rw [hdr] at hy; cases hy; exact hg)
        rw [List.take_append_drop] at hpa
        rw [hpa, hdr, ho_eq]
        simp only [List.append_assoc, List.cons_append, List.nil_append]
      · rw [hcmp] at hg
        obtain ⟨w29, l30, hr29, ho29, hab29, hf29, _⟩ := happ x ho13 hab hf13 (by omega) h28
        refine ⟨w29, l30, hr29, ⟨k + 1, _, rfl, by omega, ho29, hab29, hf29, by rw [List.length_append]; simp only [List.length_cons, List.length_nil]; omega, .inl ⟨hb, by rw [htk, ho_eq], fun y hy => ?_⟩⟩, by dsimp only; omega⟩
        rw [htk] at hy
        rcases List.mem_append.1 hy with hy | hy
        · exact hall y hy
        · rw [List.mem_singleton] at hy; rw [hy]; exact hg
    · have hb : b = true := by simpa using hb
      have hpt := (hcase.resolve_left fun h => by rw [hb] at h; cases h.1).2
      obtain ⟨w34, l35, hr34, ho34, hab34, hf34, _⟩ := happ x ho13 hab hf13 (by omega) h33
      refine ⟨w34, l35, hr34, ⟨k + 1, _, rfl, by omega, ho34, hab34, hf34, by rw [List.length_append]; simp only [List.length_cons, List.length_nil]; omega, .inr ⟨hb, ?_⟩⟩, by dsimp only; omega⟩
      rw [← hpt, hdr, List.append_assoc]; rfl
  · have hge := of_decide_eq_false hge
    have hk' : k = xs.length := by omega
    subst hk'
    rw [List.take_length, List.drop_length] at hcase
    refine ⟨fun hb => ?_, fun hb => ?_⟩
    · have hb : b = false := by simpa using hb
      obtain ⟨_, ho_eq, hall⟩ := hcase.resolve_right fun h => by rw [hb] at h; cases h.1
      refine ⟨f.path, f.data, boxF_load (hf.keep hbf (by simp)), fun w38 h38 => ?_⟩
      obtain ⟨w39, l40, hr39, ho39, hab39, hf39, _⟩ := happ f ho hab hf (by omega) h38
      refine ⟨w39, l40, hr39, l40, rfl, ?_, hf1.trans' hf39⟩
      have hpa := put_at (lt := ltP) (x := f) (L := xs) (R := []) hall (fun y hy => by cases hy)
      rw [List.append_nil] at hpa
      rw [hpa, ← ho_eq]; exact ho39
    · have hb : b = true := by simpa using hb
      have hpt := (hcase.resolve_left fun h => by rw [hb] at h; cases h.1).2
      rw [List.append_nil] at hpt
      rw [← hpt]
      exact ⟨l, rfl, ho, hf1.trans' hf⟩
theorem rsorted_spec {w : World} {a : Option Addr} {n c : Nat} {xs : List FileE} (hr : ReadsK encF 2 w a xs) (hn : xs.length = n) (hl : n ≤ 900) : Calls Tryd.prog F_cartularyref24_Sorted #[.slice a n c] w fun e w' =>
    ∃ l, e = .returned (.slice l.a l.len l.cap) ∧ OwnK encF 2 w' w.heap.size T_api_File l (isort ltP xs) ∧ Fr (fun _ => False) w w' := by
  refine vc_cartularyref24_Sorted_ok (R := fun v w' => ∃ l : Sl, v = .slice l.a l.len l.cap ∧ OwnK encF 2 w' w.heap.size T_api_File l (isort ltP xs) ∧ Fr (fun _ => False) w w') ?_ (fun v w' ⟨l, h⟩ => ⟨l, by rw [h.1], h.2⟩)
  intro w1 h1
  have hf1 : Fr (fun _ => False) w w1 := by rw [h1]; exact .alloc _ _ _
  have ho1 : OwnK encF 2 w1 w.heap.size T_api_File ⟨some ⟨w.heap.size, 0, none⟩, 0, 0⟩ [] := by rw [h1]; exact .empty w T_api_File
  refine ⟨fun l i w' => ∃ k : Nat, i = k ∧ k ≤ xs.length ∧ OwnK encF 2 w' w.heap.size T_api_File l (isort ltP (xs.take k)) ∧ Fr (fun _ => False) w w', fun _ i _ => xs.length - i.toNat, ⟨0, rfl, Nat.zero_le _, ho1, hf1⟩, ?_⟩
  rintro l i w6 ⟨k, rfl, hk, ho, hf⟩
  refine ⟨fun hlt => ?_, fun hge => ?_⟩
  · have hlt := of_decide_eq_true hlt
    have hkl : k < xs.length := by omega
    have hx : xs[k]? = some xs[k] := List.getElem?_eq_getElem hkl
    have htk : xs.take (k + 1) = xs.take k ++ [xs[k]] := (List.take_append_getElem hkl).symm
    generalize xs[k] = x at hx htk
    obtain ⟨ad, had, hld⟩ := ((hr.keep hf (by simp)).load elF hx)
    refine ⟨⟨by omega, by omega⟩, ad, had, x.path, x.data, by rw [Int.toNat_natCast]; exact hld, fun w10 h10 => ?_⟩
    subst h10
    obtain ⟨w11, hw11⟩ : ∃ w11, w6.alloc (.cells (encF x).toArray T_api_File) = w11 := ⟨_, rfl⟩
    have hfb : Fr (fun _ => False) w6 w11 := by rw [← hw11]; exact .alloc _ _ _
    have hbx : w11.heap[w6.heap.size]? = some (.cells (encF x).toArray T_api_File (0, 0)) := by rw [← hw11]; exact alloc_new _ _
    have e1 : IntKind.i64.wrap ((k : Int) + 1) = ((k + 1 : Nat) : Int) := by rw [wrap_i64 (by omega) (by omega)]; omega
    rw [e1]
    have hlen : (isort ltP (xs.take k)).length = k := by
      rw [(isort_all ordP.tr ordP.asy _ (xs.take k) rfl).2.length_eq, List.length_take]; omega
    have ho11 := ho.keep hfb (by simp)
    refine ⟨w11, by rw [← hw11]; exact boxF_run w6 x, x.path, x.data, boxF_load hbx, (rput24_spec (ho11.reads fun _ => rfl) ho11.1 (by have := ho11.1; omega) x).mono ?_⟩
    rintro e w15 ⟨l16, rfl, ho15, hf15⟩
    have hf11 := hf.trans' hfb
    exact ⟨l16, rfl, ⟨k + 1, rfl, by omega, by rw [htk, isort_snoc]; exact ho15.mono hf11.size, hf11.trans' hf15⟩, by dsimp only; omega⟩
  · have hge := of_decide_eq_false hge
    have hk' : k = xs.length := by omega
    rw [hk', List.take_length] at ho
    exact ⟨l, rfl, ho, hf⟩
theorem rahead_spec {w : World} {a : Option Addr} {n c : Nat} {xs : List FileE} (hr : ReadsK encF 2 w a xs) (hn : xs.length = n) (hl : n ≤ 900) (m v : ByteArray) (hmv : m.size + v.size ≤ 1000000) (hs : ∀ x ∈ xs, x.path.size ≤ 1000000) : Calls Tryd.prog F_cartularyref24_Ahead #[.slice a n c, .string m, .string v] w fun e w' =>
    ∃ l, e = .returned (.slice l.a l.len l.cap) ∧ OwnK encF 2 w' w.heap.size T_api_File l (xs.map (preF (frontE m v))) ∧ Fr (fun _ => False) w w' := by
  refine vc_cartularyref24_Ahead_ok (R := fun u w' => ∃ l : Sl, u = .slice l.a l.len l.cap ∧ OwnK encF 2 w' w.heap.size T_api_File l (xs.map (preF (frontE m v))) ∧ Fr (fun _ => False) w w') ?_ (fun u w' ⟨l, h⟩ => ⟨l, by rw [h.1], h.2⟩)
  intro w1 h1
  have hf1 : Fr (fun _ => False) w w1 := by rw [h1]; exact .alloc _ _ _
  have ho1 : OwnK encF 2 w1 w.heap.size T_api_File ⟨some ⟨w.heap.size, 0, none⟩, 0, 0⟩ [] := by rw [h1]; exact .empty w T_api_File
  refine ⟨fun l i w' => ∃ k : Nat, i = k ∧ k ≤ xs.length ∧ OwnK encF 2 w' w.heap.size T_api_File l ((xs.take k).map (preF (frontE m v))) ∧ Fr (fun _ => False) w w', fun _ i _ => xs.length - i.toNat, ⟨0, rfl, Nat.zero_le _, ho1, hf1⟩, ?_⟩
  rintro l i w6 ⟨k, rfl, hk, ho, hf⟩
  refine ⟨fun hlt => ?_, fun hge => ?_⟩
  · have hlt := of_decide_eq_true hlt
    have hkl : k < xs.length := by omega
    have hx : xs[k]? = some xs[k] := List.getElem?_eq_getElem hkl
    have htk : xs.take (k + 1) = xs.take k ++ [xs[k]] := (List.take_append_getElem hkl).symm
    generalize xs[k] = x at hx htk
    have hxs := hs x (List.mem_of_getElem? hx)
    obtain ⟨ad, had, hld⟩ := ((hr.keep hf (by simp)).load elF hx)
    refine ⟨⟨by omega, by omega⟩, ad, had, x.path, x.data, by rw [Int.toNat_natCast]; exact hld, fun w10 h10 => ?_⟩
    subst h10
    obtain ⟨w11, hw11⟩ : ∃ w11, w6.alloc (.cells (encF x).toArray T_api_File) = w11 := ⟨_, rfl⟩
    have hfb : Fr (fun _ => False) w6 w11 := by rw [← hw11]; exact .alloc _ _ _
    have hbx : w11.heap[w6.heap.size]? = some (.cells (encF x).toArray T_api_File (0, 0)) := by rw [← hw11]; exact alloc_new _ _
    have e1 : IntKind.i64.wrap ((k : Int) + 1) = ((k + 1 : Nat) : Int) := by rw [wrap_i64 (by omega) (by omega)]; omega
    rw [e1]
    have ho11 := ho.keep hfb (by simp)
    have hml : ((xs.take k).map (preF (frontE m v))).length = k := by rw [List.length_map, List.length_take]; omega
    refine ⟨w11, by rw [← hw11]; exact boxF_run w6 x, ?_, ?_, ?_, x.path, by rw [cell_blk hbx]; rfl, ?_, x.data, by rw [cell_blk hbx]; rfl, fun w14 h14 => ?_⟩
    · show m.size + 1 ≤ 9223372036854775807
      omega
    · rw [ByteArray.size_append]
      show m.size + 1 + v.size ≤ 9223372036854775807
      omega
    · rw [ByteArray.size_append, ByteArray.size_append]
      show m.size + 1 + v.size + 1 ≤ 9223372036854775807
      omega
    · rw [ByteArray.size_append, ByteArray.size_append, ByteArray.size_append]
      show m.size + 1 + v.size + 1 + x.path.size ≤ 9223372036854775807
      omega
    obtain ⟨w15, l16, hr15, ho15, hf15, _⟩ := append_oneK elF ho11 (x := preF (frontE m v) x) (by unfold maxLen; omega) (by omega) (by have := hf.size; have := hfb.size; omega) h14
    refine ⟨w15, l16, hr15, ⟨k + 1, rfl, by omega, by rw [htk, List.map_append]; exact ho15, (hf.trans' hfb).trans hf15 fun q hq ⟨y, hy, e⟩ => by have := (ho11.blk hy).1; omega⟩, by dsimp only; omega⟩
  · have hge := of_decide_eq_false hge
    have hk' : k = xs.length := by omega
    rw [hk', List.take_length] at ho
    exact ⟨l, rfl, ho, hf⟩
end Go.Proofs.YtfoeooddnmppnaaDoor

/- Formulas of 1 Go functions of this seat (written by a program of the author's, vcgen.py), and that each is enough for the call. No condition. -/
set_option linter.unusedVariables false
namespace Go.Proofs.YtfoeooddnmppnaaDoor
open Go Vc Go.Proofs
set_option maxRecDepth 100000
/-- cartularyref01.Base64 -/
def vc_cartularyref01_Base64 (x0 : ByteArray) (w : World) (R : Value → World → Prop) : Prop :=
  ∃ I1 : ByteArray → Int → World → Prop, ∃ I2 : ByteArray → Int → World → Nat, (I1 (ByteArray.mk (Array.mk [])) 0 w ∧
   ∀ s3 : ByteArray,
   ∀ n4 : Int,
   ∀ w5 : World,
   (I1 s3 n4 w5 →
     (((decide (n4 < (↑(ByteArray.size x0) : Int)) = true →
        ∀ w6 : World,
        (w6 = World.alloc w5 (Obj.cells (Array.mk []) 5) →
          ∃ I7 : Sl → World → Prop, ((∃ I8 : Sl → Int → World → Prop, ∃ I9 : Sl → Int → World → Nat, (I8 (Sl.mk (some (Addr.mk (Array.size (World.heap w5)) 0 none)) 0 0) n4 w6 ∧
            ∀ l10 : Sl,
            ∀ n11 : Int,
            ∀ w12 : World,
            (I8 l10 n11 w12 →
              (((decide (n11 < IntKind.wrap IntKind.i64 (n4 + 3)) = true →
                 (((decide (n11 < (↑(ByteArray.size x0) : Int)) = true →
                    ∃ I13 : Sl → Int → World → Prop, ∃ I14 : Sl → Int → World → Nat, (I13 (Sl.mk l10.1 l10.2 l10.3) 7 w12 ∧
                     ∀ l15 : Sl,
                     ∀ n16 : Int,
                     ∀ w17 : World,
                     (I13 l15 n16 w17 →
                       (((decide (n16 ≥ 0) = true →
                          ((0 ≤ n11 ∧
                            n11 < (↑(ByteArray.size x0) : Int)) ∧
                           (0 ≤ n16 ∧
                            ∀ w18 : World,
                            (w18 = World.alloc w17 (Obj.cells (Array.mk [Value.int IntKind.u8 (IntKind.wrap IntKind.u8 (↑(BitVec.toNat (BitVec.ofInt 8 (Int.fdiv (byteAt x0 n11) (2 ^ min (Int.toNat n16) 8)) &&& BitVec.ofInt 8 1)) : Int))]) 5) →
                              ∃ w19 : World, ∃ l20 : Sl, (Sem.run Tryd.prog (Builtin.append_ (Array.mk [35, 35]) 35 (Array.mk [Value.slice l15.1 l15.2 l15.3, Value.slice (some (Addr.mk (Array.size (World.heap w17)) 0 none)) 1 1])) w18 = Result.ok (Value.slice l20.1 l20.2 l20.3) w19 ∧
                               (I13 (Sl.mk l20.1 l20.2 l20.3) (IntKind.wrap IntKind.i64 (n16 - 1)) w19 ∧
                                I14 (Sl.mk l20.1 l20.2 l20.3) (IntKind.wrap IntKind.i64 (n16 - 1)) w19 < I14 l15 n16 w17))))))) ∧
                        (decide (n16 ≥ 0) = false →
                          (I8 (Sl.mk l15.1 l15.2 l15.3) (IntKind.wrap IntKind.i64 (n11 + 1)) w17 ∧
                           I9 (Sl.mk l15.1 l15.2 l15.3) (IntKind.wrap IntKind.i64 (n11 + 1)) w17 < I9 l10 n11 w12))))))) ∧
                  (decide (n11 < (↑(ByteArray.size x0) : Int)) = false →
                    I7 (Sl.mk l10.1 l10.2 l10.3) w12)))) ∧
               (decide (n11 < IntKind.wrap IntKind.i64 (n4 + 3)) = false →
                 I7 (Sl.mk l10.1 l10.2 l10.3) w12))))) ∧
           ∀ l21 : Sl,
           ∀ w22 : World,
           (I7 l21 w22 →
             ∃ I23 : Sl → World → Prop, ∃ I24 : Sl → World → Nat, (I23 (Sl.mk l21.1 l21.2 l21.3) w22 ∧
              ∀ l25 : Sl,
              ∀ w26 : World,
              (I23 l25 w26 →
                ((6 : Int) ≠ (0 : Int) ∧
                 ((((Int.tmod (↑l25.2 : Int) 6 != 0) = true →
                    ∀ w27 : World,
                    (w27 = World.alloc w26 (Obj.cells (Array.mk [Value.int IntKind.u8 0]) 5) →
                      ∃ w28 : World, ∃ l29 : Sl, (Sem.run Tryd.prog (Builtin.append_ (Array.mk [35, 35]) 35 (Array.mk [Value.slice l25.1 l25.2 l25.3, Value.slice (some (Addr.mk (Array.size (World.heap w26)) 0 none)) 1 1])) w27 = Result.ok (Value.slice l29.1 l29.2 l29.3) w28 ∧
                       (I23 (Sl.mk l29.1 l29.2 l29.3) w28 ∧
                        I24 (Sl.mk l29.1 l29.2 l29.3) w28 < I24 l25 w26))))) ∧
                  ((Int.tmod (↑l25.2 : Int) 6 != 0) = false →
                    ∃ I30 : ByteArray → Int → World → Prop, ∃ I31 : ByteArray → Int → World → Nat, (I30 s3 0 w26 ∧
                     ∀ s32 : ByteArray,
                     ∀ n33 : Int,
                     ∀ w34 : World,
                     (I30 s32 n33 w34 →
                       (((decide (n33 < 24) = true →
                          (((decide (n33 ≥ (↑l25.2 : Int)) = true →
                             (ByteArray.size s32 + ByteArray.size (ByteArray.mk (Array.mk [61])) ≤ 9223372036854775807 ∧
                              (I30 (s32 ++ ByteArray.mk (Array.mk [61])) (IntKind.wrap IntKind.i64 (n33 + 6)) w34 ∧
                               I31 (s32 ++ ByteArray.mk (Array.mk [61])) (IntKind.wrap IntKind.i64 (n33 + 6)) w34 < I31 s32 n33 w34)))) ∧
                           (decide (n33 ≥ (↑l25.2 : Int)) = false →
                             ((0 ≤ n33 ∧
                               (n33 ≤ IntKind.wrap IntKind.i64 (n33 + 6) ∧
                                IntKind.wrap IntKind.i64 (n33 + 6) ≤ (↑l25.3 : Int))) ∧
                              ∃ I35 : Int → Int → World → Prop, ∃ I36 : Int → Int → World → Nat, (I35 0 0 w34 ∧
                               ∀ n37 : Int,
                               ∀ n38 : Int,
                               ∀ w39 : World,
                               (I35 n37 n38 w39 →
                                 (((decide (n38 < (↑(Int.toNat (IntKind.wrap IntKind.i64 (n33 + 6)) - Int.toNat n33) : Int)) = true →
                                    ((0 ≤ n38 ∧
                                      n38 < (↑(Int.toNat (IntKind.wrap IntKind.i64 (n33 + 6)) - Int.toNat n33) : Int)) ∧
                                     ∃ a40 : Addr, (subA l25.1 l25.3 (Int.toNat n33) 1 = some a40 ∧
                                      ∃ n41 : Int, (World.cell? w39 (Addr.add a40 (Int.toNat n38 * 1)) = some (Value.int IntKind.u8 n41) ∧
                                       (I35 (IntKind.wrap IntKind.i64 (IntKind.wrap IntKind.i64 (2 * n37) + IntKind.wrap IntKind.i64 n41)) (IntKind.wrap IntKind.i64 (n38 + 1)) w39 ∧
                                        I36 (IntKind.wrap IntKind.i64 (IntKind.wrap IntKind.i64 (2 * n37) + IntKind.wrap IntKind.i64 n41)) (IntKind.wrap IntKind.i64 (n38 + 1)) w39 < I36 n37 n38 w39)))))) ∧
                                  (decide (n38 < (↑(Int.toNat (IntKind.wrap IntKind.i64 (n33 + 6)) - Int.toNat n33) : Int)) = false →
                                    ((0 ≤ n37 ∧
                                      (n37 ≤ IntKind.wrap IntKind.i64 (n37 + 1) ∧
                                       IntKind.wrap IntKind.i64 (n37 + 1) ≤ (↑(ByteArray.size (ByteArray.mk (Array.mk [65, 66, 67, 68, 69, 70, 71, 72, 73, 74, 75, 76, 77, 78, 79, 80, 81, 82, 83, 84, 85, 86, 87, 88, 89, 90, 97, 98, 99, 100, 101, 102, 103, 104, 105, 106, 107, 108, 109, 110, 111, 112, 113, 114, 115, 116, 117, 118, 119, 120, 121, 122, 48, 49, 50, 51, 52, 53, 54, 55, 56, 57, 43, 47]))) : Int))) ∧
                                     (ByteArray.size s32 + ByteArray.size (ByteArray.extract (ByteArray.mk (Array.mk [65, 66, 67, 68, 69, 70, 71, 72, 73, 74, 75, 76, 77, 78, 79, 80, 81, 82, 83, 84, 85, 86, 87, 88, 89, 90, 97, 98, 99, 100, 101, 102, 103, 104, 105, 106, 107, 108, 109, 110, 111, 112, 113, 114, 115, 116, 117, 118, 119, 120, 121, 122, 48, 49, 50, 51, 52, 53, 54, 55, 56, 57, 43, 47])) (Int.toNat n37) (Int.toNat (IntKind.wrap IntKind.i64 (n37 + 1)))) ≤ 9223372036854775807 ∧
                                      (I30 (s32 ++ ByteArray.extract (ByteArray.mk (Array.mk [65, 66, 67, 68, 69, 70, 71, 72, 73, 74, 75, 76, 77, 78, 79, 80, 81, 82, 83, 84, 85, 86, 87, 88, 89, 90, 97, 98, 99, 100, 101, 102, 103, 104, 105, 106, 107, 108, 109, 110, 111, 112, 113, 114, 115, 116, 117, 118, 119, 120, 121, 122, 48, 49, 50, 51, 52, 53, 54, 55, 56, 57, 43, 47])) (Int.toNat n37) (Int.toNat (IntKind.wrap IntKind.i64 (n37 + 1)))) (IntKind.wrap IntKind.i64 (n33 + 6)) w39 ∧
                                       I31 (s32 ++ ByteArray.extract (ByteArray.mk (Array.mk [65, 66, 67, 68, 69, 70, 71, 72, 73, 74, 75, 76, 77, 78, 79, 80, 81, 82, 83, 84, 85, 86, 87, 88, 89, 90, 97, 98, 99, 100, 101, 102, 103, 104, 105, 106, 107, 108, 109, 110, 111, 112, 113, 114, 115, 116, 117, 118, 119, 120, 121, 122, 48, 49, 50, 51, 52, 53, 54, 55, 56, 57, 43, 47])) (Int.toNat n37) (Int.toNat (IntKind.wrap IntKind.i64 (n37 + 1)))) (IntKind.wrap IntKind.i64 (n33 + 6)) w39 < I31 s32 n33 w34)))))))))))) ∧
                        (decide (n33 < 24) = false →
                          (I1 s32 (IntKind.wrap IntKind.i64 (n4 + 3)) w34 ∧
                           I2 s32 (IntKind.wrap IntKind.i64 (n4 + 3)) w34 < I2 s3 n4 w5))))))))))))))) ∧
      (decide (n4 < (↑(ByteArray.size x0) : Int)) = false →
        R (Value.string s3) w5))))
theorem vc_cartularyref01_Base64_ok {x0 : ByteArray} {w : World} {R : Value → World → Prop} {R' : Ending → World → Prop} (h : vc_cartularyref01_Base64 x0 w R) (hR : ∀ v w', R v w' → R' (.returned v) w') :
    Calls Tryd.prog 59 #[.string x0] w R' :=
  calls_of_body (vs := [(.string x0, false)]) (ty := ty) (ann := ⟨[(13, [(5, .slice)])], [(3, [(3, .str), (4, .int .i64)]), (7, [(5, .slice), (6, .int .i64)]), (10, [(5, .slice), (7, .int .i64)]), (13, [(5, .slice)]), (16, [(3, .str), (8, .int .i64)]), (22, [(9, .int .i64), (68, .int .i64)])], [], []⟩) (c := Tryd.f59.body.getD .skip) (by kernel_rfl) Tryd.func59 (by kernel_rfl) (by kernel_rfl) (Eq.mp (by kernel_rfl) h) hR
end Go.Proofs.YtfoeooddnmppnaaDoor

/- The reference's Base64: by btsL. Condition: the text is no longer than a million bytes. -/
set_option linter.unusedVariables false
namespace B64M
def nb (c : Nat) : List Nat := [c / 128 % 2, c / 64 % 2, c / 32 % 2, c / 16 % 2, c / 8 % 2, c / 4 % 2, c / 2 % 2, c % 2]
theorem nb_at (c q : Nat) (h : q < 8) : (nb c)[q]? = some (c / 2 ^ (7 - q) % 2) := by
  match q, h with
  | 0, _ => rfl
  | 1, _ => rfl
  | 2, _ => rfl
  | 3, _ => rfl
  | 4, _ => rfl
  | 5, _ => rfl
  | 6, _ => rfl
  | 7, _ => show some (c % 2) = some (c / 1 % 2); rw [Nat.div_one]
def btsL (l : List UInt8) : List Nat := l.flatMap fun c => nb c.toNat
theorem btsL_len (l : List UInt8) : (btsL l).length = 8 * l.length := by
  induction l with
  | nil => rfl
  | cons a r ih => unfold btsL at *; rw [List.flatMap_cons, List.length_append, ih, List.length_cons]; show 8 + _ = _; omega
def vlL (l : List Nat) : Nat := l.foldl (fun n b => 2 * n + b) 0
theorem vlL_snoc (l : List Nat) (b : Nat) : vlL (l ++ [b]) = 2 * vlL l + b := by unfold vlL; rw [List.foldl_append]; rfl
theorem vlL_lt : ∀ (n : Nat) (l : List Nat), l.length = n → (∀ x ∈ l, x < 2) → vlL l < 2 ^ l.length
  | 0, l, h, _ => by rw [List.eq_nil_of_length_eq_zero h]; decide
  | n + 1, l, h, hb => by
    have hne : l ≠ [] := fun e => by subst e; simp at h
    have he := List.dropLast_concat_getLast hne
    have h1 := vlL_lt n l.dropLast (by rw [List.length_dropLast]; omega) fun y hy => hb y (List.dropLast_subset l hy)
    have h2 := hb (l.getLast hne) (List.getLast_mem hne)
    generalize l.getLast hne = x at he h2
    generalize l.dropLast = d at he h1
    rw [← he, vlL_snoc, List.length_append, List.length_singleton, Nat.pow_succ]; omega
/-- How many noughts follow the btsL of the first three bytes. -/
def pads (n : Nat) : Nat := if n = 1 then 4 else if n = 2 then 2 else 0
def row (l : List UInt8) : List Nat := btsL (l.take 3) ++ List.replicate (pads (l.take 3).length) 0
set_option maxHeartbeats 4000000 in
theorem row_quad (l : List UInt8) (hl : l ≠ []) (q : Nat) (hq : q < 4) : (6 * q < (row l).length → 6 * q + 6 ≤ (row l).length ∧ vlL (((row l).drop (6 * q)).take 6) < 64 ∧ (quad l)[q]? = some (d64 (vlL (((row l).drop (6 * q)).take 6)))) ∧ (¬ 6 * q < (row l).length → (quad l)[q]? = some 61) := by
  match l, hl with
  | [a], _ =>
    have ha := UInt8.toNat_lt a
    have e : row [a] = [a.toNat / 128 % 2, a.toNat / 64 % 2, a.toNat / 32 % 2, a.toNat / 16 % 2, a.toNat / 8 % 2, a.toNat / 4 % 2, a.toNat / 2 % 2, a.toNat % 2, 0, 0, 0, 0] := rfl
    rw [e]
    match q, hq with
    | 0, _ => exact ⟨fun _ => ⟨by simp, by simp [vlL]; omega, by simp [quad, vlL]; congr 1; omega⟩, fun h => by simp at h⟩
    | 1, _ => exact ⟨fun _ => ⟨by simp, by simp [vlL]; omega, by simp [quad, vlL]; congr 1; omega⟩, fun h => by simp at h⟩
    | 2, _ => exact ⟨fun h => by simp at h, fun _ => rfl⟩
    | 3, _ => exact ⟨fun h => by simp at h, fun _ => rfl⟩
  | [a, b], _ =>
    have ha := UInt8.toNat_lt a
    have hb := UInt8.toNat_lt b
    have e : row [a, b] = [a.toNat / 128 % 2, a.toNat / 64 % 2, a.toNat / 32 % 2, a.toNat / 16 % 2, a.toNat / 8 % 2, a.toNat / 4 % 2, a.toNat / 2 % 2, a.toNat % 2, b.toNat / 128 % 2, b.toNat / 64 % 2, b.toNat / 32 % 2, b.toNat / 16 % 2, b.toNat / 8 % 2, b.toNat / 4 % 2, b.toNat / 2 % 2, b.toNat % 2, 0, 0] := rfl
    rw [e]
    match q, hq with
    | 0, _ => exact ⟨fun _ => ⟨by simp, by simp [vlL]; omega, by simp [quad, vlL]; congr 1; omega⟩, fun h => by simp at h⟩
    | 1, _ => exact ⟨fun _ => ⟨by simp, by simp [vlL]; omega, by simp [quad, vlL]; congr 1; omega⟩, fun h => by simp at h⟩
    | 2, _ => exact ⟨fun _ => ⟨by simp, by simp [vlL]; omega, by simp [quad, vlL]; congr 1; omega⟩, fun h => by simp at h⟩
    | 3, _ => exact ⟨fun h => by simp at h, fun _ => rfl⟩
  | a :: b :: c :: r, _ =>
    have ha := UInt8.toNat_lt a
    have hb := UInt8.toNat_lt b
    have hc := UInt8.toNat_lt c
    have e : row (a :: b :: c :: r) = [a.toNat / 128 % 2, a.toNat / 64 % 2, a.toNat / 32 % 2, a.toNat / 16 % 2, a.toNat / 8 % 2, a.toNat / 4 % 2, a.toNat / 2 % 2, a.toNat % 2, b.toNat / 128 % 2, b.toNat / 64 % 2, b.toNat / 32 % 2, b.toNat / 16 % 2, b.toNat / 8 % 2, b.toNat / 4 % 2, b.toNat / 2 % 2, b.toNat % 2, c.toNat / 128 % 2, c.toNat / 64 % 2, c.toNat / 32 % 2, c.toNat / 16 % 2, c.toNat / 8 % 2, c.toNat / 4 % 2, c.toNat / 2 % 2, c.toNat % 2] := rfl
    rw [e]
    match q, hq with
    | 0, _ => exact ⟨fun _ => ⟨by simp, by simp [vlL]; omega, by simp [quad, vlL]; congr 1; omega⟩, fun h => by simp at h⟩
    | 1, _ => exact ⟨fun _ => ⟨by simp, by simp [vlL]; omega, by simp [quad, vlL]; congr 1; omega⟩, fun h => by simp at h⟩
    | 2, _ => exact ⟨fun _ => ⟨by simp, by simp [vlL]; omega, by simp [quad, vlL]; congr 1; omega⟩, fun h => by simp at h⟩
    | 3, _ => exact ⟨fun _ => ⟨by simp, by simp [vlL]; omega, by simp [quad, vlL]; congr 1; omega⟩, fun h => by simp at h⟩
end B64M
namespace Go.Proofs.YtfoeooddnmppnaaDoor
open Go Vc Go.Proofs B64M
/-- Numbers below 256 as cells. -/
def ntV (l : List Nat) : List Value := l.map fun n : Nat => Value.int .u8 (n : Int)
theorem ntV_len (l : List Nat) : (ntV l).length = l.length := by simp [ntV]
theorem ntV_snoc (l : List Nat) (n : Nat) : ntV l ++ [.int .u8 (n : Int)] = ntV (l ++ [n]) := by simp [ntV]
theorem bit_of (c k : Nat) (hc : c < 256) (hk : k < 8) : IntKind.u8.wrap (BitVec.toNat (BitVec.ofInt 8 (Int.fdiv (c : Int) (2 ^ min (Int.toNat (k : Int)) 8)) &&& BitVec.ofInt 8 1) : Int) = ((c / 2 ^ k % 2 : Nat) : Int) := by
  have p2 : (2 : Int) ^ min (Int.toNat (k : Int)) 8 = ((2 ^ k : Nat) : Int) := by rw [Int.toNat_natCast, Nat.min_eq_left (by omega)]; push_cast; rfl
  rw [p2, Int.fdiv_eq_ediv_of_nonneg _ (Int.natCast_nonneg _), ← Int.natCast_ediv]
  have hq : c / 2 ^ k < 256 := Nat.lt_of_le_of_lt (Nat.div_le_self _ _) hc
  generalize c / 2 ^ k = q at *
  rw [show (1 : Int) = ((1 : Nat) : Int) from rfl, and_nat 8 _ _ (by omega) (by omega), Nat.and_one_is_mod, wrap_u8 (by omega) (by omega)]
theorem d64_cut (k : Nat) (h : k < 64) : (ByteArray.extract ⟨#[65, 66, 67, 68, 69, 70, 71, 72, 73, 74, 75, 76, 77, 78, 79, 80, 81, 82, 83, 84, 85, 86, 87, 88, 89, 90, 97, 98, 99, 100, 101, 102, 103, 104, 105, 106, 107, 108, 109, 110, 111, 112, 113, 114, 115, 116, 117, 118, 119, 120, 121, 122, 48, 49, 50, 51, 52, 53, 54, 55, 56, 57, 43, 47]⟩ k (k + 1)).data.toList = [d64 k] := by
  have key : ∀ k : Fin 64, (ByteArray.extract ⟨#[65, 66, 67, 68, 69, 70, 71, 72, 73, 74, 75, 76, 77, 78, 79, 80, 81, 82, 83, 84, 85, 86, 87, 88, 89, 90, 97, 98, 99, 100, 101, 102, 103, 104, 105, 106, 107, 108, 109, 110, 111, 112, 113, 114, 115, 116, 117, 118, 119, 120, 121, 122, 48, 49, 50, 51, 52, 53, 54, 55, 56, 57, 43, 47]⟩ k.val (k.val + 1)).data.toList = [d64 k] := by decide +kernel
  exact key ⟨k, h⟩
set_option maxHeartbeats 1000000 in
theorem rbase64_spec (s : ByteArray) (hs : s.size ≤ 1000000) (w : World) : Calls Tryd.prog F_cartularyref01_Base64 #[.string s] w fun e w' => e = .returned (.string ⟨(b64L s.data.toList).toArray⟩) ∧ Fr (fun _ => False) w w' := by
  refine vc_cartularyref01_Base64_ok (R := fun v w' => v = .string ⟨(b64L s.data.toList).toArray⟩ ∧ Fr (fun _ => False) w w') ?_ (fun v w' h => ⟨by rw [h.1], h.2⟩)
  obtain ⟨X, hX⟩ : ∃ X, s.data.toList = X := ⟨_, rfl⟩
  have hXl : X.length = s.size := by rw [← hX, bs_len]
  rw [hX]
  refine ⟨fun t i w' => ∃ k : Nat, i = ((3 * k : Nat) : Int) ∧ 3 * k ≤ X.length + 3 ∧ t.data.toList ++ b64L (X.drop (3 * k)) = b64L X ∧ t.size = 4 * k ∧ Fr (fun _ => False) w w', fun _ i _ => X.length + 10 - i.toNat, ⟨0, rfl, by omega, by simp, rfl, .refl _ _⟩, ?_⟩
  rintro t i w5 ⟨k, rfl, hk, hout, htk, hf⟩
  refine ⟨fun hlt w6 h6 => ?_, fun hge => ?_⟩
  · have hlt := of_decide_eq_true hlt
    have hkl : 3 * k < X.length := by omega
    obtain ⟨L, hL⟩ : ∃ L, X.drop (3 * k) = L := ⟨_, rfl⟩
    have hLl : L.length = X.length - 3 * k := by rw [← hL, List.length_drop]
    have hLne : L ≠ [] := fun h => by rw [h] at hLl; simp at hLl; omega
    have hL3 : X.drop (3 * (k + 1)) = L.drop 3 := by rw [← hL, List.drop_drop]; rfl
    have e3 : IntKind.i64.wrap (((3 * k : Nat) : Int) + 3) = ((3 * k + 3 : Nat) : Int) := by rw [wrap_i64 (by omega) (by omega)]; omega
    rw [e3]
    rw [hL, b64_quad L hLne] at hout
    have hf6 : Fr (fun _ => False) w5 w6 := by rw [h6]; exact .alloc _ _ _
    have ho6 : Vc.Own w6 w5.heap.size T_uint8 ⟨some ⟨w5.heap.size, 0, none⟩, 0, 0⟩ (ntV []) := by rw [h6]; exact own_empty w5 T_uint8
    have happ : ∀ {w' w3 : World} {l : Sl} {o : List Nat} (b : Nat), Vc.Own w' w5.heap.size T_uint8 l (ntV o) → o.length ≤ 100 → Fr (fun _ => False) w5 w' → w3 = w'.alloc (.cells #[.int .u8 (b : Int)] T_uint8) →
        ∃ (w4 : World) (l4 : Sl), (Builtin.append_ #[T_S_uint8, T_S_uint8] T_S_uint8 #[.slice l.a l.len l.cap, .slice (some ⟨w'.heap.size, 0, none⟩) 1 1]).run Tryd.prog w3 = .ok (.slice l4.a l4.len l4.cap) w4 ∧ Vc.Own w4 w5.heap.size T_uint8 l4 (ntV (o ++ [b])) ∧ Fr (fun _ => False) w5 w4 := fun {w' w3 l o} b ho hl hf' h3 => by
      obtain ⟨w4, l4, hr4, ho4, hf4⟩ := append_one elByte ho (v := .int .u8 (b : Int)) rfl (by rw [ntV_len]; unfold maxLen; omega) (by rw [ntV_len]; omega) hf'.size h3
      exact ⟨w4, l4, hr4, by rw [← ntV_snoc]; exact ho4, hf'.trans hf4 fun q hq ⟨y, hy, e⟩ => by have := (ho.blk hy).1; omega⟩
    refine ⟨fun l w' => Vc.Own w' w5.heap.size T_uint8 l (ntV (btsL (L.take 3))) ∧ Fr (fun _ => False) w5 w', ⟨fun l i w' => ∃ m : Nat, i = ((3 * k + m : Nat) : Int) ∧ m ≤ 3 ∧ m ≤ L.length ∧ Vc.Own w' w5.heap.size T_uint8 l (ntV (btsL (L.take m))) ∧ Fr (fun _ => False) w5 w', fun _ i _ => X.length + 10 - i.toNat, ⟨0, rfl, by omega, by omega, ho6, hf6⟩, ?_⟩, ?_⟩
    · rintro l i w12 ⟨m, rfl, hm3, hmL, ho, hf12⟩
      refine ⟨fun hlt2 => ⟨fun hlt3 => ?_, fun hge3 => ?_⟩, fun hge2 => ?_⟩
      · have hlt2 := of_decide_eq_true hlt2
        have hlt3 := of_decide_eq_true hlt3
        have hmL2 : m < L.length := by omega
        have htm : L.take (m + 1) = L.take m ++ [L[m]] := (List.take_append_getElem hmL2).symm
        have hbm : byt s (3 * k + m) = (L[m]).toNat := by
          rw [bs_byt (by omega)]
          have : X[3 * k + m]? = some L[m] := by rw [← List.getElem?_drop, hL]; exact List.getElem?_eq_getElem hmL2
          rw [← hX] at this
          rw [List.getElem?_eq_getElem (by rw [bs_len]; omega)] at this
          rw [Option.some.inj this]
        generalize L[m] = c at htm hbm
        have hc := UInt8.toNat_lt c
        have hbl : (btsL (L.take m)).length ≤ 24 := by rw [btsL_len, List.length_take]; omega
        refine ⟨fun l i w' => ∃ q : Nat, i = (7 - (q : Int)) ∧ q ≤ 8 ∧ Vc.Own w' w5.heap.size T_uint8 l (ntV (btsL (L.take m) ++ (nb c.toNat).take q)) ∧ Fr (fun _ => False) w5 w', fun _ i _ => (i + 1).toNat, ⟨0, rfl, by decide, by simpa using ho, hf12⟩, ?_⟩
        rintro l i w17 ⟨q, rfl, hq, ho17, hf17⟩
        refine ⟨fun hge0 => ?_, fun hlt0 => ?_⟩
        · have hge0 := of_decide_eq_true hge0
          have hq8 : q < 8 := by omega
          have eq7 : (7 - (q : Int)) = ((7 - q : Nat) : Int) := by omega
          have htq : (nb c.toNat).take (q + 1) = (nb c.toNat).take q ++ [c.toNat / 2 ^ (7 - q) % 2] := by rw [List.take_add_one, nb_at _ _ hq8]; rfl
          have e1 : IntKind.i64.wrap ((7 - (q : Int)) - 1) = 7 - ((q + 1 : Nat) : Int) := by rw [wrap_i64 (by omega) (by omega)]; omega
          refine ⟨⟨by omega, by omega⟩, by omega, fun w18 h18 => ?_⟩
          rw [e1]
          rw [byteAt_nat, hbm, eq7, bit_of _ _ hc (by omega)] at h18
          obtain ⟨w19, l20, hr19, ho19, hf19⟩ := happ _ ho17 (by rw [List.length_append, List.length_take]; omega) hf17 h18
          exact ⟨w19, l20, hr19, ⟨q + 1, rfl, by omega, by rw [htq, ← List.append_assoc]; exact ho19, hf19⟩, by dsimp only; omega⟩
        · have hlt0 := of_decide_eq_false hlt0
          have hq8 : q = 8 := by omega
          subst hq8
          have e1 : IntKind.i64.wrap (((3 * k + m : Nat) : Int) + 1) = ((3 * k + (m + 1) : Nat) : Int) := by rw [wrap_i64 (by omega) (by omega)]; omega
          rw [e1]
          refine ⟨⟨m + 1, rfl, by omega, by omega, ?_, hf17⟩, by dsimp only; omega⟩
          have : btsL (L.take (m + 1)) = btsL (L.take m) ++ nb c.toNat := by rw [htm]; unfold btsL; rw [List.flatMap_append]; simp
          rw [this]; exact ho17
      · have hge3 := of_decide_eq_false hge3
        have hm : m = L.length := by omega
        rw [hm, List.take_length] at ho
        rw [List.take_of_length_le (by omega : L.length ≤ 3)]
        exact ⟨ho, hf12⟩
      · have hge2 := of_decide_eq_false hge2
        have hm : m = 3 := by omega
        rw [hm] at ho
        exact ⟨ho, hf12⟩
    rintro l w22 ⟨ho22, hf22⟩
    have hn1 : 1 ≤ (L.take 3).length := by rw [List.length_take]; omega
    have hn3 : (L.take 3).length ≤ 3 := by rw [List.length_take]; omega
    have hbl := btsL_len (L.take 3)
    have hrow : row L = btsL (L.take 3) ++ List.replicate (pads (L.take 3).length) 0 := rfl
    obtain ⟨N, hN⟩ : ∃ N, (L.take 3).length = N := ⟨_, rfl⟩
    rw [hN] at hn1 hn3 hbl hrow
    refine ⟨fun l w' => ∃ p : Nat, p ≤ pads N ∧ Vc.Own w' w5.heap.size T_uint8 l (ntV (btsL (L.take 3) ++ List.replicate p 0)) ∧ Fr (fun _ => False) w5 w', fun l _ => 100 - l.len, ⟨0, Nat.zero_le _, by simpa using ho22, hf22⟩, ?_⟩
    rintro l25 w26 ⟨p, hp, ho26, hf26⟩
    have hl25 : l25.len = 8 * N + p := by rw [ho26.len, ntV_len, List.length_append, List.length_replicate, hbl]
    have hpN : pads N ≤ 4 := by unfold pads; split; omega; split <;> omega
    have etm : Int.tmod (l25.len : Int) 6 = (((8 * N + p) % 6 : Nat) : Int) := by rw [Int.tmod_eq_emod_of_nonneg (by omega), hl25]; omega
    rw [etm]
    refine ⟨by decide, fun hne w27 h27 => ?_, fun heq => ?_⟩
    · have hne : (8 * N + p) % 6 ≠ 0 := fun h => by rw [h] at hne; simp at hne
      have hp2 : p + 1 ≤ pads N := by
        unfold pads at *
        rcases (by omega : N = 1 ∨ N = 2 ∨ N = 3) with h | h | h
        · rw [if_pos h] at *; omega
        · rw [if_neg (by omega), if_pos h] at *; omega
        · rw [if_neg (by omega), if_neg (by omega)] at *; omega
      obtain ⟨w28, l29, hr28, ho28, hf28⟩ := happ 0 ho26 (by rw [List.length_append, List.length_replicate]; omega) hf26 h27
      have hl29 : l29.len = 8 * N + p + 1 := by rw [ho28.len, ntV_len, List.length_append, List.length_append, List.length_replicate, hbl]; rfl
      refine ⟨w28, l29, hr28, ⟨p + 1, hp2, ?_, hf28⟩, by dsimp only; omega⟩
      rw [List.replicate_succ', ← List.append_assoc]; exact ho28
    · have heq : (8 * N + p) % 6 = 0 := by
        have : (((8 * N + p) % 6 : Nat) : Int) = 0 := by simpa using heq
        omega
      have hpp : p = pads N := by
        unfold pads at *
        rcases (by omega : N = 1 ∨ N = 2 ∨ N = 3) with h | h | h
        · rw [if_pos h] at *; omega
        · rw [if_neg (by omega), if_pos h] at *; omega
        · rw [if_neg (by omega), if_neg (by omega)] at *; omega
      rw [hpp, ← hrow] at ho26
      have hrl : l25.len = (row L).length := by rw [ho26.len, ntV_len]
      have hcap := ho26.cap
      refine ⟨fun t' j w' => ∃ q : Nat, j = ((6 * q : Nat) : Int) ∧ q ≤ 4 ∧ t'.data.toList = t.data.toList ++ (quad L).take q ∧ t'.size = 4 * k + q ∧ w' = w26, fun _ j _ => 24 - j.toNat, ⟨0, rfl, by decide, by simp, by omega, rfl⟩, ?_⟩
      rintro t' j w34 ⟨q, rfl, hq, ht', hts, hw⟩
      subst hw
      have e6 : IntKind.i64.wrap (((6 * q : Nat) : Int) + 6) = ((6 * q + 6 : Nat) : Int) := by rw [wrap_i64 (by omega) (by omega)]; omega
      rw [e6]
      refine ⟨fun hlt4 => ?_, fun hge4 => ?_⟩
      · have hlt4 := of_decide_eq_true hlt4
        have hq4 : q < 4 := by omega
        obtain ⟨hrq1, hrq2⟩ := row_quad L hLne q hq4
        refine ⟨fun hge5 => ⟨?_, ⟨q + 1, rfl, by omega, ?_, ?_, rfl⟩, by dsimp only; omega⟩, fun hlt5 => ?_⟩
        · show t'.size + 1 ≤ 9223372036854775807
          omega
        · have hge5 := of_decide_eq_true hge5
          have := hrq2 (by omega)
          rw [bs_app, ht', List.take_add_one, this, List.append_assoc]; rfl
        · rw [ByteArray.size_append]
          show t'.size + 1 = _
          omega
        · have hlt5 := of_decide_eq_false hlt5
          obtain ⟨g1, g2, g3⟩ := hrq1 (by omega)
          have hsub := ho26.reads.sub (cap := l25.cap) (by rw [ntV_len]; omega) (6 * q)
          refine ⟨⟨by omega, by omega, by omega⟩, ?_⟩
          repeat rw [Int.toNat_natCast]
          rw [show 6 * q + 6 - 6 * q = 6 by omega]
          refine ⟨fun v r w' => ∃ z : Nat, r = z ∧ z ≤ 6 ∧ v = ((vlL (((row L).drop (6 * q)).take z) : Nat) : Int) ∧ w' = w34, fun _ r _ => 6 - r.toNat, ⟨0, rfl, by decide, rfl, rfl⟩, ?_⟩
          rintro v r w39 ⟨z, rfl, hz, rfl, hw⟩
          subst hw
          refine ⟨fun hlt6 => ?_, fun hge6 => ?_⟩
          · have hlt6 := of_decide_eq_true hlt6
            have hz6 : z < 6 := by omega
            have hzl : z < ((row L).drop (6 * q)).length := by rw [List.length_drop]; omega
            have htz : ((row L).drop (6 * q)).take (z + 1) = ((row L).drop (6 * q)).take z ++ [((row L).drop (6 * q))[z]] := (List.take_append_getElem hzl).symm
            have hgz : ((row L).drop (6 * q))[z]? = some ((row L).drop (6 * q))[z] := List.getElem?_eq_getElem hzl
            have hb2 : ((row L).drop (6 * q))[z] < 2 := by
              have hm : ((row L).drop (6 * q))[z] ∈ row L := List.mem_of_mem_drop (List.getElem_mem hzl)
              generalize ((row L).drop (6 * q))[z] = bb at hm
              rw [hrow] at hm
              rcases List.mem_append.1 hm with hm | hm
              · obtain ⟨c, _, hc⟩ := List.mem_flatMap.1 hm
                simp only [nb, List.mem_cons, List.mem_nil_iff, or_false] at hc
                omega
              · rw [List.eq_of_mem_replicate hm]; decide
            generalize ((row L).drop (6 * q))[z] = b at htz hgz hb2
            obtain ⟨a40, ha40, hc40⟩ := hsub z (.int .u8 (b : Int)) (by unfold ntV; rw [← List.map_drop, List.getElem?_map, hgz]; rfl)
            have hvb : vlL (((row L).drop (6 * q)).take z) < 64 := by
              have h1 := vlL_lt _ (((row L).drop (6 * q)).take z) rfl fun x hx => by
                have hm := List.mem_of_mem_drop (List.mem_of_mem_take hx)
                rw [hrow] at hm
                rcases List.mem_append.1 hm with hm | hm
                · obtain ⟨c, _, hc⟩ := List.mem_flatMap.1 hm
                  simp only [nb, List.mem_cons, List.mem_nil_iff, or_false] at hc
                  omega
                · rw [List.eq_of_mem_replicate hm]; decide
              have h2 : (((row L).drop (6 * q)).take z).length ≤ 5 := by rw [List.length_take]; omega
              have h3 : 2 ^ (((row L).drop (6 * q)).take z).length ≤ 2 ^ 5 := Nat.pow_le_pow_right (by decide) h2
              omega
            have e1 : IntKind.i64.wrap ((z : Int) + 1) = ((z + 1 : Nat) : Int) := by rw [wrap_i64 (by omega) (by omega)]; omega
            have e2 : IntKind.i64.wrap (IntKind.i64.wrap (2 * ((vlL (((row L).drop (6 * q)).take z) : Nat) : Int)) + IntKind.i64.wrap (b : Int)) = ((vlL (((row L).drop (6 * q)).take (z + 1)) : Nat) : Int) := by
              rw [htz, vlL_snoc, wrap_i64 (x := 2 * ((vlL (((row L).drop (6 * q)).take z) : Nat) : Int)) (by omega) (by omega), wrap_i64 (x := (b : Int)) (by omega) (by omega), wrap_i64 (by omega) (by omega)]; omega
            refine ⟨⟨by omega, by omega⟩, a40, ha40, (b : Int), by rw [Int.toNat_natCast, Nat.mul_one]; exact hc40, ?_⟩
            rw [e1, e2]
            exact ⟨⟨z + 1, rfl, by omega, rfl, rfl⟩, by dsimp only; omega⟩
          · have hge6 := of_decide_eq_false hge6
            have hz6 : z = 6 := by omega
            subst hz6
            generalize vlL (((row L).drop (6 * q)).take 6) = V at g2 g3
            have eV : IntKind.i64.wrap ((V : Int) + 1) = ((V + 1 : Nat) : Int) := by rw [wrap_i64 (by omega) (by omega)]; omega
            rw [eV]
            repeat rw [Int.toNat_natCast]
            have hcut := d64_cut V g2
            have hcl := congrArg List.length hcut
            rw [bs_len] at hcl
            refine ⟨⟨by omega, by omega, ?_⟩, ?_, ⟨q + 1, rfl, by omega, ?_, ?_, rfl⟩, by dsimp only; omega⟩
            · show _ ≤ ((64 : Nat) : Int)
              omega
            · rw [hcl]
              show t'.size + 1 ≤ 9223372036854775807
              omega
            · rw [bs_app, ht', hcut, List.take_add_one, g3, List.append_assoc]; rfl
            · rw [ByteArray.size_append, hcl]
              show t'.size + 1 = _
              omega
      · have hge4 := of_decide_eq_false hge4
        have hq4 : q = 4 := by omega
        subst hq4
        rw [List.take_of_length_le (Nat.le_of_eq (quad_len L))] at ht'
        have e4 : ((3 * k + 3 : Nat) : Int) = ((3 * (k + 1) : Nat) : Int) := by omega
        rw [e4]
        refine ⟨⟨k + 1, rfl, by omega, ?_, by omega, hf.trans' hf26⟩, by dsimp only; omega⟩
        rw [ht', hL3, List.append_assoc]
        exact hout
  · have hge := of_decide_eq_false hge
    rw [List.drop_eq_nil_of_le (by omega)] at hout
    have hout : t.data.toList = b64L X := by rw [← hout]; exact (List.append_nil _).symm
    refine ⟨?_, hf⟩
    rw [← hout, bs_self]
end Go.Proofs.YtfoeooddnmppnaaDoor

/- Formulas of 1 Go functions of this seat (written by a program of the author's, vcgen.py), and that each is enough for the call. No condition. -/
set_option linter.unusedVariables false
namespace Go.Proofs.YtfoeooddnmppnaaDoor
open Go Vc Go.Proofs
set_option maxRecDepth 100000
/-- cartularyref01.Hex -/
def vc_cartularyref01_Hex (x0 : ByteArray) (w : World) (R : Value → World → Prop) : Prop :=
  ∃ I1 : ByteArray → Int → World → Prop, ∃ I2 : ByteArray → Int → World → Nat, (I1 (ByteArray.mk (Array.mk [])) 0 w ∧
   ∀ s3 : ByteArray,
   ∀ n4 : Int,
   ∀ w5 : World,
   (I1 s3 n4 w5 →
     (((decide (n4 < (↑(ByteArray.size x0) : Int)) = true →
        ((0 ≤ n4 ∧
          n4 < (↑(ByteArray.size x0) : Int)) ∧
         ((16 : Int) ≠ (0 : Int) ∧
          ((16 : Int) ≠ (0 : Int) ∧
           ((0 ≤ IntKind.wrap IntKind.u8 (Int.tdiv (byteAt x0 n4) 16) ∧
             (IntKind.wrap IntKind.u8 (Int.tdiv (byteAt x0 n4) 16) ≤ IntKind.wrap IntKind.u8 (IntKind.wrap IntKind.u8 (Int.tdiv (byteAt x0 n4) 16) + 1) ∧
              IntKind.wrap IntKind.u8 (IntKind.wrap IntKind.u8 (Int.tdiv (byteAt x0 n4) 16) + 1) ≤ (↑(ByteArray.size (ByteArray.mk (Array.mk [48, 49, 50, 51, 52, 53, 54, 55, 56, 57, 97, 98, 99, 100, 101, 102]))) : Int))) ∧
            ((16 : Int) ≠ (0 : Int) ∧
             ((16 : Int) ≠ (0 : Int) ∧
              ((0 ≤ Int.tmod (byteAt x0 n4) 16 ∧
                (Int.tmod (byteAt x0 n4) 16 ≤ IntKind.wrap IntKind.u8 (Int.tmod (byteAt x0 n4) 16 + 1) ∧
                 IntKind.wrap IntKind.u8 (Int.tmod (byteAt x0 n4) 16 + 1) ≤ (↑(ByteArray.size (ByteArray.mk (Array.mk [48, 49, 50, 51, 52, 53, 54, 55, 56, 57, 97, 98, 99, 100, 101, 102]))) : Int))) ∧
               (ByteArray.size (ByteArray.extract (ByteArray.mk (Array.mk [48, 49, 50, 51, 52, 53, 54, 55, 56, 57, 97, 98, 99, 100, 101, 102])) (Int.toNat (IntKind.wrap IntKind.u8 (Int.tdiv (byteAt x0 n4) 16))) (Int.toNat (IntKind.wrap IntKind.u8 (IntKind.wrap IntKind.u8 (Int.tdiv (byteAt x0 n4) 16) + 1)))) + ByteArray.size (ByteArray.extract (ByteArray.mk (Array.mk [48, 49, 50, 51, 52, 53, 54, 55, 56, 57, 97, 98, 99, 100, 101, 102])) (Int.toNat (Int.tmod (byteAt x0 n4) 16)) (Int.toNat (IntKind.wrap IntKind.u8 (Int.tmod (byteAt x0 n4) 16 + 1)))) ≤ 9223372036854775807 ∧
                (ByteArray.size s3 + ByteArray.size (ByteArray.extract (ByteArray.mk (Array.mk [48, 49, 50, 51, 52, 53, 54, 55, 56, 57, 97, 98, 99, 100, 101, 102])) (Int.toNat (IntKind.wrap IntKind.u8 (Int.tdiv (byteAt x0 n4) 16))) (Int.toNat (IntKind.wrap IntKind.u8 (IntKind.wrap IntKind.u8 (Int.tdiv (byteAt x0 n4) 16) + 1))) ++ ByteArray.extract (ByteArray.mk (Array.mk [48, 49, 50, 51, 52, 53, 54, 55, 56, 57, 97, 98, 99, 100, 101, 102])) (Int.toNat (Int.tmod (byteAt x0 n4) 16)) (Int.toNat (IntKind.wrap IntKind.u8 (Int.tmod (byteAt x0 n4) 16 + 1)))) ≤ 9223372036854775807 ∧
                 ∀ w6 : World,
                 (Drew w5 w6 →
                   (I1 (s3 ++ (ByteArray.extract (ByteArray.mk (Array.mk [48, 49, 50, 51, 52, 53, 54, 55, 56, 57, 97, 98, 99, 100, 101, 102])) (Int.toNat (IntKind.wrap IntKind.u8 (Int.tdiv (byteAt x0 n4) 16))) (Int.toNat (IntKind.wrap IntKind.u8 (IntKind.wrap IntKind.u8 (Int.tdiv (byteAt x0 n4) 16) + 1))) ++ ByteArray.extract (ByteArray.mk (Array.mk [48, 49, 50, 51, 52, 53, 54, 55, 56, 57, 97, 98, 99, 100, 101, 102])) (Int.toNat (Int.tmod (byteAt x0 n4) 16)) (Int.toNat (IntKind.wrap IntKind.u8 (Int.tmod (byteAt x0 n4) 16 + 1))))) (IntKind.wrap IntKind.i64 (n4 + 1)) w6 ∧
                    I2 (s3 ++ (ByteArray.extract (ByteArray.mk (Array.mk [48, 49, 50, 51, 52, 53, 54, 55, 56, 57, 97, 98, 99, 100, 101, 102])) (Int.toNat (IntKind.wrap IntKind.u8 (Int.tdiv (byteAt x0 n4) 16))) (Int.toNat (IntKind.wrap IntKind.u8 (IntKind.wrap IntKind.u8 (Int.tdiv (byteAt x0 n4) 16) + 1))) ++ ByteArray.extract (ByteArray.mk (Array.mk [48, 49, 50, 51, 52, 53, 54, 55, 56, 57, 97, 98, 99, 100, 101, 102])) (Int.toNat (Int.tmod (byteAt x0 n4) 16)) (Int.toNat (IntKind.wrap IntKind.u8 (Int.tmod (byteAt x0 n4) 16 + 1))))) (IntKind.wrap IntKind.i64 (n4 + 1)) w6 < I2 s3 n4 w5))))))))))))) ∧
      (decide (n4 < (↑(ByteArray.size x0) : Int)) = false →
        R (Value.string s3) w5))))
theorem vc_cartularyref01_Hex_ok {x0 : ByteArray} {w : World} {R : Value → World → Prop} {R' : Ending → World → Prop} (h : vc_cartularyref01_Hex x0 w R) (hR : ∀ v w', R v w' → R' (.returned v) w') :
    Calls Tryd.prog 57 #[.string x0] w R' :=
  calls_of_body (vs := [(.string x0, false)]) (ty := ty) (ann := ⟨[], [(3, [(3, .str), (4, .int .i64)])], [(6, .quiet)], []⟩) (c := Tryd.f57.body.getD .skip) (by kernel_rfl) Tryd.func57 (by kernel_rfl) (by kernel_rfl) (Eq.mp (by kernel_rfl) h) hR
end Go.Proofs.YtfoeooddnmppnaaDoor

/- The reference's Hex. Condition: the text is no longer than 2 to the 40th bytes. -/
set_option linter.unusedVariables false
namespace Go.Proofs.YtfoeooddnmppnaaDoor
open Go Vc ShaM Go.Proofs

/-- The signs of a byte, as 'Hex' writes them. -/
def hexTR : List UInt8 := [48, 49, 50, 51, 52, 53, 54, 55, 56, 57, 97, 98, 99, 100, 101, 102]
def hex2R (b : UInt8) : List UInt8 := [hexTR.getD (b.toNat / 16) 0, hexTR.getD (b.toNat % 16) 0]
theorem rhex_cut (i : Nat) (h : i < 16) : (ByteArray.extract (ByteArray.mk (Array.mk [48, 49, 50, 51, 52, 53, 54, 55, 56, 57, 97, 98, 99, 100, 101, 102])) i (i + 1)).data.toList = [hexTR.getD i 0] := by
  rw [show ByteArray.extract (ByteArray.mk (Array.mk [48, 49, 50, 51, 52, 53, 54, 55, 56, 57, 97, 98, 99, 100, 101, 102])) i (i + 1) = ByteArray.extract ⟨hexTR.toArray⟩ i (i + 1) from rfl, ext_toList]
  have hl : i < hexTR.length := h
  rw [Nat.add_sub_cancel_left]
  show ((hexTR.toArray.toList.drop i).take 1) = _
  have g1 : List.drop i hexTR = hexTR[i] :: List.drop (i + 1) hexTR := List.drop_eq_getElem_cons hl
  have g2 : hexTR.getD i 0 = hexTR[i] := by rw [List.getD_eq_getElem?_getD, List.getElem?_eq_getElem hl]; rfl
  rw [g2]
  show (List.drop i hexTR).take 1 = _
  rw [g1]; rfl
theorem rhex_spec (x : ByteArray) (hx : x.size ≤ 1099511627776) (w : World) : Calls Tryd.prog F_cartularyref01_Hex #[.string x] w fun e w' => e = .returned (.string ⟨(x.data.toList.flatMap hex2R).toArray⟩) ∧ Drew w w' := by
  refine vc_cartularyref01_Hex_ok (R := fun v w' => v = .string ⟨(x.data.toList.flatMap hex2R).toArray⟩ ∧ Drew w w') ?_ (fun v w' h => ⟨by rw [h.1], h.2⟩)
  obtain ⟨X, hX⟩ : ∃ X, x.data.toList = X := ⟨_, rfl⟩
  have hXl : X.length = x.size := by rw [← hX]; simp
  rw [hX]
  have hlen : ∀ l : List UInt8, (l.flatMap hex2R).length = 2 * l.length := fun l => by
    induction l with
    | nil => rfl
    | cons b l ih => rw [List.flatMap_cons, List.length_append, ih, List.length_cons]; show 2 + _ = _; omega
  refine ⟨fun s i w' => ∃ k : Nat, k ≤ X.length ∧ i = (k : Int) ∧ s.data.toList = (X.take k).flatMap hex2R ∧ Drew w w', fun _ i _ => ((X.length : Int) - i).toNat, ⟨0, Nat.zero_le _, rfl, rfl, .refl _⟩, ?_⟩
  rintro s i w5 ⟨k, hk, rfl, hs, d5⟩
  refine ⟨fun hlt => ?_, fun hge => ?_⟩
  · have hlt := of_decide_eq_true hlt
    have hkl : k < X.length := by omega
    have hb : byt x k = X[k].toNat := by
      unfold byt; rw [hX, List.getElem?_eq_getElem hkl]; rfl
    have hb256 := X[k].toNat_lt
    have e1 : IntKind.i64.wrap ((k : Int) + 1) = ((k + 1 : Nat) : Int) := by rw [wrap_i64 (by omega) (by omega)]; omega
    have htk : X.take (k + 1) = X.take k ++ [X[k]] := List.take_succ_eq_append_getElem hkl
    rw [byteAt_nat, hb, e1]
    generalize X[k] = b at hb256 htk
    have d1 : IntKind.u8.wrap (Int.tdiv (b.toNat : Int) 16) = ((b.toNat / 16 : Nat) : Int) := by rw [Int.tdiv_eq_ediv_of_nonneg (by omega), wrap_u8 (by omega) (by omega)]; omega
    have d2 : Int.tmod (b.toNat : Int) 16 = ((b.toNat % 16 : Nat) : Int) := by rw [Int.tmod_eq_emod_of_nonneg (by omega)]; omega
    have d3 : IntKind.u8.wrap (((b.toNat / 16 : Nat) : Int) + 1) = ((b.toNat / 16 + 1 : Nat) : Int) := by rw [wrap_u8 (by omega) (by omega)]; omega
    have d4 : IntKind.u8.wrap (((b.toNat % 16 : Nat) : Int) + 1) = ((b.toNat % 16 + 1 : Nat) : Int) := by rw [wrap_u8 (by omega) (by omega)]; omega
    rw [d1, d2, d3, d4]
    simp only [Int.toNat_natCast]
    have h16 : ((ByteArray.size (ByteArray.mk (Array.mk [48, 49, 50, 51, 52, 53, 54, 55, 56, 57, 97, 98, 99, 100, 101, 102])) : Nat) : Int) = 16 := rfl
    have c1 := rhex_cut (b.toNat / 16) (by omega)
    have c2 := rhex_cut (b.toNat % 16) (by omega)
    rw [h16]
    have szl : ∀ A : ByteArray, A.data.toList.length = A.size := fun A => by simp
    have z1 : (ByteArray.extract (ByteArray.mk (Array.mk [48, 49, 50, 51, 52, 53, 54, 55, 56, 57, 97, 98, 99, 100, 101, 102])) (b.toNat / 16) (b.toNat / 16 + 1)).size = 1 := by
      rw [← szl, c1]; rfl
    have z2 : (ByteArray.extract (ByteArray.mk (Array.mk [48, 49, 50, 51, 52, 53, 54, 55, 56, 57, 97, 98, 99, 100, 101, 102])) (b.toNat % 16) (b.toNat % 16 + 1)).size = 1 := by
      rw [← szl, c2]; rfl
    have hsl : s.size = 2 * k := by
      have := congrArg List.length hs
      rw [hlen, List.length_take] at this
      have h2 : s.data.toList.length = s.size := by simp
      omega
    generalize ByteArray.extract (ByteArray.mk (Array.mk [48, 49, 50, 51, 52, 53, 54, 55, 56, 57, 97, 98, 99, 100, 101, 102])) (b.toNat / 16) (b.toNat / 16 + 1) = A1 at c1 z1 ⊢
    generalize ByteArray.extract (ByteArray.mk (Array.mk [48, 49, 50, 51, 52, 53, 54, 55, 56, 57, 97, 98, 99, 100, 101, 102])) (b.toNat % 16) (b.toNat % 16 + 1) = A2 at c2 z2 ⊢
    refine ⟨⟨by omega, by omega⟩, by decide, by decide, ⟨by omega, by omega, by omega⟩, by decide, by decide, ⟨by omega, by omega, by omega⟩, by omega, by rw [ByteArray.size_append]; omega, fun w6 d6 => ⟨⟨k + 1, by omega, rfl, ?_, d5.trans d6⟩, by omega⟩⟩
    rw [ByteArray.data_append, Array.toList_append, ByteArray.data_append, Array.toList_append, hs, c1, c2, htk, List.flatMap_append]
    simp [hex2R]
  · have hge := of_decide_eq_false hge
    have : k = X.length := by omega
    subst this
    rw [List.take_length] at hs
    refine ⟨?_, d5⟩
    rw [← hs]
end Go.Proofs.YtfoeooddnmppnaaDoor

/- What a slice held is read through it after an append. No condition. -/
set_option linter.unusedVariables false
namespace Vc
open Go
/-- What the slice held is read through it after an append, too. -/
theorem append_old {P : Program} {t e : TypeId} {z : Value} {bytes : Nat} {w : World} {base : Nat} {l : Sl} {xs : List Value} (el : El P t e z bytes) (h : Own w base e l xs) {v : Value} (hv : v.oneCell' = true)
    (hm : xs.length + 1 ≤ maxLen) (hb : (xs.length + 1) * bytes ≤ 140737488355328) {w2 : World} (hw2 : w2 = w.alloc (.cells #[v] e)) {l' : Sl} {w' : World}
    (hr : (Builtin.append_ #[t, t] t #[.slice l.a l.len l.cap, .slice (some ⟨w.heap.size, 0, none⟩) 1 1]).run P w2 = .ok (.slice l'.a l'.len l'.cap) w') : Reads w' l.a xs := by
  obtain ⟨i, hi, hi2⟩ := Option.map_eq_some_iff.1 el.info
  simp only [Prod.mk.injEq] at hi2
  obtain ⟨hz, hs1, hby⟩ := hi2
  have hlen := h.1
  have hn : ∀ j u, ([v] : List Value)[j]? = some u → w2.cell? ((⟨w.heap.size, 0, none⟩ : Addr).add j) = some u := fun j u hu => by
    cases j with
    | zero => simp at hu; subst hu; rw [hw2, add_lit, cell_blk (alloc_new w _)]; rfl
    | succ j => simp at hu
  have h2 : Own w2 base e l xs := hw2 ▸ h.keep (.alloc (fun _ => False) _ _) (by simp)
  rcases h2.2 with ⟨ha, hl0, hc0⟩ | ⟨g, cur, ha, hbg, hg, hl, hmx, hs, ht⟩
  · have : xs = [] := List.eq_nil_of_length_eq_zero (by omega)
    rw [this]; exact .nil _ _
  · have hml : maxLen ≤ 9223372036854775807 := by decide
    by_cases hroom : l.len + 1 ≤ l.cap
    · have hr2 := run_append_room (P := P) w2 t t e i el.sl hi g l.len l.cap cur hg ⟨w.heap.size, 0, none⟩ 1 1 [v] (by rw [hs1]; rfl) hn (by simpa using hv) hroom (by rw [hs1]; simp; omega)
      rw [← ha, hr] at hr2
      simp only [Result.ok.injEq] at hr2
      rw [hr2.2, ha]
      intro j u hu
      refine ⟨_, rfl, ?_⟩
      rw [add_lit, Nat.zero_add, cell_blk (setRow_heap w2 g cur _ e (0, 0) hg)]
      rw [hs1]
      have hjl : j < xs.length := (List.getElem?_eq_some_iff.1 hu).1
      rw [← ht] at hu
      simp only [Nat.mul_one]
      rw [List.getElem?_toArray, List.append_assoc, List.getElem?_append_left (by rw [List.length_take, Array.length_toList]; omega)]
      exact hu
    · have holds : ∀ j u, xs[j]? = some u → w2.cell? ((⟨g, 0, none⟩ : Addr).add j) = some u := fun j u hu => by
        obtain ⟨q, hq, hc⟩ := h2.reads j u hu
        rw [ha] at hq; cases hq; exact hc
      have hr2 := run_append_grow (P := P) w2 t t e i z el.sl hi hz ⟨g, 0, none⟩ l.len l.cap xs (by rw [hs1]; omega) holds ⟨w.heap.size, 0, none⟩ 1 1 [v] (by rw [hs1]; rfl) hn (by omega) (by omega) (growslice_fits (by omega) (by rw [hby, ← hlen]; exact hb))
      rw [← ha, hr] at hr2
      simp only [Result.ok.injEq] at hr2
      rw [hr2.2]
      exact h2.reads.keep (X := fun _ => False) ⟨rfl, rfl, rfl, by simp, fun k hk _ => alloc_old w2.drew _ hk⟩ (by simp)
end Vc

/- What is put behind a text, and a word as bytes, in plain. No condition. -/
set_option linter.unusedVariables false
namespace Go.Proofs.YtfoeooddnmppnaaDoor
open Go Vc ShaM Go.Proofs

/-- What is put behind the text, block1. -/
def tail1 (n : Nat) : List UInt8 := 0x80 :: List.replicate ((119 - n % 64) % 64) 0 ++ (List.range 8).map fun i => UInt8.ofNat (n * 8 / 2 ^ (56 - 8 * i))
theorem pad1_eq (t : List UInt8) : pad t = t ++ tail1 t.length := by simp [pad, tail1]
theorem outw1_eq (x : ShaM.W) : (Array.mk [Value.int .u8 (IntKind.u8.wrap (Int.fdiv (x.toNat : Int) (2 ^ min (Int.toNat 24) 32))), .int .u8 (IntKind.u8.wrap (Int.fdiv (x.toNat : Int) (2 ^ min (Int.toNat 16) 32))), .int .u8 (IntKind.u8.wrap (Int.fdiv (x.toNat : Int) (2 ^ min (Int.toNat 8) 32))), .int .u8 (IntKind.u8.wrap (x.toNat : Int))] : Array Value) = (byteV (outw x)).toArray := by
  have h : ∀ (n k : Nat), IntKind.u8.wrap (Int.fdiv (n : Int) ((k + 1 : Nat) : Int)) = (((UInt8.ofNat (n / (k + 1))).toNat : Nat) : Int) := fun n k => by
    rw [Int.fdiv_eq_ediv_of_nonneg _ (Int.natCast_nonneg _), ← Int.natCast_ediv, wrap_u8_mod, UInt8.toNat_ofNat']
    omega
  have h0 : IntKind.u8.wrap (x.toNat : Int) = (((UInt8.ofNat x.toNat).toNat : Nat) : Int) := by rw [wrap_u8_mod, UInt8.toNat_ofNat']; omega
  have p24 : (2 : Int) ^ min (Int.toNat 24) 32 = ((16777215 + 1 : Nat) : Int) := rfl
  have p16 : (2 : Int) ^ min (Int.toNat 16) 32 = ((65535 + 1 : Nat) : Int) := rfl
  have p8 : (2 : Int) ^ min (Int.toNat 8) 32 = ((255 + 1 : Nat) : Int) := rfl
  rw [p24, p16, p8, h, h, h, h0]
  rfl
end Go.Proofs.YtfoeooddnmppnaaDoor

/- What the reference's Pad, words and out do. Conditions: the texts are short enough for a slice to hold (2 to the 40th). -/
set_option linter.unusedVariables false
namespace Go.Proofs.YtfoeooddnmppnaaDoor
open Go Vc ShaM Go.Proofs

/-- 'Pad'. -/
theorem rpad_spec (x : ByteArray) (hx : x.size ≤ 1099511627776) (w : World) : Calls Tryd.prog F_cartularyref02_Pad #[.string x] w fun e w' => ∃ l : Sl, e = .returned (.slice l.a l.len l.cap) ∧ OwnZ w' w.heap.size T_uint8 l (byteV (pad x.data.toList)) ∧ Fr (fun _ => False) w w' := by
  refine vc_cartularyref02_Pad_ok (R := fun v w' => ∃ l : Sl, v = .slice l.a l.len l.cap ∧ OwnZ w' w.heap.size T_uint8 l (byteV (pad x.data.toList)) ∧ Fr (fun _ => False) w w') ?_ (fun v w' ⟨l, h⟩ => ⟨l, by rw [h.1], h.2⟩)
  obtain ⟨w1, l2, hr1, o1, f1⟩ := bytes_of (P := Tryd.prog) (src := T_string) (dst := T_S_uint8) (e := T_uint8) (by kernel_rfl) elByte.sl (by kernel_rfl) x (by unfold maxLen; omega) w
  refine ⟨w1, l2, hr1, ?_⟩
  intro w3 hw3
  obtain ⟨X, hX⟩ : ∃ X, x.data.toList = X := ⟨_, rfl⟩
  have hXl : X.length = x.size := by rw [← hX]; simp
  rw [hX] at o1 ⊢
  obtain ⟨w4, l5, hr4, o4, f4, _⟩ := append_one_z elByte o1 (v := .int .u8 128) rfl (by rw [List.length_map]; unfold maxLen; omega) (by rw [List.length_map]; omega) f1.size hw3
  refine ⟨w4, l5, hr4, ?_⟩
  have hF : ∀ {w' w2 : World} {l : Sl} {xs : List Value}, Fr (fun _ => False) w w' → OwnZ w' w.heap.size T_uint8 l xs → Fr (Vc.At l) w' w2 → Fr (fun _ => False) w w2 := fun {w' w2 l xs} hf o h2 => hf.trans h2 fun q hq ⟨y, hy, e⟩ => by have := (o.blk hy).1; omega
  have o4' : OwnZ w4 w.heap.size T_uint8 l5 (byteV (X ++ 0x80 :: List.replicate 0 0)) := by rw [byteV, List.map_append]; exact o4
  refine ⟨fun l w' => ∃ j : Nat, j ≤ (119 - X.length % 64) % 64 ∧ OwnZ w' w.heap.size T_uint8 l (byteV (X ++ 0x80 :: List.replicate j 0)) ∧ Fr (fun _ => False) w w', fun l _ => (2 ^ 45 - l.len), ⟨0, Nat.zero_le _, o4', hF f1 o1 f4⟩, ?_⟩
  rintro l8 w9 ⟨j, hj, o9, f9⟩
  have hll : l8.len = X.length + 1 + j := by rw [o9.len, List.length_map, List.length_append, List.length_cons, List.length_replicate]; omega
  have e0 : Int.tmod (l8.len : Int) 64 = (((X.length + 1 + j) % 64 : Nat) : Int) := by rw [Int.tmod_eq_emod_of_nonneg (by omega)]; omega
  refine ⟨by decide, ?_⟩
  rw [e0]
  refine ⟨fun hne => ?_, fun heq => ?_⟩
  · have hne : ¬ (X.length + 1 + j) % 64 = 56 := fun h => by rw [h] at hne; exact absurd hne (by decide)
    intro w10 hw10
    have hvl : (byteV (X ++ 0x80 :: List.replicate j 0)).length = X.length + 1 + j := by rw [List.length_map, List.length_append, List.length_cons, List.length_replicate]; omega
    obtain ⟨w11, l12, hr11, o11, f11, _⟩ := append_one_z elByte o9 (v := .int .u8 0) rfl (by rw [hvl]; unfold maxLen; omega) (by rw [hvl]; omega) f9.size hw10
    have hl12 := o11.len
    rw [List.length_append, hvl, List.length_singleton] at hl12
    refine ⟨w11, l12, hr11, ⟨j + 1, by omega, ?_, hF f9 o9 f11⟩, by dsimp only; omega⟩
    have : X ++ 0x80 :: List.replicate (j + 1) 0 = (X ++ 0x80 :: List.replicate j 0) ++ [0] := by rw [List.replicate_succ', List.append_assoc]; rfl
    rw [this, byteV, List.map_append]; exact o11
  have heq : (X.length + 1 + j) % 64 = 56 := by
    by_cases h : (X.length + 1 + j) % 64 = 56
    · exact h
    · exfalso
      have : ((((X.length + 1 + j) % 64 : Nat) : Int) != 56) = true := by simp; omega
      rw [this] at heq; cases heq
  have hjz : j = (119 - X.length % 64) % 64 := by omega
  obtain ⟨bs, hbs⟩ : ∃ bs : List UInt8, (List.range 8).map (fun i => UInt8.ofNat (X.length * 8 / 2 ^ (56 - 8 * i))) = bs := ⟨_, rfl⟩
  have hbl : bs.length = 8 := by rw [← hbs]; simp
  have hpad : pad X = (X ++ 0x80 :: List.replicate j 0) ++ bs := by unfold pad; rw [hbs, ← hjz]
  obtain ⟨Y, hY⟩ : ∃ Y, X ++ 0x80 :: List.replicate j 0 = Y := ⟨_, rfl⟩
  have hYl : Y.length = X.length + 1 + j := by rw [← hY, List.length_append, List.length_cons, List.length_replicate]; omega
  rw [hY] at o9 hpad
  rw [hpad]
  refine ⟨fun l i w' => ∃ m : Nat, m ≤ 8 ∧ i = 7 - (m : Int) ∧ OwnZ w' w.heap.size T_uint8 l (byteV (Y ++ bs.take m)) ∧ Fr (fun _ => False) w w', fun _ i _ => (i + 1).toNat, ⟨0, by decide, rfl, by rw [List.take_zero, List.append_nil]; exact o9, f9⟩, ?_⟩
  rintro l15 i w17 ⟨m, hm, rfl, o17, f17⟩
  refine ⟨fun hge => ?_, fun hlt => ?_⟩
  · have hge := of_decide_eq_true hge
    have hm8 : m < 8 := by omega
    have e1 : IntKind.i64.wrap (8 * (7 - (m : Int))) = ((56 - 8 * m : Nat) : Int) := by rw [wrap_i64 (by omega) (by omega)]; omega
    have e2 : IntKind.i64.wrap (7 - (m : Int) - 1) = 7 - ((m + 1 : Nat) : Int) := by rw [wrap_i64 (by omega) (by omega)]; omega
    have hg : bs[m]'(by omega) = UInt8.ofNat (X.length * 8 / 2 ^ (56 - 8 * m)) := by
      have h1 : bs[m]? = some (UInt8.ofNat (X.length * 8 / 2 ^ (56 - 8 * m))) := by
        rw [← hbs, List.getElem?_map, List.getElem?_range hm8]; rfl
      exact (List.getElem?_eq_some_iff.1 h1).2
    have htk : bs.take (m + 1) = bs.take m ++ [UInt8.ofNat (X.length * 8 / 2 ^ (56 - 8 * m))] := by rw [List.take_succ_eq_append_getElem (by omega), hg]
    have ev : IntKind.u8.wrap (Int.fdiv (IntKind.u64.wrap (IntKind.u64.wrap (x.size : Int) * 8)) (2 ^ min (Int.toNat ((56 - 8 * m : Nat) : Int)) 64)) = (((UInt8.ofNat (X.length * 8 / 2 ^ (56 - 8 * m))).toNat : Nat) : Int) := by
      have h1 : min (Int.toNat ((56 - 8 * m : Nat) : Int)) 64 = 56 - 8 * m := by omega
      have hp : (2 : Int) ^ (56 - 8 * m) = ((2 ^ (56 - 8 * m) : Nat) : Int) := by push_cast; rfl
      have h2 : IntKind.u64.wrap (IntKind.u64.wrap (x.size : Int) * 8) = ((X.length * 8 : Nat) : Int) := by rw [wrap_u64 (x := (x.size : Int)) (by omega) (by omega), wrap_u64 (by omega) (by omega)]; omega
      rw [h1, hp, h2, Int.fdiv_eq_ediv_of_nonneg _ (Int.natCast_nonneg _), ← Int.natCast_ediv, wrap_u8_mod, UInt8.toNat_ofNat']
      omega
    rw [e1, e2, ev]
    refine ⟨by omega, ?_⟩
    intro w18 hw18
    have hl : (byteV (Y ++ bs.take m)).length = Y.length + m := by rw [List.length_map, List.length_append, List.length_take, hbl]; omega
    obtain ⟨w19, l20, hr19, o19, f19, _⟩ := append_one_z elByte o17 (v := .int .u8 (((UInt8.ofNat (X.length * 8 / 2 ^ (56 - 8 * m))).toNat : Nat) : Int)) rfl (by rw [hl]; unfold maxLen; omega) (by rw [hl]; omega) f17.size hw18
    refine ⟨w19, l20, hr19, ⟨m + 1, by omega, rfl, ?_, hF f17 o17 f19⟩, by dsimp only; omega⟩
    rw [htk, ← List.append_assoc, byteV, List.map_append]; exact o19
  · have hlt := of_decide_eq_false hlt
    have : m = 8 := by omega
    subst this
    rw [List.take_of_length_le (by omega)] at o17
    exact ⟨l15, rfl, o17, f17⟩

theorem be_sum (a0 a1 a2 a3 : UInt8) : IntKind.u32.wrap (IntKind.u32.wrap (IntKind.u32.wrap (IntKind.u32.wrap (IntKind.u32.wrap ((a0.toNat : Nat) : Int) * 16777216) + IntKind.u32.wrap (IntKind.u32.wrap ((a1.toNat : Nat) : Int) * 65536)) + IntKind.u32.wrap (IntKind.u32.wrap ((a2.toNat : Nat) : Int) * 256)) + IntKind.u32.wrap ((a3.toNat : Nat) : Int)) =
    (((a0.toNat * 16777216 + a1.toNat * 65536 + a2.toNat * 256 + a3.toNat) % 4294967296 : Nat) : Int) := by
  have l0 := a0.toNat_lt
  have l1 := a1.toNat_lt
  have l2 := a2.toNat_lt
  have l3 := a3.toNat_lt
  simp only [wrap_u32_mod]
  omega
/-- 'words'. -/
theorem rwords_spec {a : Option Addr} {n c : Nat} {bs : List UInt8} {w : World} (hr : Reads w a (byteV bs)) (hn : bs.length = n) (h64 : 64 ≤ n) :
    Calls Tryd.prog F_cartularyref02_words #[.slice a n c] w fun e w' => ∃ l : Sl, e = .returned (.slice l.a l.len l.cap) ∧ Vc.Own w' w.heap.size T_uint32 l (uv (words bs)) ∧ Fr (fun _ => False) w w' := by
  subst hn
  refine vc_cartularyref02_words_ok (R := fun v w' => ∃ l : Sl, v = .slice l.a l.len l.cap ∧ Vc.Own w' w.heap.size T_uint32 l (uv (words bs)) ∧ Fr (fun _ => False) w w') ?_ (fun v w' ⟨l, h⟩ => ⟨l, by rw [h.1], h.2⟩)
  intro w1 hw1
  have o1 : Vc.Own w1 w.heap.size T_uint32 ⟨some ⟨w.heap.size, 0, none⟩, 0, 0⟩ [] := ⟨rfl, .inr ⟨w.heap.size, #[], rfl, Nat.le_refl _, hw1 ▸ alloc_new _ _, Nat.le_refl _, Nat.zero_le _, rfl, rfl⟩⟩
  have f1 : Fr (fun _ => False) w w1 := hw1 ▸ Fr.alloc _ _ _
  refine ⟨fun l i w' => ∃ k : Nat, k ≤ 16 ∧ i = ((4 * k : Nat) : Int) ∧ Vc.Own w' w.heap.size T_uint32 l (uv ((words bs).take k)) ∧ Fr (fun _ => False) w w', fun _ i _ => (64 - i).toNat, ⟨0, by decide, rfl, o1, f1⟩, ?_⟩
  rintro l i w6 ⟨k, hk, rfl, ol, f6⟩
  refine ⟨fun hlt => ?_, fun hge => ?_⟩
  · have hlt := of_decide_eq_true hlt
    have hk16 : k < 16 := by omega
    intro w7 d7
    have f7 := f6.trans' (.drew _ d7)
    have g : ∀ {w' : World}, Fr (fun _ => False) w w' → ∀ j, j < bs.length → ∃ y, a = some y ∧ w'.cell? (y.add j) = some (.int .u8 (((bs.getD j 0).toNat : Nat) : Int)) := fun {w'} hf j hj => by
      obtain ⟨y, hy, hc⟩ := (hr.keep hf (by simp)) j (.int .u8 (((bs.getD j 0).toNat : Nat) : Int)) (by simp [byteV, hj])
      exact ⟨y, hy, hc⟩
    obtain ⟨y, hy, _⟩ := g f7 0 (by omega)
    have g' : ∀ {w' : World}, Fr (fun _ => False) w w' → ∀ j, j < bs.length → w'.cell? (y.add j) = some (.int .u8 (((bs.getD j 0).toNat : Nat) : Int)) := fun {w'} hf j hj => by
      obtain ⟨z, hz, hc⟩ := g hf j hj
      rw [hy] at hz; cases hz; exact hc
    have e1 : IntKind.i64.wrap (((4 * k : Nat) : Int) + 1) = ((4 * k + 1 : Nat) : Int) := by rw [wrap_i64 (by omega) (by omega)]; omega
    have e2 : IntKind.i64.wrap (((4 * k : Nat) : Int) + 2) = ((4 * k + 2 : Nat) : Int) := by rw [wrap_i64 (by omega) (by omega)]; omega
    have e3 : IntKind.i64.wrap (((4 * k : Nat) : Int) + 3) = ((4 * k + 3 : Nat) : Int) := by rw [wrap_i64 (by omega) (by omega)]; omega
    have e4 : IntKind.i64.wrap (((4 * k : Nat) : Int) + 4) = ((4 * (k + 1) : Nat) : Int) := by rw [wrap_i64 (by omega) (by omega)]; omega
    rw [e1, e2, e3, e4]
    simp only [Int.toNat_natCast, Nat.mul_one]
    refine ⟨Fr (fun _ => False) w, f7, ⟨by omega, by omega⟩, y, hy, _, fun w hw => g' hw _ (by omega), ⟨by omega, by omega⟩, y, hy, _, fun w hw => g' hw _ (by omega), ⟨by omega, by omega⟩, y, hy, _, fun w hw => g' hw _ (by omega), ⟨by omega, by omega⟩, y, hy, _, fun w hw => g' hw _ (by omega), ?_⟩
    rw [be_sum]
    have hbe : (((bs.getD (4 * k) 0).toNat * 16777216 + (bs.getD (4 * k + 1) 0).toNat * 65536 + (bs.getD (4 * k + 2) 0).toNat * 256 + (bs.getD (4 * k + 3) 0).toNat) % 4294967296) = (be bs (4 * k)).toNat := by
      unfold be; rw [BitVec.toNat_ofNat]
    rw [hbe]
    intro w21 hw21
    have f21 : Fr (fun _ => False) w7 w21 := hw21 ▸ Fr.alloc _ _ _
    have hl : (uv ((words bs).take k)).length = k := by rw [uv_len, List.length_take, words_length]; omega
    obtain ⟨w22, l23, hr22, o22, f22⟩ := append_one elU32 (ol.drew d7) (v := .int .u32 (((be bs (4 * k)).toNat : Nat) : Int)) rfl (by rw [hl]; unfold maxLen; omega) (by rw [hl]; omega) f7.size hw21
    have fW : Fr (fun _ => False) w w22 := f7.trans f22 (fun q hq ⟨y, hy, e⟩ => by have := (ol.blk hy).1; omega)
    refine ⟨f7.trans' f21, w22, l23, hr22, fW, ⟨k + 1, by omega, rfl, ?_, fW⟩, by omega⟩
    rw [words_take _ hk16, uv, List.map_append]; exact o22
  · have hge := of_decide_eq_false hge
    have : k = 16 := by omega
    subst this
    rw [List.take_of_length_le (by rw [words_length]; decide)] at ol
    exact ⟨l, rfl, ol, f6⟩
/-- 'out'. -/
theorem rout_spec {a : Option Addr} {n c : Nat} {WS : List ShaM.W} {w : World} (hr : Reads w a (uv WS)) (hn : WS.length = n) (h64 : n ≤ 64) :
    Calls Tryd.prog F_cartularyref02_out #[.slice a n c] w fun e w' => e = .returned (.string ⟨(out WS).toArray⟩) ∧ Fr (fun _ => False) w w' := by
  subst hn
  refine vc_cartularyref02_out_ok (R := fun v w' => v = .string ⟨(out WS).toArray⟩ ∧ Fr (fun _ => False) w w') ?_ (fun v w' h => ⟨by rw [h.1], h.2⟩)
  intro w1 hw1
  have o1 : Vc.Own w1 w.heap.size T_uint8 ⟨some ⟨w.heap.size, 0, none⟩, 0, 0⟩ [] := hw1 ▸ own_empty w T_uint8
  have f1 : Fr (fun _ => False) w w1 := hw1 ▸ Fr.alloc _ _ _
  have houtl : ∀ l : List ShaM.W, (out l).length = 4 * l.length := fun l => by
    induction l with
    | nil => rfl
    | cons x l ih =>
      show (outw x ++ out l).length = _
      rw [List.length_append, ih, List.length_cons]; simp only [outw, List.length_cons, List.length_nil]; omega
  refine ⟨fun l i w' => ∃ m : Nat, m ≤ WS.length ∧ i = (m : Int) ∧ Vc.Own w' w.heap.size T_uint8 l (byteV (out (WS.take m))) ∧ Fr (fun _ => False) w w', fun _ i _ => ((WS.length : Int) - i).toNat, ⟨0, Nat.zero_le _, rfl, o1, f1⟩, ?_⟩
  rintro l45 i w47 ⟨m, hm, rfl, o47, f47⟩
  refine ⟨fun hlt => ?_, fun hge => ?_⟩
  · have hlt := of_decide_eq_true hlt
    have hml : m < WS.length := by omega
    obtain ⟨y, hy, hc⟩ := (hr.keep f47 (by simp)) m _ (uv_get hml)
    have e1 : IntKind.i64.wrap ((m : Int) + 1) = ((m + 1 : Nat) : Int) := by rw [wrap_i64 (by omega) (by omega)]; omega
    refine ⟨⟨by omega, by omega⟩, y, hy, _, by rw [Int.toNat_natCast, Nat.mul_one]; exact hc, by decide, by decide, by decide, ?_⟩
    rw [outw1_eq, e1]
    have hg : WS.getD m 0 = WS[m] := by rw [List.getD_eq_getElem?_getD, List.getElem?_eq_getElem hml]; rfl
    rw [hg]
    have htk : out (WS.take (m + 1)) = out (WS.take m) ++ outw WS[m] := by
      rw [List.take_succ_eq_append_getElem hml, out, List.flatMap_append]; simp [out]
    generalize WS[m] = x at htk
    intro w50 hw50
    have f50 : Fr (fun _ => False) w47 w50 := hw50 ▸ Fr.alloc _ _ _
    have hz50 := alloc_new w47 (.cells (byteV (outw x)).toArray T_uint8)
    rw [← hw50] at hz50
    have hrd : Reads w50 (some ⟨w47.heap.size, 0, none⟩) (byteV (outw x)) := fun i v hv => by
      refine ⟨_, rfl, ?_⟩
      rw [add_lit, cell_blk hz50, Nat.zero_add, ← hv]; simp
    have hl : (byteV (out (WS.take m))).length = 4 * m := by rw [List.length_map, houtl, List.length_take]; omega
    obtain ⟨w51, l52, hr51, o51, f51⟩ := append_all elByte (o47.keep f50 (by simp)) 4 hrd (byteV_one _) (by rw [hl]; simp [outw, maxLen]; omega) (by rw [hl]; simp [outw]; omega) (f47.trans' f50).size (m := 4) (by simp [outw])
    refine ⟨w51, l52, hr51, ⟨m + 1, by omega, rfl, ?_, (f47.trans' f50).trans f51 (fun q hq ⟨y, hy, e⟩ => by have := (o47.blk hy).1; omega)⟩, by dsimp only; omega⟩
    rw [htk, byteV, List.map_append]; exact o51
  · have hge := of_decide_eq_false hge
    have : m = WS.length := by omega
    subst this
    rw [List.take_length] at o47
    exact ⟨w47, _, bytes_str elByte.sl (by kernel_rfl) (by kernel_rfl) _ o47.reads (by rw [o47.len, List.length_map]), rfl, f47⟩
end Go.Proofs.YtfoeooddnmppnaaDoor

/- What the reference's Sum256 does. Conditions: the text is short enough for a slice to hold (2 to the 40th); the constants are those of its Table. -/
set_option linter.unusedVariables false
namespace Go.Proofs.YtfoeooddnmppnaaDoor
open Go Vc ShaM Go.Proofs

set_option maxRecDepth 100000 in
theorem start2_roots : ((primesTo 310).take 8).map (fun p : Nat => BitVec.ofInt 32 (root2 (p : Int))) = start2 := by decide +kernel

theorem rsum256_spec (x : ByteArray) (hx : x.size + 200 ≤ 1099511627776) {a : Option Addr} (c : Nat) (w : World) (hK : Reads w a (uv K256)) :
    Calls Tryd.prog F_cartularyref02_Sum256 #[.string x, .slice a 64 c] w fun e w' => e = .returned (.string ⟨(digest (block2 K256) start2 x.data.toList).toArray⟩) ∧ Fr (fun _ => False) w w' := by
  refine vc_cartularyref02_Sum256_ok (R := fun v w' => v = .string ⟨(digest (block2 K256) start2 x.data.toList).toArray⟩ ∧ Fr (fun _ => False) w w') ?_ (fun v w' h => ⟨by rw [h.1], h.2⟩)
  have hKl := K256_len
  have hdg : digest (block2 K256) start2 x.data.toList = out (blocks (block2 K256) ((pad x.data.toList).length / 64) start2 (pad x.data.toList)) := rfl
  rw [hdg]
  generalize K256 = K at hK hKl ⊢
  refine (rpad_spec x (by omega) w).mono ?_
  rintro e w2 ⟨l3, rfl, o3, f2⟩
  refine ⟨l3, rfl, ?_⟩
  intro w4 hw4
  have f4 : Fr (fun _ => False) w2 w4 := hw4 ▸ Fr.alloc _ _ _
  have oh4 : Vc.Own w4 w2.heap.size T_uint32 ⟨some ⟨w2.heap.size, 0, none⟩, 0, 0⟩ [] := ⟨rfl, .inr ⟨w2.heap.size, #[], rfl, Nat.le_refl _, hw4 ▸ alloc_new _ _, Nat.le_refl _, Nat.zero_le _, rfl, rfl⟩⟩
  have hlt4 : w2.heap.size < w4.heap.size := by rw [hw4]; simp
  have hpl := pad_length x.data.toList
  have hplen : (pad x.data.toList).length ≤ x.size + 200 := by
    unfold pad; simp; omega
  generalize pad x.data.toList = P at o3 hpl hplen ⊢
  obtain ⟨Q, hQ⟩ : ∃ Q, P.length = 64 * Q := ⟨P.length / 64, by omega⟩
  have hll3 : l3.len = 64 * Q := by rw [o3.len, List.length_map, hQ]
  have hcap3 := o3.cap
  rw [show P.length / 64 = Q by omega]
  have hps := primes_spec 8 (by decide) w4
  have hroots := start2_roots
  have hpl8 : ((primesTo 310).take 8).length = 8 := by rw [List.length_take, primes_64]; rfl
  generalize (primesTo 310).take 8 = L at hps hroots hpl8
  refine hps.mono ?_
  rintro e w6 ⟨l7, rfl, o7, f6⟩
  refine ⟨l7, rfl, ?_⟩
  have hl7 : l7.len = 8 := by rw [o7.len, List.length_map, hpl8]
  have hRget : ∀ (k : Nat) (h : k < L.length), start2.take (k + 1) = start2.take k ++ [BitVec.ofInt 32 (root2 ((L[k]'h : Nat) : Int))] := fun k h => by
    have hk : k < start2.length := by rw [← hroots, List.length_map]; exact h
    have hg : start2[k]'hk = BitVec.ofInt 32 (root2 ((L[k]'h : Nat) : Int)) := by
      have : start2[k]? = some (BitVec.ofInt 32 (root2 ((L[k]'h : Nat) : Int))) := by rw [← hroots, List.getElem?_map, List.getElem?_eq_getElem h]; rfl
      exact (List.getElem?_eq_some_iff.1 this).2
    rw [List.take_succ_eq_append_getElem hk, hg]
  have f26 := f4.trans' f6
  refine ⟨fun l i w' => ∃ k : Nat, k ≤ 8 ∧ i = (k : Int) ∧ Vc.Own w' w2.heap.size T_uint32 l (uv (start2.take k)) ∧ (∀ y, l.a = some y → y.block < w4.heap.size ∨ w6.heap.size ≤ y.block) ∧ Vc.Own w' w4.heap.size T_uint64 l7 (qv L) ∧ Fr (fun _ => False) w2 w' ∧ w6.heap.size ≤ w'.heap.size, fun _ i _ => (8 - i).toNat,
    ⟨0, by decide, rfl, oh4.keep f6 (by simp), fun y hy => by cases hy; exact .inl hlt4, o7, f26, Nat.le_refl _⟩, ?_⟩
  rintro l10 i w12 ⟨k, hk, rfl, ol, hdis, o7', f12, hs12⟩
  refine ⟨fun hlt => ?_, fun hge => ?_⟩
  · have hlt := of_decide_eq_true hlt
    have hkl : k < L.length := by omega
    have hkg := hRget k hkl
    obtain ⟨y, hy, hc⟩ := o7'.reads k (.int .u64 ((L[k]'hkl : Nat) : Int)) (by rw [qv, List.getElem?_map, List.getElem?_eq_getElem hkl]; rfl)
    have e1 : IntKind.i64.wrap ((k : Int) + 1) = ((k + 1 : Nat) : Int) := by rw [wrap_i64 (by omega) (by omega)]; omega
    rw [e1]
    refine ⟨⟨by omega, by omega⟩, y, hy, _, by rw [Int.toNat_natCast, Nat.mul_one]; exact hc, ?_⟩
    generalize L[k]'hkl = p at hkg
    refine (root_spec under2 2 under2_spec p w12).mono ?_
    rintro e w16 ⟨rfl, rfl⟩
    refine ⟨_, rfl, ?_⟩
    intro w18 hw18
    have hr3 : IntKind.u32.wrap (rootI under2 p 41 0) = ((BitVec.ofInt 32 (root2 (p : Int))).toNat : Int) := by rw [root2, root_bv]
    rw [hr3] at hw18
    have hlen : (uv (start2.take k)).length = k := by rw [uv_len, List.length_take]; show min k 8 = k; omega
    obtain ⟨w19, l20, hr, o20, f20, s20⟩ := append_one' elU32 ol (v := .int .u32 ((BitVec.ofInt 32 (root2 (p : Int))).toNat : Int)) rfl (by rw [hlen]; unfold maxLen; omega) (by rw [hlen]; omega) f12.size hw18
    have hX : ∀ q, Vc.At l10 q → w2.heap.size ≤ q ∧ (q < w4.heap.size ∨ w6.heap.size ≤ q) := fun q ⟨y, hy, e⟩ => by rw [e]; exact ⟨(ol.blk hy).1, hdis y hy⟩
    have o7b : ∀ x, l7.a = some x → w4.heap.size ≤ x.block ∧ x.block < w6.heap.size := fun x hx => o7.blk hx
    refine ⟨w19, l20, hr, ⟨k + 1, by omega, rfl, ?_, ?_, o7'.keep f20 (fun x hx h => by have := hX _ h; have := o7b x hx; omega), f12.trans f20 (fun q hq h => by have := (hX q h).1; omega), by have := f20.size; omega⟩, by dsimp only; omega⟩
    · rw [hkg, uv, List.map_append]; exact o20
    · intro y hy
      rcases s20 y hy with ⟨z, hz, hzb⟩ | hn
      · rw [← hzb]; exact hdis z hz
      · exact .inr (by omega)
  have hge := of_decide_eq_false hge
  have : k = 8 := by omega
  subst this
  rw [show start2.take 8 = start2 from rfl] at ol
  clear hroots hRget o7' hps
  refine ⟨fun l i w' => ∃ k : Nat, k ≤ Q ∧ i = ((64 * k : Nat) : Int) ∧ Vc.Own w' w2.heap.size T_uint32 l (uv (blocks (block2 K) k start2 P)) ∧ Fr (fun _ => False) w2 w', fun _ i _ => ((64 * Q : Nat) - i).toNat, ⟨0, Nat.zero_le _, rfl, ol, f12⟩, ?_⟩
  rintro l23 i w25 ⟨k, hk, rfl, oh, f25⟩
  have hblen := blocks_length (f := block2 K) (k := 8) (fun h p hl => by rw [block2_length]; exact hl) k start2 P rfl
  have hl23 : l23.len = 8 := by rw [oh.len, uv_len, hblen]
  refine ⟨fun hlt => ?_, fun hge => ?_⟩
  · have hlt := of_decide_eq_true hlt
    have hkQ : k < Q := by omega
    have e1 : IntKind.i64.wrap (((64 * k : Nat) : Int) + 64) = ((64 * (k + 1) : Nat) : Int) := by rw [wrap_i64 (by omega) (by omega)]; omega
    have hcm : l3.cap ≤ maxLen := by
      rcases o3.2 with ⟨_, _, h⟩ | ⟨_, _, _, _, _, _, _, _, h, _⟩
      · rw [h]; decide
      · exact h
    rw [e1, Int.toNat_natCast, Int.toNat_natCast, show 64 * (k + 1) - 64 * k = 64 by omega]
    refine ⟨⟨by omega, by omega, by omega⟩, ?_⟩
    obtain ⟨BB, hBB⟩ : ∃ BB, (P.drop (64 * k)).take 64 = BB := ⟨_, rfl⟩
    have hBl : BB.length = 64 := by rw [← hBB, List.length_take, List.length_drop]; omega
    have hrB : Reads w25 (subA l3.a l3.cap (64 * k) 1) (byteV BB) := by
      have := (((o3.keep f25 (by simp)).reads).sub (cap := l3.cap) (by rw [List.length_map, hQ]; omega) (64 * k)).take 64
      rw [← hBB, byteV, List.map_take, List.map_drop]; exact this
    refine (rwords_spec (c := l3.cap - 64 * k) hrB hBl (by decide)).mono ?_
    rintro e w27 ⟨l28, rfl, o28, f27⟩
    refine ⟨l28, rfl, ?_⟩
    have hE : ∀ k, (E2 BB k).length = k := E2_length BB
    refine ⟨fun l j w' => ∃ q : Nat, 16 ≤ q ∧ q ≤ 64 ∧ j = (q : Int) ∧ Vc.Own w' w25.heap.size T_uint32 l (uv (E2 BB q)) ∧ Fr (fun _ => False) w25 w', fun _ j _ => (64 - j).toNat, ⟨16, by decide, by decide, rfl, by rw [E2_ext BB (by decide)]; exact o28, f27⟩, ?_⟩
    rintro l31 j w33 ⟨q, hq16, hq64, rfl, o31, f33⟩
    have hl31 : l31.len = q := by rw [o31.len, uv_len, hE]
    refine ⟨fun hlt => ?_, fun hge => ?_⟩
    · have hlt := of_decide_eq_true hlt
      have r15 : IntKind.i64.wrap ((q : Int) - 15) = ((q - 15 : Nat) : Int) := by rw [wrap_i64 (by omega) (by omega)]; omega
      have r2 : IntKind.i64.wrap ((q : Int) - 2) = ((q - 2 : Nat) : Int) := by rw [wrap_i64 (by omega) (by omega)]; omega
      have r16 : IntKind.i64.wrap ((q : Int) - 16) = ((q - 16 : Nat) : Int) := by rw [wrap_i64 (by omega) (by omega)]; omega
      have r7 : IntKind.i64.wrap ((q : Int) - 7) = ((q - 7 : Nat) : Int) := by rw [wrap_i64 (by omega) (by omega)]; omega
      have r1 : IntKind.i64.wrap ((q : Int) + 1) = ((q + 1 : Nat) : Int) := by rw [wrap_i64 (by omega) (by omega)]; omega
      obtain ⟨y, hy, _⟩ := own_get o31 (i := 0) (by rw [hE]; omega)
      have g : ∀ {w' : World}, Reads w' l31.a (uv (E2 BB q)) → ∀ j, j < q → w'.cell? (y.add j) = some (.int .u32 (((E2 BB q).getD j 0).toNat : Int)) := fun {w'} hr j hj => by
        obtain ⟨z, hz, hc⟩ := hr j _ (uv_get (by rw [hE]; exact hj))
        rw [hy] at hz; cases hz; exact hc
      rw [r15, r2, r16, r7, r1]
      simp only [Int.toNat_natCast, Nat.mul_one]
      refine ⟨⟨by omega, by omega⟩, y, hy, _, g o31.reads _ (by omega), ⟨by omega, by omega⟩, y, hy, _, g o31.reads _ (by omega), fun w38 d38 w39 d39 => ?_⟩
      have o39 := (o31.drew d38).drew d39
      have f39 := (f33.trans' (.drew _ d38)).trans' (.drew _ d39)
      refine ⟨fun w' => Reads w' l31.a (uv (E2 BB q)), o39.reads, ⟨by omega, by omega⟩, y, hy, _, fun w hw => g hw _ (by omega), by decide, ⟨by omega, by omega⟩, y, hy, _, fun w hw => g hw _ (by omega), by decide, ?_⟩
      refine (turn2_spec _ 25 (by decide) w39).mono ?_
      rintro e w48 ⟨rfl, d48⟩
      refine ⟨_, rfl, (o39.drew d48).reads, ?_⟩
      refine (turn2_spec _ 14 (by decide) w48).mono ?_
      rintro e w51 ⟨rfl, d51⟩
      refine ⟨_, rfl, ((o39.drew d48).drew d51).reads, ?_⟩
      refine (turn2_spec _ 15 (by decide) w51).mono ?_
      rintro e w54 ⟨rfl, d54⟩
      refine ⟨_, rfl, (((o39.drew d48).drew d51).drew d54).reads, ?_⟩
      refine (turn2_spec _ 13 (by decide) w54).mono ?_
      rintro e w57 ⟨rfl, d57⟩
      have o57 := ((((o39.drew d48).drew d51).drew d54).drew d57)
      have f57 := (((f39.trans' (.drew _ d48)).trans' (.drew _ d51)).trans' (.drew _ d54)).trans' (.drew _ d57)
      refine ⟨_, rfl, o57.reads, ?_⟩
      simp only [u_of, u_wrap, shr3, shr10, u_add]
      rw [← nxt2_at (hE q)]
      intro w59 hw59
      have f59 : Fr (fun _ => False) w57 w59 := hw59 ▸ Fr.alloc _ _ _
      have hl : (uv (E2 BB q)).length = q := by rw [uv_len, hE]
      obtain ⟨w60, l61, hr60, o60, f60⟩ := append_one elU32 o57 (v := .int .u32 (((nxt2 (E2 BB q)).toNat : Nat) : Int)) rfl (by rw [hl]; unfold maxLen; omega) (by rw [hl]; omega) f57.size hw59
      have hold := append_old elU32 o57 (v := .int .u32 (((nxt2 (E2 BB q)).toNat : Nat) : Int)) rfl (by rw [hl]; unfold maxLen; omega) (by rw [hl]; omega) hw59 hr60
      refine ⟨(o57.keep f59 (by simp)).reads, w60, l61, hr60, hold, ⟨q + 1, by omega, by omega, rfl, ?_, f57.trans f60 (fun p hp ⟨y, hy, e⟩ => by have := (o57.blk hy).1; omega)⟩, by omega⟩
      rw [E2_high BB hq16, uv, List.map_append]; exact o60
    have hge := of_decide_eq_false hge
    have : q = 64 := by omega
    subst this
    rw [E2_ext BB (by decide)] at o31
    obtain ⟨H, hH⟩ : ∃ H, blocks (block2 K) k start2 P = H := ⟨_, rfl⟩
    rw [hH] at oh hblen
    have hstep : blocks (block2 K) (k + 1) start2 P = adds H (rds2 K (ext2 48 (words BB)) H) := by
      rw [blocks_step (block2 K), hBB, hH]; rfl
    have oh33 := oh.keep f33 (by simp)
    generalize ext2 48 (words BB) = S at o31 hstep
    have hS : S.length = 64 := by have := o31.len; rw [uv_len] at this; omega
    intro w62 hw62
    have f62 : Fr (fun _ => False) w33 w62 := hw62 ▸ Fr.alloc _ _ _
    have ov62 : Vc.Own w62 w33.heap.size T_uint32 ⟨some ⟨w33.heap.size, 0, none⟩, 0, 0⟩ [] := ⟨rfl, .inr ⟨w33.heap.size, #[], rfl, Nat.le_refl _, hw62 ▸ alloc_new _ _, Nat.le_refl _, Nat.zero_le _, rfl, rfl⟩⟩
    obtain ⟨w63, l64, hr63, ov63, f63'⟩ := append_all elU32 ov62 l23.cap ((oh33.keep f62 (by simp)).reads) (one_uv _) (by rw [List.length_nil, uv_len, hblen]; decide) (by rw [List.length_nil, uv_len, hblen]; decide) f62.size (m := l23.len) (by rw [uv_len, hblen, hl23])
    rw [List.nil_append] at ov63
    have f63 : Fr (fun _ => False) w33 w63 := f62.trans f63' (fun p hp ⟨y, hy, e⟩ => by cases hy; simp only at e; omega)
    refine ⟨w63, l64, hr63, ?_⟩
    have f2_33 := f25.trans' f33
    have fK : ∀ {w' : World}, Fr (fun _ => False) w33 w' → Reads w' a (uv K) := fun {w'} hf => hK.keep ((f2.trans' f2_33).trans' hf) (by simp)
    refine ⟨fun l i w' => ∃ (m : Nat) (v : List ShaM.W), m ≤ 64 ∧ i = (m : Int) ∧ v.length = 8 ∧ rds2 K S H = rds2 (K.drop m) (S.drop m) v ∧ Vc.Own w' w33.heap.size T_uint32 l (uv v) ∧ Fr (fun _ => False) w33 w', fun _ i _ => (64 - i).toNat,
      ⟨0, H, by decide, rfl, hblen, rfl, ov63, f63⟩, ?_⟩
    rintro l67 i w69 ⟨m, v, hm, rfl, hvl, hv, oV, f69⟩
    have hl67 : l67.len = 8 := by rw [oV.len, uv_len, hvl]
    refine ⟨fun hlt => ?_, fun hge => ?_⟩
    · have hlt := of_decide_eq_true hlt
      have e1 : IntKind.i64.wrap ((m : Int) + 1) = ((m + 1 : Nat) : Int) := by rw [wrap_i64 (by omega) (by omega)]; omega
      obtain ⟨A, B, C, D, E, F, G, Z, rfl⟩ : ∃ a b c d e f g q, v = [a, b, c, d, e, f, g, q] := by
        match v, hvl with
        | [a, b, c, d, e, f, g, q], _ => exact ⟨_, _, _, _, _, _, _, _, rfl⟩
      obtain ⟨y, hy, _⟩ := own_get oV (i := 0) (by simp)
      have gv : ∀ {w' : World}, Vc.Own w' w33.heap.size T_uint32 l67 (uv [A, B, C, D, E, F, G, Z]) → ∀ j, j < 8 → w'.cell? (Addr.add y (j * 1)) = some (.int .u32 ((([A, B, C, D, E, F, G, Z] : List ShaM.W).getD j 0).toNat : Int)) := fun {w'} o j hj => by
        obtain ⟨z, hz, hc⟩ := own_get o (i := j) hj
        rw [hy] at hz; cases hz; rw [Nat.mul_one]; exact hc
      have hst : rds2 (K.drop m) (S.drop m) [A, B, C, D, E, F, G, Z] = rds2 (K.drop (m + 1)) (S.drop (m + 1)) (rd2 (K.getD m 0) (S.getD m 0) [A, B, C, D, E, F, G, Z]) := by
        have hkK : m < K.length := by omega
        have hkS : m < S.length := by omega
        rw [List.drop_eq_getElem_cons hkK, List.drop_eq_getElem_cons hkS]
        simp [rds2, hkK, hkS]
      rw [e1, hl67, hl31]
      intro w70 d70
      have f70 := f69.trans' (.drew _ d70)
      obtain ⟨yK, hyK, hcK⟩ := (fK f70) m _ (uv_get (by omega))
      obtain ⟨yS, hyS, hcS⟩ := own_get (o31.keep f70 (by simp)) (i := m) (by omega)
      have oV70 := oV.drew d70
      have pk : ∀ {w' : World}, Drew w70 w' → ∀ j, j < 8 → w'.cell? (Addr.add y (j * 1)) = some (.int .u32 ((([A, B, C, D, E, F, G, Z] : List ShaM.W).getD j 0).toNat : Int)) := fun {w'} d j hj => gv (oV70.drew d) j hj
      refine ⟨fun w => Drew w70 w, .refl _, ⟨by decide, by decide⟩, y, hy, _, fun w hw => pk hw 7 (by decide), ⟨by decide, by decide⟩, y, hy, _, fun w hw => pk hw 4 (by decide), ⟨by decide, by decide⟩, y, hy, _, fun w hw => pk hw 4 (by decide), ⟨by decide, by decide⟩, y, hy, _, fun w hw => pk hw 4 (by decide),
        ⟨by decide, by decide⟩, y, hy, _, fun w hw => pk hw 4 (by decide), ⟨by decide, by decide⟩, y, hy, _, fun w hw => pk hw 5 (by decide), ⟨by decide, by decide⟩, y, hy, _, fun w hw => pk hw 4 (by decide), ⟨by decide, by decide⟩, y, hy, _, fun w hw => pk hw 6 (by decide),
        ⟨by omega, by omega⟩, yK, hyK, _, fun w hw => by rw [Int.toNat_natCast, Nat.mul_one, hw.cell]; exact hcK, ⟨by omega, by omega⟩, yS, hyS, _, fun w hw => by rw [Int.toNat_natCast, Nat.mul_one, hw.cell]; exact hcS, ?_⟩
      refine (turn2_spec _ 26 (by decide) w70).mono ?_
      rintro e w103 ⟨rfl, d103⟩
      refine ⟨_, rfl, d103, ?_⟩
      refine (turn2_spec _ 21 (by decide) w103).mono ?_
      rintro e w106 ⟨rfl, d106⟩
      refine ⟨_, rfl, d103.trans d106, ?_⟩
      refine (turn2_spec _ 7 (by decide) w106).mono ?_
      rintro e w109 ⟨rfl, d109⟩
      refine ⟨_, rfl, (d103.trans d106).trans d109, ?_⟩
      intro w111 d111
      have d11 := ((d103.trans d106).trans d109).trans d111
      refine ⟨fun w => Drew w70 w, d11, ⟨by decide, by decide⟩, y, hy, _, fun w hw => pk hw 0 (by decide), ⟨by decide, by decide⟩, y, hy, _, fun w hw => pk hw 0 (by decide), ⟨by decide, by decide⟩, y, hy, _, fun w hw => pk hw 0 (by decide), ⟨by decide, by decide⟩, y, hy, _, fun w hw => pk hw 0 (by decide),
        ⟨by decide, by decide⟩, y, hy, _, fun w hw => pk hw 1 (by decide), ⟨by decide, by decide⟩, y, hy, _, fun w hw => pk hw 0 (by decide), ⟨by decide, by decide⟩, y, hy, _, fun w hw => pk hw 2 (by decide), ⟨by decide, by decide⟩, y, hy, _, fun w hw => pk hw 1 (by decide), ⟨by decide, by decide⟩, y, hy, _, fun w hw => pk hw 2 (by decide), ?_⟩
      refine (turn2_spec _ 30 (by decide) w111).mono ?_
      rintro e w141 ⟨rfl, d141⟩
      refine ⟨_, rfl, d11.trans d141, ?_⟩
      refine (turn2_spec _ 19 (by decide) w141).mono ?_
      rintro e w144 ⟨rfl, d144⟩
      refine ⟨_, rfl, (d11.trans d141).trans d144, ?_⟩
      refine (turn2_spec _ 10 (by decide) w144).mono ?_
      rintro e w147 ⟨rfl, d147⟩
      refine ⟨_, rfl, ((d11.trans d141).trans d144).trans d147, ?_⟩
      intro w149 d149
      have d14 := (((d11.trans d141).trans d144).trans d147).trans d149
      refine ⟨⟨by decide, by decide⟩, y, hy, _, pk d14 0 (by decide), ⟨by decide, by decide⟩, y, hy, _, pk d14 1 (by decide), ⟨by decide, by decide⟩, y, hy, _, pk d14 2 (by decide), ⟨by decide, by decide⟩, y, hy, _, pk d14 3 (by decide), ⟨by decide, by decide⟩, y, hy, _, pk d14 4 (by decide),
        ⟨by decide, by decide⟩, y, hy, _, pk d14 5 (by decide), ⟨by decide, by decide⟩, y, hy, _, pk d14 6 (by decide), ?_⟩
      rw [ones32]
      simp only [u_of, u_wrap, u_add, BitVec.xor_allOnes]
      intro w164 hw164
      have f164 : Fr (fun _ => False) w149 w164 := hw164 ▸ Fr.alloc _ _ _
      have fall := (f70.trans' (.drew _ d14)).trans' f164
      refine ⟨⟨m + 1, rd2 (K.getD m 0) (S.getD m 0) [A, B, C, D, E, F, G, Z], by omega, rfl, rfl, by rw [hv, hst], ?_, fall⟩, by omega⟩
      exact ⟨rfl, .inr ⟨w149.heap.size, _, rfl, (f70.trans' (.drew _ d14)).size, hw164 ▸ alloc_new _ _, Nat.le_refl _, by simp [maxLen], rfl, rfl⟩⟩
    have hge := of_decide_eq_false hge
    have : m = 64 := by omega
    subst this
    have hKn : K.drop 64 = [] := List.drop_eq_nil_of_le (by omega)
    have hSn : S.drop 64 = [] := List.drop_eq_nil_of_le (by omega)
    rw [hKn, hSn] at hv
    have hv : rds2 K S H = v := hv
    rw [hv] at hstep
    intro w165 hw165
    have f165 : Fr (fun _ => False) w69 w165 := hw165 ▸ Fr.alloc _ _ _
    have on165 : Vc.Own w165 w69.heap.size T_uint32 ⟨some ⟨w69.heap.size, 0, none⟩, 0, 0⟩ [] := ⟨rfl, .inr ⟨w69.heap.size, #[], rfl, Nat.le_refl _, hw165 ▸ alloc_new _ _, Nat.le_refl _, Nat.zero_le _, rfl, rfl⟩⟩
    have oh69 := oh33.keep f69 (by simp)
    have hal : (adds H v).length = 8 := by rw [adds_zip, List.length_zipWith]; omega
    refine ⟨fun l i w' => ∃ m : Nat, m ≤ 8 ∧ i = (m : Int) ∧ Vc.Own w' w69.heap.size T_uint32 l (uv ((adds H v).take m)) ∧ Fr (fun _ => False) w69 w', fun _ i _ => (8 - i).toNat, ⟨0, by decide, rfl, on165, f165⟩, ?_⟩
    rintro l168 i w170 ⟨m, hm, rfl, on, f170⟩
    rw [hl23, hl67]
    refine ⟨fun hlt => ?_, fun hge => ?_⟩
    · have hlt := of_decide_eq_true hlt
      have hm8 : m < 8 := by omega
      have e1 : IntKind.i64.wrap ((m : Int) + 1) = ((m + 1 : Nat) : Int) := by rw [wrap_i64 (by omega) (by omega)]; omega
      rw [e1]
      intro w171 d171
      have f171 := f170.trans' (.drew _ d171)
      have hm1 : m < H.length := by omega
      have hm2 : m < v.length := by omega
      have gH : ∀ {w' : World}, Fr (fun _ => False) w69 w' → ∃ y, l23.a = some y ∧ w'.cell? (y.add m) = some (.int .u32 ((H.getD m 0).toNat : Int)) := fun {w'} hf => own_get (oh69.keep hf (by simp)) hm1
      have gV : ∀ {w' : World}, Fr (fun _ => False) w69 w' → ∃ y, l67.a = some y ∧ w'.cell? (y.add m) = some (.int .u32 ((v.getD m 0).toNat : Int)) := fun {w'} hf => own_get (oV.keep hf (by simp)) hm2
      obtain ⟨y1, hy1, _⟩ := gH f171
      obtain ⟨y2, hy2, _⟩ := gV f171
      refine ⟨fun w => Fr (fun _ => False) w69 w, f171, ⟨by omega, by omega⟩, y1, hy1, (H.getD m 0).toNat, fun w hw => ?_, ⟨by omega, by omega⟩, y2, hy2, (v.getD m 0).toNat, fun w hw => ?_, ?_⟩
      · obtain ⟨z, hz, hc⟩ := gH hw
        rw [hy1] at hz; cases hz
        rw [Int.toNat_natCast, Nat.mul_one]; exact hc
      · obtain ⟨z, hz, hc⟩ := gV hw
        rw [hy2] at hz; cases hz
        rw [Int.toNat_natCast, Nat.mul_one]; exact hc
      rw [u_add]
      have htk : (adds H v).take (m + 1) = (adds H v).take m ++ [H.getD m 0 + v.getD m 0] := by
        have hx : (adds H v)[m]'(by omega) = H.getD m 0 + v.getD m 0 := by
          simp only [adds_zip, List.getElem_zipWith, List.getD_eq_getElem?_getD, List.getElem?_eq_getElem hm1, List.getElem?_eq_getElem hm2, Option.getD_some]
        rw [List.take_succ_eq_append_getElem (by omega), hx]
      intro w179 hw179
      have f179 : Fr (fun _ => False) w171 w179 := hw179 ▸ Fr.alloc _ _ _
      have hl : (uv ((adds H v).take m)).length = m := by rw [uv_len, List.length_take, hal]; omega
      obtain ⟨w180, l181, hr180, o180, f180⟩ := append_one elU32 (on.drew d171) (v := .int .u32 (((H.getD m 0 + v.getD m 0).toNat : Nat) : Int)) rfl (by rw [hl]; unfold maxLen; omega) (by rw [hl]; omega) f171.size hw179
      have fall : Fr (fun _ => False) w69 w180 := f171.trans f180 (fun p hp ⟨y, hy, e⟩ => by have := (on.blk hy).1; omega)
      refine ⟨f171.trans' f179, w180, l181, hr180, fall, ⟨m + 1, by omega, rfl, ?_, fall⟩, by dsimp only; omega⟩
      rw [htk, uv, List.map_append]; exact o180
    · have hge := of_decide_eq_false hge
      have : m = 8 := by omega
      subst this
      rw [List.take_of_length_le (by omega), ← hstep] at on
      have f2_69 := f2_33.trans' f69
      refine ⟨⟨k + 1, by omega, rfl, on.mono f2_69.size, f2_69.trans' f170⟩, by dsimp only; omega⟩
  · have hge := of_decide_eq_false hge
    have : k = Q := by omega
    subst this
    refine (rout_spec (c := l23.cap) oh.reads (by rw [oh.len, uv_len]) (by rw [oh.len, uv_len, hblen]; decide)).mono ?_
    rintro e w183 ⟨rfl, f183⟩
    exact ⟨_, rfl, rfl, (f2.trans' f25).trans' f183⟩
end Go.Proofs.YtfoeooddnmppnaaDoor

/- ModzipHashes: a module's hash is the one that go.sum has. Conditions: what comes in is within the reach. -/
set_option linter.unusedVariables false
namespace Go.Proofs.YtfoeooddnmppnaaDoor
open Go Vc ShaM HexM StabM B64M Go.Proofs

theorem hex_two (c : UInt8) : hex2R c = [UInt8.ofNat (hx (c.toNat / 16)), UInt8.ofNat (hx (c.toNat % 16))] := by
  have key : ∀ n : Fin 256, hex2R (UInt8.ofNat n.val) = [UInt8.ofNat (hx ((UInt8.ofNat n.val).toNat / 16)), UInt8.ofNat (hx ((UInt8.ofNat n.val).toNat % 16))] := by decide +kernel
  have := key ⟨c.toNat, UInt8.toNat_lt c⟩
  simpa using this
theorem hex_same (l : List UInt8) : l.flatMap hex2R = hexL l := by
  unfold hexL
  induction l with
  | nil => rfl
  | cons c r ih => rw [List.flatMap_cons, List.flatMap_cons, ih, hex_two]
theorem rhash_spec {w : World} {a : Option Addr} {n c : Nat} {xs : List FileE} (hr : ReadsK encF 2 w a xs) (hn : xs.length = n) (hl : n ≤ 20) (m v : ByteArray) (hmv : m.size + v.size ≤ 1000) (hs : ∀ x ∈ xs, x.path.size ≤ 1000 ∧ x.data.size ≤ 1000) {ak : Option Addr} (ck : Nat) (hK : Reads w ak (uv K256)) :
    Calls Tryd.prog F_cartularyref24_Hash #[.string m, .string v, .slice a n c, .slice ak 64 ck] w fun e w' => e = .returned (.string (hashE (isort ltP (xs.map (preF (frontE m v)))))) ∧ Fr (fun _ => False) w w' := by
  obtain ⟨ys, hys⟩ : ∃ ys, isort ltP (xs.map (preF (frontE m v))) = ys := ⟨_, rfl⟩
  refine vc_cartularyref24_Hash_ok (R := fun u w' => u = .string (hashE (isort ltP (xs.map (preF (frontE m v))))) ∧ Fr (fun _ => False) w w') ?_ (fun u w' h => ⟨by rw [h.1], h.2⟩)
  rw [hys]
  have hperm : ys.Perm (xs.map (preF (frontE m v))) := by rw [← hys]; exact (isort_all ordP.tr ordP.asy _ _ rfl).2
  have hyl : ys.length = xs.length := by rw [hperm.length_eq, List.length_map]
  have hfs := front_size m v
  have hyb : ∀ y ∈ ys, y.path.size ≤ 3000 ∧ y.data.size ≤ 1000 := fun y hy => by
    obtain ⟨x, hx, rfl⟩ := List.mem_map.1 (hperm.subset hy)
    obtain ⟨h1, h2⟩ := hs x hx
    exact ⟨by unfold preF; rw [ByteArray.size_append]; omega, h2⟩
  refine (rahead_spec hr hn (by omega) m v (by omega) fun x hx => by have := (hs x hx).1; omega).mono ?_
  rintro e w2 ⟨l3, rfl, ho2, hf2⟩
  have hl3 := ho2.1
  rw [List.length_map] at hl3
  refine ⟨l3, rfl, (rsorted_spec (ho2.reads fun _ => rfl) ho2.1 (by omega)).mono ?_⟩
  rintro e w5 ⟨l, rfl, ho5, hf5⟩
  rw [hys] at ho5
  have hf5' := hf2.trans' hf5
  have hll := ho5.len
  refine ⟨l, rfl, fun s i w' => ∃ k : Nat, i = k ∧ k ≤ ys.length ∧ s.data.toList = (ys.take k).flatMap lineF ∧ Fr (fun _ => False) w5 w', fun _ i _ => ys.length - i.toNat, ⟨0, rfl, Nat.zero_le _, rfl, .refl _ _⟩, ?_⟩
  rintro s i w11 ⟨k, rfl, hk, hs9, hf11⟩
  have hkl2 : ((ys.take k).flatMap lineF).length ≤ 20 * (67 + 3000) := by
    have h1 := lines_len (B := 3000) (ys.take k) fun y hy => (hyb y (List.mem_of_mem_take hy)).1
    rw [List.length_take] at h1
    exact Nat.le_trans h1 (Nat.mul_le_mul_right _ (by omega))
  have hss : s.size ≤ 20 * (67 + 3000) := by rw [← bs_len, hs9]; exact hkl2
  refine ⟨fun hlt => ?_, fun hge => ?_⟩
  · have hlt := of_decide_eq_true hlt
    have hkl : k < ys.length := by omega
    have hx : ys[k]? = some ys[k] := List.getElem?_eq_getElem hkl
    have htk : ys.take (k + 1) = ys.take k ++ [ys[k]] := (List.take_append_getElem hkl).symm
    generalize ys[k] = x at hx htk
    obtain ⟨hx1, hx2⟩ := hyb x (List.mem_of_getElem? hx)
    obtain ⟨ad, had, hld⟩ := load_at (ho5.keep hf11 (by simp)) hx
    refine ⟨⟨by omega, by omega⟩, ad, had, x.path, x.data, by rw [Int.toNat_natCast]; exact hld w11 (.refl _ _), fun w15 h15 => ?_⟩
    subst h15
    obtain ⟨w16, hw16⟩ : ∃ w16, w11.alloc (.cells (encF x).toArray T_api_File) = w16 := ⟨_, rfl⟩
    have hfb : Fr (fun _ => False) w11 w16 := by rw [← hw16]; exact .alloc _ _ _
    have hcell : ∀ w', Fr (fun _ => False) w16 w' → ∀ (j : Nat) v, (encF x)[j]? = some v → w'.cell? ⟨w11.heap.size, j, none⟩ = some v := fun w' hw' j v hv => by
      rw [← hw16] at hw'; exact boxF_cell w11 x hw' (by simp) hv
    have e1 : IntKind.i64.wrap ((k : Int) + 1) = ((k + 1 : Nat) : Int) := by rw [wrap_i64 (by omega) (by omega)]; omega
    rw [e1]
    refine ⟨w16, by rw [← hw16]; exact boxF_run w11 x, fun w17 d17 => ⟨fun w' => Fr (fun _ => False) w17 w', .refl _ _, x.data, fun w' hw' => hcell w' (.trans' (.drew _ d17) hw') 1 _ rfl, x.path, fun w' hw' => hcell w' (.trans' (.drew _ d17) hw') 0 _ rfl, ?_⟩⟩
    have hfw17 : Fr (fun _ => False) w w17 := ((hf5'.trans' hf11).trans' hfb).trans' (.drew _ d17)
    refine (rsum256_spec x.data (by omega) ck w17 (hK.keep hfw17 (by simp))).mono ?_
    rintro e w24 ⟨rfl, hf24⟩
    refine ⟨_, rfl, hf24, (rhex_spec _ (by rw [bs_mksize, sha_len]; decide) w24).mono ?_⟩
    rintro e w27 ⟨rfl, d27⟩
    rw [bs_mk, hex_same]
    have hhx : (ByteArray.mk (hexL (digest (block2 K256) start2 x.data.data.toList)).toArray).size = 64 := by rw [bs_mksize, hexL_length, sha_len]
    have hf27 : Fr (fun _ => False) w17 w27 := hf24.trans' (.drew _ d27)
    have hline : (ByteArray.mk (hexL (digest (block2 K256) start2 x.data.data.toList)).toArray ++ ⟨#[32, 32]⟩ ++ x.path ++ ⟨#[10]⟩).data.toList = lineF x := by
      simp only [bs_app, List.append_assoc]; rfl
    have hlsz : (ByteArray.mk (hexL (digest (block2 K256) start2 x.data.data.toList)).toArray ++ ⟨#[32, 32]⟩ ++ x.path ++ ⟨#[10]⟩).size = 67 + x.path.size := by rw [← bs_len, hline, lineF_len]
    refine ⟨_, rfl, hf27, ?_, ?_, ?_, ?_, ⟨k + 1, rfl, by omega, ?_, ((hf11.trans' hfb).trans' (.drew _ d17)).trans' hf27⟩, by dsimp only; omega⟩
    · rw [hhx]; decide
    · rw [ByteArray.size_append, hhx]
      show 64 + 2 + x.path.size ≤ 9223372036854775807
      omega
    · rw [ByteArray.size_append, ByteArray.size_append, hhx]
      show 64 + 2 + x.path.size + 1 ≤ 9223372036854775807
      omega
    · rw [hlsz]; omega
    · rw [bs_app, hline, hs9, htk, List.flatMap_append, List.flatMap_cons, List.flatMap_nil, List.append_nil]
  · have hge := of_decide_eq_false hge
    have hk' : k = ys.length := by omega
    rw [hk', List.take_length] at hs9
    refine (rsum256_spec s (by omega) ck w11 (hK.keep (hf5'.trans' hf11) (by simp))).mono ?_
    rintro e w30 ⟨rfl, hf30⟩
    refine ⟨_, rfl, (rbase64_spec _ (by rw [bs_mksize, sha_len]; decide) w30).mono ?_⟩
    rintro e w33 ⟨rfl, hf33⟩
    refine ⟨_, rfl, ?_, ?_, (hf5'.trans' hf11).trans' (hf30.trans' hf33)⟩
    · show 3 + _ ≤ 9223372036854775807
      rw [bs_mksize, b64_len, bs_mk, sha_len]; omega
    · rw [bs_mk, hs9]; rfl
/-- What the law makes of a file. -/
def cut100 (x : FileE) : FileE := ⟨fewB x.path 100, fewB x.data 100⟩
theorem hashes_walk {a : Option Addr} {n c : Nat} {W : World} {xs : List FileE} (hr : ReadsK encF 2 W a xs) (hn : xs.length = n) (hc : n ≤ c) (m v : ByteArray) (hml : MaxL W) :
    Calls Tryd.prog F_cartularylaw24_ModzipHashes #[.string m, .string v, .slice a n c] W fun e w' => e = .returned (.bool true) ∧ RowKit.Below W.heap.size W w' := by
  refine vc_cartularylaw24_ModzipHashes_ok (R := fun u w' => u = .bool true ∧ Fr (fun _ => False) W w') ?_ (fun u w' h => ⟨by rw [h.1], (h.2.mono fun _ _ h => h.elim : Fr (fun k => W.heap.size ≤ k) W w').below (Nat.le_refl _)⟩)
  refine (fewS_spec m 100 W).mono ?_
  rintro e w2 ⟨rfl, hw⟩
  replace hw := hw.symm
  subst hw
  refine ⟨_, rfl, (fewS_spec v 100 W).mono ?_⟩
  rintro e w5 ⟨rfl, hw⟩
  replace hw := hw.symm
  subst hw
  refine ⟨_, rfl, ?_⟩
  have hm1 := (fewB_size m 100).1
  have hv1 := (fewB_size v 100).1
  change (fewB m 100).size ≤ 100 at hm1
  refine (short09_spec hr hn hc 6 (by decide)).mono ?_
  rintro e w8 ⟨l, rfl, ho8, hf8⟩
  have hz6 : (shortF xs 6).length ≤ 6 := by unfold shortF; rw [List.length_map, List.length_take]; omega
  generalize shortF xs 6 = zs at *
  have hll := ho8.len
  refine ⟨l, rfl, fun i w' => ∃ k : Nat, i = k ∧ k ≤ zs.length ∧ OwnK encF 2 w' W.heap.size T_api_File l ((zs.take k).map cut100 ++ zs.drop k) ∧ Fr (fun _ => False) W w', fun i _ => zs.length - i.toNat, ⟨0, rfl, Nat.zero_le _, by simpa using ho8, hf8⟩, ?_⟩
  clear ho8
  rintro i w13 ⟨k, rfl, hk, ho, hf⟩
  refine ⟨fun hlt => ?_, fun hge => ?_⟩
  · have hlt := of_decide_eq_true hlt
    have hkl : k < zs.length := by omega
    have hx : zs[k]? = some zs[k] := List.getElem?_eq_getElem hkl
    have hdr : zs.drop k = zs[k] :: zs.drop (k + 1) := List.drop_eq_getElem_cons hkl
    generalize zs[k] = x at hx hdr
    have htl : ((zs.take k).map cut100).length = k := by rw [List.length_map, List.length_take]; omega
    have hxk : ((zs.take k).map cut100 ++ zs.drop k)[k]? = some x := by rw [List.getElem?_append_right (by omega), htl, Nat.sub_self, hdr]; rfl
    obtain ⟨ad, had, hrd⟩ := (ho.reads fun _ => rfl) k x hxk
    have hrd1 := hrd 1 (.string x.data) rfl
    have e1 : IntKind.i64.wrap ((k : Int) + 1) = ((k + 1 : Nat) : Int) := by rw [wrap_i64 (by omega) (by omega)]; omega
    rw [e1]
    refine ⟨⟨by omega, by omega⟩, ad, had, x.data, by rw [Int.toNat_natCast]; exact hrd1, (fewS_spec x.data 100 w13).mono ?_⟩
    rintro e w17 ⟨rfl, hw⟩
    replace hw := hw.symm
    subst hw
    obtain ⟨ad', had', hwr, ho20, hf20⟩ := OwnK.setField (enc := encF) (k := 2) (fun _ => rfl) ho (i := k) (j := 1) (x := x) (y := ⟨x.path, fewB x.data 100⟩) (v := .string (fewB x.data 100)) hxk (show 1 < 2 by decide) rfl
    rw [had] at had'; cases had'
    refine ⟨_, rfl, ⟨by omega, by omega⟩, ad, had, by rw [Int.toNat_natCast]; exact hwr, fun w20 h20 => ?_⟩
    rw [Int.toNat_natCast] at h20
    change w20 = w13.setCell _ (.string (fewB x.data 100)) at h20
    rw [← h20] at ho20 hf20
    have hset : ((zs.take k).map cut100 ++ zs.drop k).set k ⟨x.path, fewB x.data 100⟩ = (zs.take k).map cut100 ++ ⟨x.path, fewB x.data 100⟩ :: zs.drop (k + 1) := by
      rw [List.set_append_right _ _ (by omega), htl, Nat.sub_self, hdr, List.set_cons_zero]
    rw [hset] at ho20
    have hxk2 : ((zs.take k).map cut100 ++ (⟨x.path, fewB x.data 100⟩ : FileE) :: zs.drop (k + 1))[k]? = some ⟨x.path, fewB x.data 100⟩ := by rw [List.getElem?_append_right (by omega), htl, Nat.sub_self]; rfl
    obtain ⟨ad2, had2, hrd2⟩ := (ho20.reads fun _ => rfl) k _ hxk2
    have hrd0 := hrd2 0 (.string x.path) rfl
    have hz0 : ∀ q : Addr, q.add 0 = q := fun q => by cases q; rfl
    rw [hz0] at hrd0
    refine ⟨⟨by omega, by omega⟩, ad2, had2, x.path, by rw [Int.toNat_natCast]; exact hrd0, (fewS_spec x.path 100 w20).mono ?_⟩
    rintro e w24 ⟨rfl, hw⟩
    replace hw := hw.symm
    subst hw
    obtain ⟨ad', had', hwr3, ho27, hf27⟩ := OwnK.setField (enc := encF) (k := 2) (fun _ => rfl) ho20 (i := k) (j := 0) (x := ⟨x.path, fewB x.data 100⟩) (y := cut100 x) (v := .string (fewB x.path 100)) hxk2 (show 0 < 2 by decide) rfl
    rw [had2] at had'; cases had'
    rw [hz0] at hwr3 ho27 hf27
    refine ⟨_, rfl, ⟨by omega, by omega⟩, ad2, had2, by rw [Int.toNat_natCast]; exact hwr3, fun w27 h27 => ?_⟩
    rw [Int.toNat_natCast] at h27
    change w27 = w20.setCell _ (.string (fewB x.path 100)) at h27
    rw [← h27] at ho27 hf27
    refine ⟨⟨k + 1, rfl, by omega, ?_, (hf.trans hf20 fun q hq ⟨y, hy, e⟩ => by have := (ho.blk hy).1; omega).trans hf27 fun q hq ⟨y, hy, e⟩ => by have := (ho.blk hy).1; omega⟩, by dsimp only; omega⟩
    rw [List.set_append_right _ _ (by omega), htl, Nat.sub_self, List.set_cons_zero] at ho27
    rw [List.take_add_one, hx, List.map_append, List.append_assoc]
    exact ho27
  · have hge := of_decide_eq_false hge
    have hk' : k = zs.length := by omega
    rw [hk', List.take_length, List.drop_length, List.append_nil] at ho
    obtain ⟨us, hus⟩ : ∃ us, zs.map cut100 = us := ⟨_, rfl⟩
    rw [hus] at ho
    have hul : us.length ≤ 6 := by rw [← hus, List.length_map]; exact hz6
    have hub : ∀ x ∈ us, x.path.size ≤ 100 ∧ x.data.size ≤ 100 := fun x hx => by
      rw [← hus] at hx
      obtain ⟨y, _, rfl⟩ := List.mem_map.1 hx
      exact ⟨(fewB_size _ _).1, (fewB_size _ _).1⟩
    have hln := ho.1
    refine (awake24_spec (hml.keep hf)).mono ?_
    rintro e w29 ⟨rfl, hf29⟩
    refine ⟨_, rfl, fun _ => ?_, fun h => (by cases h)⟩
    have ho29 := ho.keep hf29 (by simp)
    have hfs := front_size (fewB m 100) (fewB v 100)
    refine (hash_spec (ho29.reads fun _ => rfl) ho29.1 (by omega) (fewB m 100) (fewB v 100) (fun x hx => by have := (hub x hx).1; omega) (by omega) (fun x hx => by have := (hub x hx).2; omega)).mono ?_
    rintro e w32 ⟨ys, rfl, _, _, hi, hf32⟩
    refine ⟨_, rfl, (ktable_spec w32).mono ?_⟩
    rintro e w35 ⟨lk, rfl, hok, hf35⟩
    have hlk : lk.len = 64 := by rw [hok.len, uv_len, K256_len]
    have ho35 := ho29.keep (hf32.trans' hf35) (by simp)
    refine ⟨lk, rfl, ?_⟩
    rw [hlk]
    refine (rhash_spec (ho35.reads fun _ => rfl) ho35.1 (by omega) (fewB m 100) (fewB v 100) (by omega) (fun x hx => by have := hub x hx; omega) lk.cap hok.reads).mono ?_
    rintro e w38 ⟨rfl, hf38⟩
    rw [hi (by omega)]
    exact ⟨_, rfl, by rw [bs_eq, decide_eq_true rfl], (((hf.trans' hf29).trans' hf32).trans' hf35).trans' hf38⟩
end Go.Proofs.YtfoeooddnmppnaaDoor

/- Slices of structs that came in, opened to cells. No condition: for all programs. -/
set_option linter.unusedVariables false
namespace Vc
open Go Go.ChangeShapes Go.WideShapes Go.Deep
section
variable {H : Type} {enc : TypeId × Value → H} {P : Program} {w : World} {base : Nat} {spare : Nat → Bool} {held : Bool}
/-- What the fields of an element say, its cells say. -/
def FieldsSay (enc : TypeId × Value → H) (P : Program) (w : World) (base : Nat) (spare : Nat → Bool) (held : Bool) (fs : Array Field) (Q : List Value → Prop) : Prop :=
  ∀ n (cs : List Value), cs.length = fs.size → (∀ (j : Nat) (f : Field) (v : Value), fs[j]? = some f → cs[j]? = some v → ∃ y, DataW.trod enc P w base spare held n f.type [v] = some y) → Q cs
theorem open_rows {t e : TypeId} {fs : Array Field} {fuel : Nat} {a : Option Addr} {len cap : Nat} {x : DataW H × List MemPlace} {Q : List Value → Prop} (ht : P.underlying t = some (.slice e)) (he : P.underlying e = some (.struct fs))
    (hone : oneCellFields P fs = true) (hC : P.cellsOf e = fs.size) (hQ : FieldsSay enc P w base spare held fs Q) (h : DataW.trod enc P w base spare held fuel t [.slice a len cap] = some x) : IsRows fs.size Q w a len := by
  intro i hi
  rcases open_slice ht h with ⟨h0, _⟩ | ⟨b, l, c, m, n, D, Pl, hcs, hb, hl, hm, hmm, hx, hi'⟩
  · simp only [List.cons.injEq, Value.slice.injEq] at h0; omega
  · simp only [List.cons.injEq, Value.slice.injEq, and_true] at hcs
    obtain ⟨rfl, rfl, rfl⟩ := hcs
    obtain ⟨cs, hc, htr⟩ := hi' i (by rw [hmm]; split <;> omega)
    obtain ⟨ys, n', _, _, hlen, hyl, hf⟩ := DataW.trod_struct he htr
    obtain ⟨_, hcl, hat⟩ := World.cells?_some hc
    rw [hC] at hcl hat
    refine ⟨b, cs, rfl, hcl, hQ n' cs hcl ?_, ?_⟩
    · intro j f v hj hv
      obtain ⟨ho, hk⟩ := hone_of hone j f hj
      have hjl : j < fs.size := (Array.getElem?_eq_some_iff.1 hj).1
      have h1 := hf j f hj
      have h2 : (cs.drop j).take 1 = [v] := by
        obtain ⟨hjl', hv'⟩ := List.getElem?_eq_some_iff.1 hv
        rw [List.drop_eq_getElem_cons hjl', hv']; rfl
      rw [ho, hk, h2, List.getElem?_eq_getElem (show j < ys.length by omega)] at h1
      exact ⟨_, h1⟩
    · intro j v hv
      have hjl := (List.getElem?_eq_some_iff.1 hv).1
      rw [← hv, ← hat j (by omega), add_add]
/-- As above, and what was read takes no more bytes than memory has. -/
def FieldsSayW (enc : TypeId × Value → H) (P : Program) (w : World) (base : Nat) (spare : Nat → Bool) (held : Bool) (fs : Array Field) (Q : List Value → Prop) : Prop :=
  ∀ n (cs : List Value), cs.length = fs.size → (∀ (j : Nat) (f : Field) (v : Value), fs[j]? = some f → cs[j]? = some v → ∃ y, DataW.trod enc P w base spare held n f.type [v] = some y ∧ (y.1.weights P f.type).all (· ≤ reachBytes) = true) → Q cs
theorem weightsAll_mem {e : TypeId} : ∀ {ds : List (DataW H)} {d : DataW H}, d ∈ ds → ∀ n ∈ d.weights P e, n ∈ DataW.weightsAll P e ds
  | d0 :: ds, d, h, n, hn => by
    simp only [DataW.weightsAll, List.mem_append]
    rcases List.mem_cons.1 h with rfl | h
    · exact .inl hn
    · exact .inr (weightsAll_mem h n hn)
theorem open_rowsW {t e : TypeId} {fs : Array Field} {fuel : Nat} {a : Option Addr} {len cap : Nat} {x : DataW H × List MemPlace} {Q : List Value → Prop} (ht : P.underlying t = some (.slice e)) (he : P.underlying e = some (.struct fs))
    (hone : oneCellFields P fs = true) (hC : P.cellsOf e = fs.size) (hsz : (x.1.weights P t).all (· ≤ reachBytes) = true) (hQ : FieldsSayW enc P w base spare held fs Q) (h : DataW.trod enc P w base spare held fuel t [.slice a len cap] = some x) : IsRows fs.size Q w a len ∧ len ≤ cap := by
  rcases open_slice ht h with ⟨h0, _⟩ | ⟨b, l, c, m, n, D, Pl, hcs, hb, hl, hm, hmm, hx, hi'⟩
  · simp only [List.cons.injEq, Value.slice.injEq, and_true] at h0
    exact ⟨fun i hi => by omega, by omega⟩
  · simp only [List.cons.injEq, Value.slice.injEq, and_true] at hcs
    obtain ⟨rfl, rfl, rfl⟩ := hcs
    refine ⟨fun i hi => ?_, hl⟩
    obtain ⟨cs, hc, htr⟩ := hi' i (by rw [hmm]; split <;> omega)
    have hwD : ((D i).weights P e).all (· ≤ reachBytes) = true := by
      rw [List.all_eq_true] at hsz ⊢
      intro q hq
      refine hsz q ?_
      rw [hx]
      simp only [DataW.weights, ht, List.mem_cons, List.mem_append]
      exact .inr (.inl (weightsAll_mem (List.mem_map.2 ⟨i, List.mem_range.2 hi, rfl⟩) q hq))
    obtain ⟨ys, n', _, hxe, hlen, hyl, hf⟩ := DataW.trod_struct he htr
    obtain ⟨_, hcl, hat⟩ := World.cells?_some hc
    rw [hC] at hcl hat
    refine ⟨b, cs, rfl, hcl, hQ n' cs hcl ?_, ?_⟩
    · intro j f v hj hv
      obtain ⟨ho, hk⟩ := hone_of hone j f hj
      have hjl : j < fs.size := (Array.getElem?_eq_some_iff.1 hj).1
      have h1 := hf j f hj
      have h2 : (cs.drop j).take 1 = [v] := by
        obtain ⟨hjl', hv'⟩ := List.getElem?_eq_some_iff.1 hv
        rw [List.drop_eq_getElem_cons hjl', hv']; rfl
      rw [ho, hk, h2, List.getElem?_eq_getElem (show j < ys.length by omega)] at h1
      refine ⟨_, h1, ?_⟩
      have hDe : D i = .agg (ys.map (·.1)) := by
        have := congrArg Prod.fst hxe
        simpa using this
      rw [hDe] at hwD
      simp only [DataW.weights, he] at hwD
      rw [List.all_eq_true] at hwD ⊢
      intro q hq
      refine hwD q (DataW.weights_mem_each (j := j) (t := f.type) (d := (ys[j]'(by omega)).1) ?_ ?_ q hq)
      · rw [List.getElem?_map, Array.getElem?_toList, hj]; rfl
      · rw [List.getElem?_map, List.getElem?_eq_getElem (show j < ys.length by omega)]; rfl
    · intro j v hv
      have hjl := (List.getElem?_eq_some_iff.1 hv).1
      rw [← hv, ← hat j (by omega), add_add]
/-- A slice of one-celled elements: what an element says, its cell says. -/
theorem open_cells {t e : TypeId} {fuel : Nat} {a : Option Addr} {len cap : Nat} {x : DataW H × List MemPlace} {Q : List Value → Prop} (ht : P.underlying t = some (.slice e)) (hC : P.cellsOf e = 1)
    (hQ : ∀ n v y, DataW.trod enc P w base spare held n e [v] = some y → Q [v]) (h : DataW.trod enc P w base spare held fuel t [.slice a len cap] = some x) : IsRows 1 Q w a len := by
  intro i hi
  rcases open_slice ht h with ⟨h0, _⟩ | ⟨b, l, c, m, n, D, Pl, hcs, hb, hl, hm, hmm, hx, hi'⟩
  · simp only [List.cons.injEq, Value.slice.injEq] at h0; omega
  · simp only [List.cons.injEq, Value.slice.injEq, and_true] at hcs
    obtain ⟨rfl, rfl, rfl⟩ := hcs
    obtain ⟨cs, hc, htr⟩ := hi' i (by rw [hmm]; split <;> omega)
    obtain ⟨_, hcl, hat⟩ := World.cells?_some hc
    rw [hC] at hcl hat
    obtain ⟨v, rfl⟩ : ∃ v, cs = [v] := List.length_eq_one_iff.1 hcl
    refine ⟨b, [v], rfl, rfl, hQ _ v _ htr, ?_⟩
    intro j u hu
    have hjl := (List.getElem?_eq_some_iff.1 hu).1
    rw [← hu, ← hat j hjl, add_add]
end
end Vc

/- The files that came in, as a list. No condition. -/
set_option linter.unusedVariables false
namespace Go.Proofs.YtfoeooddnmppnaaDoor
open Go Vc Go.Proofs Go.RowKit

theorem files_of {W : World} {a : Option Addr} : ∀ (n : Nat), IsRows 2 (fun vs => ∃ x0 x1, vs = [.string x0, .string x1] ∧ x0.size ≤ reachBytes ∧ x1.size ≤ reachBytes) W a n → ∃ xs : List FileE, xs.length = n ∧ ReadsK encF 2 W a xs ∧ (∀ x ∈ xs, x.path.size ≤ reachBytes ∧ x.data.size ≤ reachBytes)
  | 0, _ => ⟨[], rfl, .nil _ _, fun x hx => by simp at hx⟩
  | n + 1, h => by
    obtain ⟨xs, hE, hR, hB⟩ := files_of n fun i hi => h i (by omega)
    obtain ⟨ad, vs, had, hl, ⟨x0, x1, rfl, h1, h2⟩, hc⟩ := h n (by omega)
    refine ⟨xs ++ [⟨x0, x1⟩], by rw [List.length_append, hE]; rfl, fun i x hx => ?_, fun x hx => ?_⟩
    · by_cases hi : i < xs.length
      · rw [List.getElem?_append_left hi] at hx
        exact hR i x hx
      · rw [List.getElem?_append_right (by omega)] at hx
        have hi0 : i - xs.length = 0 := by
          by_cases h : i - xs.length = 0
          · exact h
          · rw [List.getElem?_eq_none (by simp; omega)] at hx; cases hx
        rw [hi0] at hx
        simp only [List.getElem?_cons_zero, Option.some.injEq] at hx
        subst hx
        refine ⟨ad, had, fun j v hv => ?_⟩
        have := hc j v hv
        rw [add_add, show i = n by omega]
        exact this
    · rcases List.mem_append.1 hx with hx | hx
      · exact hB x hx
      · simp only [List.mem_cons, List.mem_nil_iff, or_false] at hx
        subst hx; exact ⟨h1, h2⟩
end Go.Proofs.YtfoeooddnmppnaaDoor

/- The statement ModzipHashesSaid of this seat: for every input the law returns true and its arguments read as they did. No condition. -/
namespace Go.Proofs.YtfoeooddnmppnaaDoor.modzipHashes
open Go.ChangeShapes Go.WideShapes Go.ChangeAt Go.RowKit
open Go.ChangeMaps (open_string shut_string)
set_option linter.unusedVariables false

theorem own : ownKnob Tryd.prog.godebug = none := by kernel_rfl
theorem laidOut : laidOutB Tryd.prog = true := by kernel_rfl

set_option maxRecDepth 100000 in
theorem lifted (os : Os) (started : os.Started) (H : Type) (enc : TypeId × Value → H) :
    ReturnsInHanded {} Tryd.checked os 7 .any (fun w args => (Rows.modzipHashesSpec.pre enc Tryd.prog Tryd.f7 [] false w args ∧ laidMetH Tryd.prog Rows.modzipHashesRow.laid w) ∧ sizedMet enc Tryd.prog Tryd.f7 (OpenSpec.ofChange Rows.modzipHashesSpec) false w args)
      (Rows.modzipHashesSpec.post enc Tryd.prog Tryd.f7 false true false false) := by
  refine handed_shaped (C := Tryd.checked) (X := fun w _ => laidMetH Tryd.prog Rows.modzipHashesRow.laid w) (fun _ _ _ hh h => h.of_heap hh) own started (by kernel_rfl) Tryd.func7
    (ChangeSpec.witness_shaped (enc := enc) (C := Tryd.checked) (os := os) (X := fun w _ => laidMetH Tryd.prog Rows.modzipHashesRow.laid w) false (World.laidAll Tryd.prog os Rows.modzipHashesRow.laid) #[.string ByteArray.empty, .string ByteArray.empty, .slice none 0 0] 8 (World.laidAll_os _ _ _)
      (World.shaped_of_ZipB (by kernel_rfl) (by kernel_rfl)) (by kernel_rfl) (by kernel_rfl) (by kernel_rfl)
      (by rw [MakeChecks.laidMetH_plain _ _ _ (by kernel_rfl)]; exact laidMet_laidAll _ (by kernel_rfl) (by kernel_rfl))) ?_
  intro W base args ds gs before hval0 hW _ hsz hL hS _
  have hval : ∀ (j : Nat) t v, Tryd.f7.params[j]? = some t → args[j]? = some v → Value.okWide Tryd.prog W .any base t v := hval0
  have hW' := hW
  obtain ⟨p, q, hA0, hV, rfl, hfz, hnd⟩ := hW
  have hA : DataW.TrodAll enc Tryd.prog W 0 (fun _ => true) true Tryd.f7.params.toList args.toList ds p := hA0
  rw [Tryd.params7] at hA hval
  obtain ⟨v0, vs0, d0, ds0, p0, q0, hargs, rfl, rfl, h0, r0⟩ := trodAll_cons hA
  obtain ⟨v1, vs1, d1, ds1, p1, q1, rfl, rfl, rfl, h1, r1⟩ := trodAll_cons r0
  obtain ⟨v2, vs2, d2, ds2, p2, q2, rfl, rfl, rfl, h2, r2⟩ := trodAll_cons r1
  obtain ⟨rfl, rfl, rfl⟩ := trodAll_nil r2
  obtain rfl : args = #[v0, v1, v2] := by cases args; simp_all
  obtain ⟨rfl, rfl⟩ := trodVars_none hV
  obtain ⟨a0, rfl, rfl, rfl, w0⟩ := open_string Tryd.underlying9 (hval 0 9 v0 rfl rfl) h0
  have b0 : a0.size ≤ reachBytes := by have := sized_string hsz (j := 0) (t := 9) rfl rfl; simpa using this
  obtain ⟨a1, rfl, rfl, rfl, w1⟩ := open_string Tryd.underlying9 (hval 1 9 v1 rfl rfl) h1
  have b1 : a1.size ≤ reachBytes := by have := sized_string hsz (j := 1) (t := 9) rfl rfl; simpa using this
  obtain ⟨a2, len2, cap2, rfl⟩ := okWide_slice Tryd.underlying22 (hval 2 22 v2 rfl rfl)
  have k2 := h2
  have lt2 : ∀ x ∈ p2, x.block < W.heap.size := by obtain ⟨m, hm⟩ := k2; exact DataW.trod_lt m _ _ _ hm
  obtain ⟨w2, c2⟩ : Vc.IsRows 2 (fun vs => ∃ x0 x1, vs = [.string x0, .string x1] ∧ x0.size ≤ reachBytes ∧ x1.size ≤ reachBytes) W a2 len2 ∧ len2 ≤ cap2 := by
    obtain ⟨fuel, hf⟩ := h2
    refine Vc.open_rowsW Tryd.underlying22 Tryd.underlying37 (by kernel_rfl) (by kernel_rfl) (List.all_eq_true.2 fun q hq => List.all_eq_true.1 hsz q (DataW.weights_mem_each (j := 2) (t := 22) rfl rfl q hq)) ?_ hf
    intro n cs hcs hall
    match cs, hcs with
    | [c0, c1], _ =>
      obtain ⟨y0, g0, k0⟩ := hall 0 _ c0 rfl rfl
      obtain ⟨x0, e0, d0, f0⟩ := DataW.trod_string Tryd.underlying9 g0
      obtain rfl := (List.cons.inj e0).1
      have f0 : x0.size ≤ reachBytes := by simpa [d0, DataW.weights] using k0
      obtain ⟨y1, g1, k1⟩ := hall 1 _ c1 rfl rfl
      obtain ⟨x1, e1, d1, f1⟩ := DataW.trod_string Tryd.underlying9 g1
      obtain rfl := (List.cons.inj e1).1
      have f1 : x1.size ≤ reachBytes := by simpa [d1, DataW.weights] using k1
      exact ⟨x0, x1, rfl, f0, f1⟩
  clear hA0 hval0
  refine ((files_of len2 w2).elim fun xs h => hashes_walk h.2.1 h.1 c2 a0 a1 (maxL_of hS)).mono fun e W' ⟨he, bel⟩ => ?_
  subst he
  exact ⟨_, rfl, _, _, _, [], _, [], hW', trodAll_mk1 (shut_bool Tryd.underlying4 _), (trodAll_cons_mk (shut_string Tryd.underlying9 w0) (trodAll_cons_mk (shut_string Tryd.underlying9 w1) (trodAll_cons_mk (Below.trod laidOut (by kernel_rfl) (of_decide_eq_true (by kernel_rfl)) k2 bel lt2) trodAll_mk0))), rfl, bel.frame _, fun h => by cases h⟩

theorem over : Rows.modzipHashesRow.holds Tryd.pinned (OpenSpec.ofChange Rows.modzipHashesSpec) :=
  OpenClaim.holds_of_wide 7 Tryd.f7 rfl rfl rfl rfl rfl rfl rfl ⟨rfl, rfl, rfl, rfl, rfl⟩ rfl rfl rfl rfl rfl (by kernel_rfl) Tryd.func7 (by kernel_rfl)
    (of_decide_eq_true (by kernel_rfl)) (by unfold Func.isWrapper; first | (rw [if_pos (by decide +kernel)]; kernel_rfl) | (rw [if_neg (by decide +kernel)]; exact ⟨rfl, rfl⟩))
    (fun os started H enc _ => lifted os started H enc)

/-- The statement. -/
theorem proved : Rows.ModzipHashesCardSaid :=
  Claim7.holds_tied_plain_at .later [] [.data, .pinned] true (true, "0eb27af101e4e04535c639a375fc4637eed6172aaaeb719e4b37c29ceb5b9f04") true over (fun _ h => by cases h) (by kernel_rfl) (fun _ h => by cases h) modzipHashes_row_tie rfl ⟨rfl, rfl⟩ (by kernel_rfl) rfl
    (fun f fn hf hfn => by
      obtain rfl : f = 7 := Option.some.inj ((show Tryd.prog.funcNamed "cartulary/cartularylaw24.ModzipHashes" = some 7 by kernel_rfl).symm.trans hf) |>.symm
      obtain rfl : fn = Tryd.f7 := (Option.some.inj (Tryd.func7.symm.trans hfn)).symm
      exact ⟨by kernel_rfl, fun j t ht => by
        rw [Tryd.params7] at ht
        have hm : t ∈ [9, 22] := by simpa using Array.mem_of_getElem? ht
        have hall : ([9, 22].all fun u => !Tryd.prog.wantsStandIn u) = true := by kernel_rfl
        exact (show Tryd.prog.wantsStandIn t = false by simpa using List.all_eq_true.1 hall t hm)⟩)
    (by kernel_rfl)
#print axioms proved
end Go.Proofs.YtfoeooddnmppnaaDoor.modzipHashes

/- Texts of this seat in one: made by a program of ours. -/
import Derived.Test.YtfoeooddnmppnaaDoorModzipNestedUptoQ0
import Derived.Test.YtfoeooddnmppnaaDoorModzipNestedUptoQ1
import Derived.Test.YtfoeooddnmppnaaDoorModzipNestedUptoQ2
import Derived.Test.YtfoeooddnmppnaaDoorModzipNestedUptoQ4
import Derived.Test.YtfoeooddnmppnaaDoorProg
import Derived.Deep.Slices
import Derived.Deep.Fields
import Derived.ChangeSame
import Derived.SizedLaws
import Derived.Test.YtfoeooddnmppnaaDoorRows
import Derived.Handed
import Derived.HandedShaped
import Derived.Test.YtfoeooddnmppnaaDoorCards
import Derived.Test.YtfoeooddnmppnaaDoorTie
import Derived.WalkKit
import Derived.ProofKit
import Derived.OpenShut
import Derived.ShutString
import Derived.ChangeOld
import Derived.Below
import Derived.SevenTiedAt
import Derived.LaidMore
import Derived.Lay
import Derived.LaidOnce
import Derived.Deep.DeepHandedRow
import Derived.Lib.Strings
/- Formulas of 6 Go functions of this seat (written by a program of the author's, vcgen.py), and that each is enough for the call. No condition. -/
set_option linter.unusedVariables false
namespace Go.Proofs.YtfoeooddnmppnaaDoor
open Go Vc Go.Proofs
set_option maxRecDepth 100000
/-- cartularylaw24.Short -/
def vc_cartularylaw24_Short (x0a : Option Addr) (x0n : Nat) (x0c : Nat) (x1 : Int) (w : World) (R : Value → World → Prop) : Prop :=
  ∀ w1 : World,
  (w1 = World.alloc w (Obj.cells (Array.mk []) 51) →
    ∃ I2 : Sl → Int → World → Prop, ∃ I3 : Sl → Int → World → Nat, (I2 (Sl.mk (some (Addr.mk (Array.size (World.heap w)) 0 none)) 0 0) 0 w1 ∧
     ∀ l4 : Sl,
     ∀ n5 : Int,
     ∀ w6 : World,
     (I2 l4 n5 w6 →
       (((decide (n5 < (↑x0n : Int)) = true →
          (((decide (n5 < x1) = true →
             ((0 ≤ n5 ∧
               n5 < (↑x0n : Int)) ∧
              ∃ a7 : Addr, (x0a = some a7 ∧
               ∃ s8 : ByteArray, ∃ n9 : Int, ∃ s10 : ByteArray, (Sem.run Tryd.prog (loadVar 51 (Addr.add a7 (Int.toNat n5 * 3))) w6 = Result.ok (Value.agg (Array.mk [Value.string s8, Value.int IntKind.i64 n9, Value.string s10])) w6 ∧
                ∀ w11 : World,
                (w11 = World.alloc w6 (Obj.cells (Array.mk [Value.string (ByteArray.mk (Array.mk [])), Value.int IntKind.i64 0, Value.string (ByteArray.mk (Array.mk []))]) 51) →
                  ∃ w12 : World, (Sem.run Tryd.prog (storeVar 51 (Addr.mk (Array.size (World.heap w6)) 0 none) (Value.agg (Array.mk [Value.string s8, Value.int IntKind.i64 n9, Value.string s10]))) w11 = Result.ok PUnit.unit w12 ∧
                   ∃ s13 : ByteArray, (World.cell? w12 (Addr.mk (Array.size (World.heap w6)) 2 none) = some (Value.string s13) ∧
                    Calls Tryd.prog (20 : Nat) (Array.mk [Value.string s13, Value.int IntKind.i64 400]) (w12) (fun e14 w15 =>
                      ∃ s16 : ByteArray, (e14 = Ending.returned (Value.string s16) ∧
                       (Wr w15 (Addr.mk (Array.size (World.heap w6)) 2 none) ∧
                        ∀ w17 : World,
                        (w17 = World.setCell w15 (Addr.mk (Array.size (World.heap w6)) 2 none) (Value.string s16) →
                          ∃ s18 : ByteArray, ∃ n19 : Int, ∃ s20 : ByteArray, (Sem.run Tryd.prog (loadVar 51 (Addr.mk (Array.size (World.heap w6)) 0 none)) w17 = Result.ok (Value.agg (Array.mk [Value.string s18, Value.int IntKind.i64 n19, Value.string s20])) w17 ∧
                           ∀ w21 : World,
                           (w21 = World.alloc w17 (Obj.cells (Array.mk [Value.string s18, Value.int IntKind.i64 n19, Value.string s20]) 51) →
                             ∃ w22 : World, ∃ l23 : Sl, (Sem.run Tryd.prog (Builtin.append_ (Array.mk [47, 47]) 47 (Array.mk [Value.slice l4.1 l4.2 l4.3, Value.slice (some (Addr.mk (Array.size (World.heap w17)) 0 none)) 1 1])) w21 = Result.ok (Value.slice l23.1 l23.2 l23.3) w22 ∧
                              (I2 (Sl.mk l23.1 l23.2 l23.3) (IntKind.wrap IntKind.i64 (n5 + 1)) w22 ∧
                               I3 (Sl.mk l23.1 l23.2 l23.3) (IntKind.wrap IntKind.i64 (n5 + 1)) w22 < I3 l4 n5 w6)))))))))))))))) ∧
           (decide (n5 < x1) = false →
             R (Value.slice l4.1 l4.2 l4.3) w6)))) ∧
        (decide (n5 < (↑x0n : Int)) = false →
          R (Value.slice l4.1 l4.2 l4.3) w6)))))
theorem vc_cartularylaw24_Short_ok {x0a : Option Addr} {x0n : Nat} {x0c : Nat} {x1 : Int} {w : World} {R : Value → World → Prop} {R' : Ending → World → Prop} (h : vc_cartularylaw24_Short x0a x0n x0c x1 w R) (hR : ∀ v w', R v w' → R' (.returned v) w') :
    Calls Tryd.prog 26 #[.slice x0a x0n x0c, .int .i64 x1] w R' :=
  calls_of_body (vs := [(.slice x0a x0n x0c, false), (.int .i64 x1, false)]) (ty := ty) (ann := ⟨[], [(3, [(5, .slice), (6, .int .i64)])], [], []⟩) (c := Tryd.f26.body.getD .skip) (by kernel_rfl) Tryd.func26 (by kernel_rfl) (by kernel_rfl) (Eq.mp (by kernel_rfl) h) hR
/-- cartularylaw24.awake -/
def vc_cartularylaw24_awake (w : World) (R : Value → World → Prop) : Prop :=
  ∀ w1 : World,
  (w1 = World.alloc w (Obj.cells (Array.mk [Value.string (ByteArray.mk (Array.mk [97, 46, 103, 111])), Value.int IntKind.i64 33188, Value.string (ByteArray.mk (Array.mk [120])), Value.string (ByteArray.mk (Array.mk [115, 117, 98, 47, 103, 111, 46, 109, 111, 100])), Value.int IntKind.i64 33188, Value.string (ByteArray.mk (Array.mk [])), Value.string (ByteArray.mk (Array.mk [76, 73, 67, 69, 78, 83, 69])), Value.int IntKind.i64 33261, Value.string (ByteArray.mk (Array.mk []))]) 51) →
    Calls Tryd.prog (27 : Nat) (Array.mk [Value.slice (some (Addr.mk (Array.size (World.heap w)) 0 none)) 3 3, Value.string (ByteArray.mk (Array.mk [115, 117, 98]))]) (w1) (fun e2 w3 =>
      ∃ l4 : Sl, ∃ n5 : Int, (e2 = Ending.returned (Value.tuple (Array.mk [Value.slice l4.1 l4.2 l4.3, Value.int IntKind.i64 n5])) ∧
       ((((n5 == 0) = true →
          (((((↑l4.2 : Int) == 2) = true →
             (((0 : Int) ≤ (0 : Int) ∧
               0 < (↑l4.2 : Int)) ∧
              ∃ a6 : Addr, (l4.1 = some a6 ∧
               ∃ s7 : ByteArray, (World.cell? w3 (Addr.add a6 (Int.toNat 0 * 2)) = some (Value.string s7) ∧
                ((((ByteArray.toList s7 == ByteArray.toList (ByteArray.mk (Array.mk [76, 73, 67, 69, 78, 83, 69]))) = true →
                   (((0 : Int) ≤ (1 : Int) ∧
                     1 < (↑l4.2 : Int)) ∧
                    ∃ a8 : Addr, (l4.1 = some a8 ∧
                     ∃ s9 : ByteArray, (World.cell? w3 (Addr.add a8 (Int.toNat 1 * 2)) = some (Value.string s9) ∧
                      ((((ByteArray.toList s9 == ByteArray.toList (ByteArray.mk (Array.mk [103, 111, 46, 109, 111, 100]))) = true →
                         Calls Tryd.prog (23 : Nat) (Array.mk [Value.string (ByteArray.mk (Array.mk [(109 : UInt8)])), Value.string (ByteArray.mk (Array.mk [(118 : UInt8)])), Value.slice none (0 : Nat) (0 : Nat)]) (w3) (fun e10 w11 =>
                           ∃ s12 : ByteArray, (e10 = Ending.returned (Value.string s12) ∧
                            R (Value.bool (ByteArray.toList s12 == ByteArray.toList (ByteArray.mk (Array.mk [104, 49, 58, 52, 55, 68, 69, 81, 112, 106, 56, 72, 66, 83, 97, 43, 47, 84, 73, 109, 87, 43, 53, 74, 67, 101, 117, 81, 101, 82, 107, 109, 53, 78, 77, 112, 74, 87, 90, 71, 51, 104, 83, 117, 70, 85, 61])))) w11)))) ∧
                       ((ByteArray.toList s9 == ByteArray.toList (ByteArray.mk (Array.mk [103, 111, 46, 109, 111, 100]))) = false →
                         R (Value.bool false) w3))))))) ∧
                 ((ByteArray.toList s7 == ByteArray.toList (ByteArray.mk (Array.mk [76, 73, 67, 69, 78, 83, 69]))) = false →
                   R (Value.bool false) w3))))))) ∧
           (((↑l4.2 : Int) == 2) = false →
             R (Value.bool false) w3)))) ∧
        ((n5 == 0) = false →
          R (Value.bool false) w3)))))
theorem vc_cartularylaw24_awake_ok {w : World} {R : Value → World → Prop} {R' : Ending → World → Prop} (h : vc_cartularylaw24_awake w R) (hR : ∀ v w', R v w' → R' (.returned v) w') :
    Calls Tryd.prog 22 #[] w R' :=
  calls_of_body (vs := []) (ty := ty) (ann := ⟨[], [], [], []⟩) (c := Tryd.f22.body.getD .skip) (by kernel_rfl) Tryd.func22 (by kernel_rfl) (by kernel_rfl) (Eq.mp (by kernel_rfl) h) hR
/-- cartularylaw24.ModzipHashes -/
def vc_cartularylaw24_ModzipHashes (x0 : ByteArray) (x1 : ByteArray) (x2a : Option Addr) (x2n : Nat) (x2c : Nat) (w : World) (R : Value → World → Prop) : Prop :=
  Calls Tryd.prog (20 : Nat) (Array.mk [Value.string x0, Value.int IntKind.i64 100]) (w) (fun e1 w2 =>
    ∃ s3 : ByteArray, (e1 = Ending.returned (Value.string s3) ∧
     Calls Tryd.prog (20 : Nat) (Array.mk [Value.string x1, Value.int IntKind.i64 100]) (w2) (fun e4 w5 =>
       ∃ s6 : ByteArray, (e4 = Ending.returned (Value.string s6) ∧
        Calls Tryd.prog (12 : Nat) (Array.mk [Value.slice x2a x2n x2c, Value.int IntKind.i64 6]) (w5) (fun e7 w8 =>
          ∃ l9 : Sl, (e7 = Ending.returned (Value.slice l9.1 l9.2 l9.3) ∧
           ∃ I10 : Int → World → Prop, ∃ I11 : Int → World → Nat, (I10 0 w8 ∧
            ∀ n12 : Int,
            ∀ w13 : World,
            (I10 n12 w13 →
              (((decide (n12 < (↑l9.2 : Int)) = true →
                 ((0 ≤ n12 ∧
                   n12 < (↑l9.2 : Int)) ∧
                  ∃ a14 : Addr, (l9.1 = some a14 ∧
                   ∃ s15 : ByteArray, (World.cell? w13 (Addr.add (Addr.add a14 (Int.toNat n12 * 2)) 1) = some (Value.string s15) ∧
                    Calls Tryd.prog (20 : Nat) (Array.mk [Value.string s15, Value.int IntKind.i64 100]) (w13) (fun e16 w17 =>
                      ∃ s18 : ByteArray, (e16 = Ending.returned (Value.string s18) ∧
                       ((0 ≤ n12 ∧
                         n12 < (↑l9.2 : Int)) ∧
                        ∃ a19 : Addr, (l9.1 = some a19 ∧
                         (Wr w17 (Addr.add (Addr.add a19 (Int.toNat n12 * 2)) 1) ∧
                          ∀ w20 : World,
                          (w20 = World.setCell w17 (Addr.add (Addr.add a19 (Int.toNat n12 * 2)) 1) (Value.string s18) →
                            ((0 ≤ n12 ∧
                              n12 < (↑l9.2 : Int)) ∧
                             ∃ a21 : Addr, (l9.1 = some a21 ∧
                              ∃ s22 : ByteArray, (World.cell? w20 (Addr.add a21 (Int.toNat n12 * 2)) = some (Value.string s22) ∧
                               Calls Tryd.prog (20 : Nat) (Array.mk [Value.string s22, Value.int IntKind.i64 100]) (w20) (fun e23 w24 =>
                                 ∃ s25 : ByteArray, (e23 = Ending.returned (Value.string s25) ∧
                                  ((0 ≤ n12 ∧
                                    n12 < (↑l9.2 : Int)) ∧
                                   ∃ a26 : Addr, (l9.1 = some a26 ∧
                                    (Wr w24 (Addr.add a26 (Int.toNat n12 * 2)) ∧
                                     ∀ w27 : World,
                                     (w27 = World.setCell w24 (Addr.add a26 (Int.toNat n12 * 2)) (Value.string s25) →
                                       (I10 (IntKind.wrap IntKind.i64 (n12 + 1)) w27 ∧
                                        I11 (IntKind.wrap IntKind.i64 (n12 + 1)) w27 < I11 n12 w13))))))))))))))))))))) ∧
               (decide (n12 < (↑l9.2 : Int)) = false →
                 Calls Tryd.prog (22 : Nat) (Array.mk []) (w13) (fun e28 w29 =>
                   ∃ b30 : Bool, (e28 = Ending.returned (Value.bool b30) ∧
                    (((b30 = true →
                       Calls Tryd.prog (23 : Nat) (Array.mk [Value.string s3, Value.string s6, Value.slice l9.1 l9.2 l9.3]) (w29) (fun e31 w32 =>
                         ∃ s33 : ByteArray, (e31 = Ending.returned (Value.string s33) ∧
                          Calls Tryd.prog (25 : Nat) (Array.mk []) (w32) (fun e34 w35 =>
                            ∃ l36 : Sl, (e34 = Ending.returned (Value.slice l36.1 l36.2 l36.3) ∧
                             Calls Tryd.prog (24 : Nat) (Array.mk [Value.string s3, Value.string s6, Value.slice l9.1 l9.2 l9.3, Value.slice l36.1 l36.2 l36.3]) (w35) (fun e37 w38 =>
                               ∃ s39 : ByteArray, (e37 = Ending.returned (Value.string s39) ∧
                                R (Value.bool (ByteArray.toList s33 == ByteArray.toList s39)) w38)))))))) ∧
                     (b30 = false →
                       R (Value.bool false) w29))))))))))))))
theorem vc_cartularylaw24_ModzipHashes_ok {x0 : ByteArray} {x1 : ByteArray} {x2a : Option Addr} {x2n : Nat} {x2c : Nat} {w : World} {R : Value → World → Prop} {R' : Ending → World → Prop} (h : vc_cartularylaw24_ModzipHashes x0 x1 x2a x2n x2c w R) (hR : ∀ v w', R v w' → R' (.returned v) w') :
    Calls Tryd.prog 7 #[.string x0, .string x1, .slice x2a x2n x2c] w R' :=
  calls_of_body (vs := [(.string x0, false), (.string x1, false), (.slice x2a x2n x2c, false)]) (ty := ty) (ann := ⟨[], [(5, [(17, .int .i64)])], [], []⟩) (c := Tryd.f7.body.getD .skip) (by kernel_rfl) Tryd.func7 (by kernel_rfl) (by kernel_rfl) (Eq.mp (by kernel_rfl) h) hR
/-- cartularylaw24.ModzipNested -/
def vc_cartularylaw24_ModzipNested (x0a : Option Addr) (x0n : Nat) (x0c : Nat) (x1 : ByteArray) (w : World) (R : Value → World → Prop) : Prop :=
  Calls Tryd.prog (26 : Nat) (Array.mk [Value.slice x0a x0n x0c, Value.int IntKind.i64 40]) (w) (fun e1 w2 =>
    ∃ l3 : Sl, (e1 = Ending.returned (Value.slice l3.1 l3.2 l3.3) ∧
     Calls Tryd.prog (27 : Nat) (Array.mk [Value.slice l3.1 l3.2 l3.3, Value.string x1]) (w2) (fun e4 w5 =>
       ∃ l6 : Sl, ∃ n7 : Int, (e4 = Ending.returned (Value.tuple (Array.mk [Value.slice l6.1 l6.2 l6.3, Value.int IntKind.i64 n7])) ∧
        ((((n7 != 0) = true →
           Calls Tryd.prog (22 : Nat) (Array.mk []) (w5) (fun e8 w9 =>
             ∃ b10 : Bool, (e8 = Ending.returned (Value.bool b10) ∧
              R (Value.bool b10) w9)))) ∧
         ((n7 != 0) = false →
           ∃ I11 : ByteArray → World → Prop, (((((!ByteArray.toList x1 == ByteArray.toList (ByteArray.mk (Array.mk []))) = true →
               (ByteArray.size x1 + ByteArray.size (ByteArray.mk (Array.mk [47])) ≤ 9223372036854775807 ∧
                I11 (x1 ++ ByteArray.mk (Array.mk [47])) w5))) ∧
             ((!ByteArray.toList x1 == ByteArray.toList (ByteArray.mk (Array.mk []))) = false →
               I11 (ByteArray.mk (Array.mk [])) w5)) ∧
            ∀ s12 : ByteArray,
            ∀ w13 : World,
            (I11 s12 w13 →
              ∃ I14 : Int → World → Prop, ∃ I15 : Int → World → Nat, (I14 0 w13 ∧
               ∀ n16 : Int,
               ∀ w17 : World,
               (I14 n16 w17 →
                 (((decide (n16 < (↑l6.2 : Int)) = true →
                    ((0 ≤ n16 ∧
                      n16 < (↑l6.2 : Int)) ∧
                     ∃ a18 : Addr, (l6.1 = some a18 ∧
                      ∃ s19 : ByteArray, ∃ s20 : ByteArray, (Sem.run Tryd.prog (loadVar 37 (Addr.add a18 (Int.toNat n16 * 2))) w17 = Result.ok (Value.agg (Array.mk [Value.string s19, Value.string s20])) w17 ∧
                       ∀ w21 : World,
                       (w21 = World.alloc w17 (Obj.cells (Array.mk [Value.string (ByteArray.mk (Array.mk [])), Value.string (ByteArray.mk (Array.mk []))]) 37) →
                         ∃ w22 : World, (Sem.run Tryd.prog (storeVar 37 (Addr.mk (Array.size (World.heap w17)) 0 none) (Value.agg (Array.mk [Value.string s19, Value.string s20]))) w21 = Result.ok PUnit.unit w22 ∧
                          ∃ I23 : World → Prop, ((((decide (n16 > 0) = true →
                              ((0 ≤ IntKind.wrap IntKind.i64 (n16 - 1) ∧
                                IntKind.wrap IntKind.i64 (n16 - 1) < (↑l6.2 : Int)) ∧
                               ∃ a24 : Addr, (l6.1 = some a24 ∧
                                ∃ s25 : ByteArray, (World.cell? w22 (Addr.add a24 (Int.toNat (IntKind.wrap IntKind.i64 (n16 - 1)) * 2)) = some (Value.string s25) ∧
                                 ∃ s26 : ByteArray, (World.cell? w22 (Addr.mk (Array.size (World.heap w17)) 0 none) = some (Value.string s26) ∧
                                  ∀ w27 : World,
                                  (Drew w22 w27 →
                                    ((((!Op.bytesLess (ByteArray.toList s25) (ByteArray.toList s26)) = true →
                                       R (Value.bool false) w27)) ∧
                                     ((!Op.bytesLess (ByteArray.toList s25) (ByteArray.toList s26)) = false →
                                       I23 w27))))))))) ∧
                            (decide (n16 > 0) = false →
                              ∀ w28 : World,
                              (Drew w22 w28 →
                                I23 w28))) ∧
                           ∀ w29 : World,
                           (I23 w29 →
                             ∃ I30 : Bool → Int → World → Prop, ∃ I31 : Bool → Int → World → Nat, (I30 false 0 w29 ∧
                              ∀ b32 : Bool,
                              ∀ n33 : Int,
                              ∀ w34 : World,
                              (I30 b32 n33 w34 →
                                (((decide (n33 < (↑l3.2 : Int)) = true →
                                   ((0 ≤ n33 ∧
                                     n33 < (↑l3.2 : Int)) ∧
                                    ∃ a35 : Addr, (l3.1 = some a35 ∧
                                     ∃ s36 : ByteArray, ∃ n37 : Int, ∃ s38 : ByteArray, (Sem.run Tryd.prog (loadVar 51 (Addr.add a35 (Int.toNat n33 * 3))) w34 = Result.ok (Value.agg (Array.mk [Value.string s36, Value.int IntKind.i64 n37, Value.string s38])) w34 ∧
                                      ∀ w39 : World,
                                      (w39 = World.alloc w34 (Obj.cells (Array.mk [Value.string (ByteArray.mk (Array.mk [])), Value.int IntKind.i64 0, Value.string (ByteArray.mk (Array.mk []))]) 51) →
                                        ∃ w40 : World, (Sem.run Tryd.prog (storeVar 51 (Addr.mk (Array.size (World.heap w34)) 0 none) (Value.agg (Array.mk [Value.string s36, Value.int IntKind.i64 n37, Value.string s38]))) w39 = Result.ok PUnit.unit w40 ∧
                                         (((b32 = true →
                                            (I30 true (IntKind.wrap IntKind.i64 (n33 + 1)) w40 ∧
                                             I31 true (IntKind.wrap IntKind.i64 (n33 + 1)) w40 < I31 b32 n33 w34))) ∧
                                          (b32 = false →
                                            ∃ s41 : ByteArray, (World.cell? w40 (Addr.mk (Array.size (World.heap w34)) 2 none) = some (Value.string s41) ∧
                                             ∃ s42 : ByteArray, (World.cell? w40 (Addr.mk (Array.size (World.heap w17)) 1 none) = some (Value.string s42) ∧
                                              ((((ByteArray.toList s41 == ByteArray.toList s42) = true →
                                                 ∃ s43 : ByteArray, (World.cell? w40 (Addr.mk (Array.size (World.heap w34)) 0 none) = some (Value.string s43) ∧
                                                  ∃ s44 : ByteArray, (World.cell? w40 (Addr.mk (Array.size (World.heap w17)) 0 none) = some (Value.string s44) ∧
                                                   (ByteArray.size s12 + ByteArray.size s44 ≤ 9223372036854775807 ∧
                                                    ((((ByteArray.toList s43 == ByteArray.toList (s12 ++ s44)) = true →
                                                       (I30 true (IntKind.wrap IntKind.i64 (n33 + 1)) w40 ∧
                                                        I31 true (IntKind.wrap IntKind.i64 (n33 + 1)) w40 < I31 b32 n33 w34))) ∧
                                                     ((ByteArray.toList s43 == ByteArray.toList (s12 ++ s44)) = false →
                                                       ∃ s45 : ByteArray, (World.cell? w40 (Addr.mk (Array.size (World.heap w17)) 0 none) = some (Value.string s45) ∧
                                                        ((((ByteArray.toList s45 == ByteArray.toList (ByteArray.mk (Array.mk [76, 73, 67, 69, 78, 83, 69]))) = true →
                                                           ∃ s46 : ByteArray, (World.cell? w40 (Addr.mk (Array.size (World.heap w34)) 0 none) = some (Value.string s46) ∧
                                                            (I30 (ByteArray.toList s46 == ByteArray.toList (ByteArray.mk (Array.mk [76, 73, 67, 69, 78, 83, 69]))) (IntKind.wrap IntKind.i64 (n33 + 1)) w40 ∧
                                                             I31 (ByteArray.toList s46 == ByteArray.toList (ByteArray.mk (Array.mk [76, 73, 67, 69, 78, 83, 69]))) (IntKind.wrap IntKind.i64 (n33 + 1)) w40 < I31 b32 n33 w34)))) ∧
                                                         ((ByteArray.toList s45 == ByteArray.toList (ByteArray.mk (Array.mk [76, 73, 67, 69, 78, 83, 69]))) = false →
                                                           (I30 false (IntKind.wrap IntKind.i64 (n33 + 1)) w40 ∧
                                                            I31 false (IntKind.wrap IntKind.i64 (n33 + 1)) w40 < I31 b32 n33 w34))))))))))) ∧
                                               ((ByteArray.toList s41 == ByteArray.toList s42) = false →
                                                 (I30 false (IntKind.wrap IntKind.i64 (n33 + 1)) w40 ∧
                                                  I31 false (IntKind.wrap IntKind.i64 (n33 + 1)) w40 < I31 b32 n33 w34)))))))))))))) ∧
                                 (decide (n33 < (↑l3.2 : Int)) = false →
                                   ∃ I47 : Int → World → Prop, ∃ I48 : Int → World → Nat, (I47 0 w34 ∧
                                    ∀ n49 : Int,
                                    ∀ w50 : World,
                                    (I47 n49 w50 →
                                      ∃ s51 : ByteArray, (World.cell? w50 (Addr.mk (Array.size (World.heap w17)) 0 none) = some (Value.string s51) ∧
                                       (((decide (n49 < (↑(ByteArray.size s51) : Int)) = true →
                                          ∃ s52 : ByteArray, (World.cell? w50 (Addr.mk (Array.size (World.heap w17)) 0 none) = some (Value.string s52) ∧
                                           ((0 ≤ n49 ∧
                                             n49 < (↑(ByteArray.size s52) : Int)) ∧
                                            ((((byteAt s52 n49 != 47) = true →
                                               (I47 (IntKind.wrap IntKind.i64 (n49 + 1)) w50 ∧
                                                I48 (IntKind.wrap IntKind.i64 (n49 + 1)) w50 < I48 n49 w50))) ∧
                                             ((byteAt s52 n49 != 47) = false →
                                               ∃ s53 : ByteArray, (World.cell? w50 (Addr.mk (Array.size (World.heap w17)) 0 none) = some (Value.string s53) ∧
                                                ((0 ≤ IntKind.wrap IntKind.i64 (n49 + 1) ∧
                                                  IntKind.wrap IntKind.i64 (n49 + 1) ≤ (↑(ByteArray.size s53) : Int)) ∧
                                                 ∃ I54 : World → Prop, (((((ByteArray.toList (ByteArray.extract s53 0 (Int.toNat (IntKind.wrap IntKind.i64 (n49 + 1)))) == ByteArray.toList (ByteArray.mk (Array.mk [118, 101, 110, 100, 111, 114, 47]))) = true →
                                                     R (Value.bool false) w50)) ∧
                                                   ((ByteArray.toList (ByteArray.extract s53 0 (Int.toNat (IntKind.wrap IntKind.i64 (n49 + 1)))) == ByteArray.toList (ByteArray.mk (Array.mk [118, 101, 110, 100, 111, 114, 47]))) = false →
                                                     (((decide ((↑(ByteArray.size (ByteArray.extract s53 0 (Int.toNat (IntKind.wrap IntKind.i64 (n49 + 1))))) : Int) > 8) = true →
                                                        ((0 ≤ IntKind.wrap IntKind.i64 ((↑(ByteArray.size (ByteArray.extract s53 0 (Int.toNat (IntKind.wrap IntKind.i64 (n49 + 1))))) : Int) - 8) ∧
                                                          IntKind.wrap IntKind.i64 ((↑(ByteArray.size (ByteArray.extract s53 0 (Int.toNat (IntKind.wrap IntKind.i64 (n49 + 1))))) : Int) - 8) ≤ (↑(ByteArray.size (ByteArray.extract s53 0 (Int.toNat (IntKind.wrap IntKind.i64 (n49 + 1))))) : Int)) ∧
                                                         ((((ByteArray.toList (ByteArray.extract (ByteArray.extract s53 0 (Int.toNat (IntKind.wrap IntKind.i64 (n49 + 1)))) (Int.toNat (IntKind.wrap IntKind.i64 ((↑(ByteArray.size (ByteArray.extract s53 0 (Int.toNat (IntKind.wrap IntKind.i64 (n49 + 1))))) : Int) - 8))) (ByteArray.size (ByteArray.extract s53 0 (Int.toNat (IntKind.wrap IntKind.i64 (n49 + 1)))))) == ByteArray.toList (ByteArray.mk (Array.mk [47, 118, 101, 110, 100, 111, 114, 47]))) = true →
                                                            R (Value.bool false) w50)) ∧
                                                          ((ByteArray.toList (ByteArray.extract (ByteArray.extract s53 0 (Int.toNat (IntKind.wrap IntKind.i64 (n49 + 1)))) (Int.toNat (IntKind.wrap IntKind.i64 ((↑(ByteArray.size (ByteArray.extract s53 0 (Int.toNat (IntKind.wrap IntKind.i64 (n49 + 1))))) : Int) - 8))) (ByteArray.size (ByteArray.extract s53 0 (Int.toNat (IntKind.wrap IntKind.i64 (n49 + 1)))))) == ByteArray.toList (ByteArray.mk (Array.mk [47, 118, 101, 110, 100, 111, 114, 47]))) = false →
                                                            I54 w50))))) ∧
                                                      (decide ((↑(ByteArray.size (ByteArray.extract s53 0 (Int.toNat (IntKind.wrap IntKind.i64 (n49 + 1))))) : Int) > 8) = false →
                                                        I54 w50)))) ∧
                                                  ∀ w55 : World,
                                                  (I54 w55 →
                                                    ∃ I56 : Int → World → Prop, ∃ I57 : Int → World → Nat, (I56 0 w55 ∧
                                                     ∀ n58 : Int,
                                                     ∀ w59 : World,
                                                     (I56 n58 w59 →
                                                       (((decide (n58 < (↑l3.2 : Int)) = true →
                                                          ((0 ≤ n58 ∧
                                                            n58 < (↑l3.2 : Int)) ∧
                                                           ∃ a60 : Addr, (l3.1 = some a60 ∧
                                                            ∃ s61 : ByteArray, ∃ n62 : Int, ∃ s63 : ByteArray, (Sem.run Tryd.prog (loadVar 51 (Addr.add a60 (Int.toNat n58 * 3))) w59 = Result.ok (Value.agg (Array.mk [Value.string s61, Value.int IntKind.i64 n62, Value.string s63])) w59 ∧
                                                             ∀ w64 : World,
                                                             (w64 = World.alloc w59 (Obj.cells (Array.mk [Value.string (ByteArray.mk (Array.mk [])), Value.int IntKind.i64 0, Value.string (ByteArray.mk (Array.mk []))]) 51) →
                                                               ∃ w65 : World, (Sem.run Tryd.prog (storeVar 51 (Addr.mk (Array.size (World.heap w59)) 0 none) (Value.agg (Array.mk [Value.string s61, Value.int IntKind.i64 n62, Value.string s63]))) w64 = Result.ok PUnit.unit w65 ∧
                                                                ∃ s66 : ByteArray, (World.cell? w65 (Addr.mk (Array.size (World.heap w59)) 0 none) = some (Value.string s66) ∧
                                                                 (ByteArray.size s12 + ByteArray.size (ByteArray.extract s53 0 (Int.toNat (IntKind.wrap IntKind.i64 (n49 + 1)))) ≤ 9223372036854775807 ∧
                                                                  (ByteArray.size (s12 ++ ByteArray.extract s53 0 (Int.toNat (IntKind.wrap IntKind.i64 (n49 + 1)))) + ByteArray.size (ByteArray.mk (Array.mk [103, 111, 46, 109, 111, 100])) ≤ 9223372036854775807 ∧
                                                                   ((((ByteArray.toList s66 == ByteArray.toList (s12 ++ ByteArray.extract s53 0 (Int.toNat (IntKind.wrap IntKind.i64 (n49 + 1))) ++ ByteArray.mk (Array.mk [103, 111, 46, 109, 111, 100]))) = true →
                                                                      ∃ n67 : Int, (World.cell? w65 (Addr.mk (Array.size (World.heap w59)) 1 none) = some (Value.int IntKind.i64 n67) ∧
                                                                       ((((n67 == 33188) = true →
                                                                          R (Value.bool false) w65)) ∧
                                                                        ((n67 == 33188) = false →
                                                                          ∃ n68 : Int, (World.cell? w65 (Addr.mk (Array.size (World.heap w59)) 1 none) = some (Value.int IntKind.i64 n68) ∧
                                                                           ((((n68 == 33261) = true →
                                                                              R (Value.bool false) w65)) ∧
                                                                            ((n68 == 33261) = false →
                                                                              (I56 (IntKind.wrap IntKind.i64 (n58 + 1)) w65 ∧
                                                                               I57 (IntKind.wrap IntKind.i64 (n58 + 1)) w65 < I57 n58 w59))))))))) ∧
                                                                    ((ByteArray.toList s66 == ByteArray.toList (s12 ++ ByteArray.extract s53 0 (Int.toNat (IntKind.wrap IntKind.i64 (n49 + 1))) ++ ByteArray.mk (Array.mk [103, 111, 46, 109, 111, 100]))) = false →
                                                                      (I56 (IntKind.wrap IntKind.i64 (n58 + 1)) w65 ∧
                                                                       I57 (IntKind.wrap IntKind.i64 (n58 + 1)) w65 < I57 n58 w59))))))))))))) ∧
                                                        (decide (n58 < (↑l3.2 : Int)) = false →
                                                          (I47 (IntKind.wrap IntKind.i64 (n49 + 1)) w59 ∧
                                                           I48 (IntKind.wrap IntKind.i64 (n49 + 1)) w59 < I48 n49 w50))))))))))))))) ∧
                                        (decide (n49 < (↑(ByteArray.size s51) : Int)) = false →
                                          ((((!b32) = true →
                                             R (Value.bool false) w50)) ∧
                                           ((!b32) = false →
                                             (I14 (IntKind.wrap IntKind.i64 (n16 + 1)) w50 ∧
                                              I15 (IntKind.wrap IntKind.i64 (n16 + 1)) w50 < I15 n16 w17))))))))))))))))))))) ∧
                  (decide (n16 < (↑l6.2 : Int)) = false →
                    Calls Tryd.prog (22 : Nat) (Array.mk []) (w17) (fun e69 w70 =>
                      ∃ b71 : Bool, (e69 = Ending.returned (Value.bool b71) ∧
                       (((b71 = true →
                          Calls Tryd.prog (12 : Nat) (Array.mk [Value.slice l6.1 l6.2 l6.3, Value.int IntKind.i64 40]) (w70) (fun e72 w73 =>
                            ∃ l74 : Sl, (e72 = Ending.returned (Value.slice l74.1 l74.2 l74.3) ∧
                             (R (Value.bool ((↑l74.2 : Int) == if 40 < (↑l6.2 : Int) then 40 else (↑l6.2 : Int))) w73))))) ∧
                        (b71 = false →
                          R (Value.bool false) w70))))))))))))))))
theorem vc_cartularylaw24_ModzipNested_ok {x0a : Option Addr} {x0n : Nat} {x0c : Nat} {x1 : ByteArray} {w : World} {R : Value → World → Prop} {R' : Ending → World → Prop} (h : vc_cartularylaw24_ModzipNested x0a x0n x0c x1 w R) (hR : ∀ v w', R v w' → R' (.returned v) w') :
    Calls Tryd.prog 8 #[.slice x0a x0n x0c, .string x1] w R' :=
  calls_of_body (vs := [(.slice x0a x0n x0c, false), (.string x1, false)]) (ty := ty) (ann := ⟨[(8, [(8, .str)]), (13, []), (26, [])], [(9, [(35, .int .i64)]), (15, [(11, .bool), (55, .int .i64)]), (20, [(14, .int .i64)]), (27, [(121, .int .i64)])], [(11, .quiet)], []⟩) (c := Tryd.f8.body.getD .skip) (by kernel_rfl) Tryd.func8 (by kernel_rfl) (by kernel_rfl) (Eq.mp (by kernel_rfl) h) hR
/-- cartularylaw24.ModzipHashed -/
def vc_cartularylaw24_ModzipHashed (x0a : Option Addr) (x0n : Nat) (x0c : Nat) (x1 : ByteArray) (x2 : ByteArray) (w : World) (R : Value → World → Prop) : Prop :=
  Calls Tryd.prog (12 : Nat) (Array.mk [Value.slice x0a x0n x0c, Value.int IntKind.i64 20]) (w) (fun e1 w2 =>
    ∃ l3 : Sl, (e1 = Ending.returned (Value.slice l3.1 l3.2 l3.3) ∧
     Calls Tryd.prog (23 : Nat) (Array.mk [Value.string x1, Value.string x2, Value.slice l3.1 l3.2 l3.3]) (w2) (fun e4 w5 =>
       ∃ s6 : ByteArray, (e4 = Ending.returned (Value.string s6) ∧
        (((((↑(ByteArray.size s6) : Int) != 47) = true →
           R (Value.bool false) w5)) ∧
         (((↑(ByteArray.size s6) : Int) != 47) = false →
           (((0 : Int) ≤ (3 : Int) ∧
             3 ≤ (↑(ByteArray.size s6) : Int)) ∧
            ((((!ByteArray.toList (ByteArray.extract s6 0 (Int.toNat 3)) == ByteArray.toList (ByteArray.mk (Array.mk [104, 49, 58]))) = true →
               R (Value.bool false) w5)) ∧
             ((!ByteArray.toList (ByteArray.extract s6 0 (Int.toNat 3)) == ByteArray.toList (ByteArray.mk (Array.mk [104, 49, 58]))) = false →
               Calls Tryd.prog (12 : Nat) (Array.mk [Value.slice x0a x0n x0c, Value.int IntKind.i64 20]) (w5) (fun e7 w8 =>
                 ∃ l9 : Sl, (e7 = Ending.returned (Value.slice l9.1 l9.2 l9.3) ∧
                  Calls Tryd.prog (23 : Nat) (Array.mk [Value.string x1, Value.string x2, Value.slice l9.1 l9.2 l9.3]) (w8) (fun e10 w11 =>
                    ∃ s12 : ByteArray, (e10 = Ending.returned (Value.string s12) ∧
                     ((((!ByteArray.toList s6 == ByteArray.toList s12) = true →
                        R (Value.bool false) w11)) ∧
                      ((!ByteArray.toList s6 == ByteArray.toList s12) = false →
                        Calls Tryd.prog (12 : Nat) (Array.mk [Value.slice x0a x0n x0c, Value.int IntKind.i64 20]) (w11) (fun e13 w14 =>
                          ∃ l15 : Sl, (e13 = Ending.returned (Value.slice l15.1 l15.2 l15.3) ∧
                           ∀ w16 : World,
                           (w16 = World.alloc w14 (Obj.cells (Array.mk [Value.string (ByteArray.mk (Array.mk [97, 110, 111, 116, 104, 101, 114])), Value.string (ByteArray.mk (Array.mk [120]))]) 37) →
                             ∃ w17 : World, ∃ l18 : Sl, (Sem.run Tryd.prog (Builtin.append_ (Array.mk [22, 22]) 22 (Array.mk [Value.slice l15.1 l15.2 l15.3, Value.slice (some (Addr.mk (Array.size (World.heap w14)) 0 none)) 1 1])) w16 = Result.ok (Value.slice l18.1 l18.2 l18.3) w17 ∧
                              Calls Tryd.prog (22 : Nat) (Array.mk []) (w17) (fun e19 w20 =>
                                ∃ b21 : Bool, (e19 = Ending.returned (Value.bool b21) ∧
                                 (((b21 = true →
                                    Calls Tryd.prog (23 : Nat) (Array.mk [Value.string x1, Value.string x2, Value.slice l18.1 l18.2 l18.3]) (w20) (fun e22 w23 =>
                                      ∃ s24 : ByteArray, (e22 = Ending.returned (Value.string s24) ∧
                                       (((((↑(ByteArray.size s24) : Int) == 47) = true →
                                          (ByteArray.size x1 + ByteArray.size (ByteArray.mk (Array.mk [64])) ≤ 9223372036854775807 ∧
                                           (ByteArray.size (x1 ++ ByteArray.mk (Array.mk [64])) + ByteArray.size x2 ≤ 9223372036854775807 ∧
                                            Calls Tryd.prog (23 : Nat) (Array.mk [Value.string (x1 ++ ByteArray.mk (Array.mk [64]) ++ x2), Value.string (ByteArray.mk (Array.mk [])), Value.slice none 0 0]) (w23) (fun e25 w26 =>
                                              ∃ s27 : ByteArray, (e25 = Ending.returned (Value.string s27) ∧
                                               Calls Tryd.prog (23 : Nat) (Array.mk [Value.string x1, Value.string x2, Value.slice none 0 0]) (w26) (fun e28 w29 =>
                                                 ∃ s30 : ByteArray, (e28 = Ending.returned (Value.string s30) ∧
                                                  R (Value.bool (ByteArray.toList s27 == ByteArray.toList s30)) w29)))))))) ∧
                                        (((↑(ByteArray.size s24) : Int) == 47) = false →
                                          R (Value.bool false) w23)))))) ∧
                                  (b21 = false →
                                    R (Value.bool false) w20)))))))))))))))))))))))
theorem vc_cartularylaw24_ModzipHashed_ok {x0a : Option Addr} {x0n : Nat} {x0c : Nat} {x1 : ByteArray} {x2 : ByteArray} {w : World} {R : Value → World → Prop} {R' : Ending → World → Prop} (h : vc_cartularylaw24_ModzipHashed x0a x0n x0c x1 x2 w R) (hR : ∀ v w', R v w' → R' (.returned v) w') :
    Calls Tryd.prog 9 #[.slice x0a x0n x0c, .string x1, .string x2] w R' :=
  calls_of_body (vs := [(.slice x0a x0n x0c, false), (.string x1, false), (.string x2, false)]) (ty := ty) (ann := ⟨[], [], [], []⟩) (c := Tryd.f9.body.getD .skip) (by kernel_rfl) Tryd.func9 (by kernel_rfl) (by kernel_rfl) (Eq.mp (by kernel_rfl) h) hR
/-- cartularylaw24.ModzipTurns -/
def vc_cartularylaw24_ModzipTurns (x0a : Option Addr) (x0n : Nat) (x0c : Nat) (x1 : ByteArray) (w : World) (R : Value → World → Prop) : Prop :=
  Calls Tryd.prog (26 : Nat) (Array.mk [Value.slice x0a x0n x0c, Value.int IntKind.i64 40]) (w) (fun e1 w2 =>
    ∃ l3 : Sl, (e1 = Ending.returned (Value.slice l3.1 l3.2 l3.3) ∧
     ∀ w4 : World,
     (w4 = World.alloc w2 (Obj.cells (Array.mk []) 51) →
       ∃ I5 : Sl → Int → World → Prop, ∃ I6 : Sl → Int → World → Nat, (I5 (Sl.mk (some (Addr.mk (Array.size (World.heap w2)) 0 none)) 0 0) 0 w4 ∧
        ∀ l7 : Sl,
        ∀ n8 : Int,
        ∀ w9 : World,
        (I5 l7 n8 w9 →
          (((decide (n8 < (↑l3.2 : Int)) = true →
             ((0 ≤ n8 ∧
               n8 < (↑l3.2 : Int)) ∧
              ∃ a10 : Addr, (l3.1 = some a10 ∧
               ∃ s11 : ByteArray, ∃ n12 : Int, ∃ s13 : ByteArray, (Sem.run Tryd.prog (loadVar 51 (Addr.add a10 (Int.toNat n8 * 3))) w9 = Result.ok (Value.agg (Array.mk [Value.string s11, Value.int IntKind.i64 n12, Value.string s13])) w9 ∧
                ∀ w14 : World,
                (w14 = World.alloc w9 (Obj.cells (Array.mk [Value.string (ByteArray.mk (Array.mk [])), Value.int IntKind.i64 0, Value.string (ByteArray.mk (Array.mk []))]) 51) →
                  ∃ w15 : World, (Sem.run Tryd.prog (storeVar 51 (Addr.mk (Array.size (World.heap w9)) 0 none) (Value.agg (Array.mk [Value.string s11, Value.int IntKind.i64 n12, Value.string s13]))) w14 = Result.ok PUnit.unit w15 ∧
                   ((0 ≤ n8 ∧
                     n8 ≤ (↑l3.3 : Int)) ∧
                    ∃ I16 : Int → World → Prop, ∃ I17 : Int → World → Nat, (I16 0 w15 ∧
                     ∀ n18 : Int,
                     ∀ w19 : World,
                     (I16 n18 w19 →
                       (((decide (n18 < (↑(Int.toNat n8) : Int)) = true →
                          ((0 ≤ n18 ∧
                            n18 < (↑(Int.toNat n8) : Int)) ∧
                           ∃ a20 : Addr, (subA l3.1 l3.3 0 3 = some a20 ∧
                            ∃ s21 : ByteArray, ∃ n22 : Int, ∃ s23 : ByteArray, (Sem.run Tryd.prog (loadVar 51 (Addr.add a20 (Int.toNat n18 * 3))) w19 = Result.ok (Value.agg (Array.mk [Value.string s21, Value.int IntKind.i64 n22, Value.string s23])) w19 ∧
                             ∀ w24 : World,
                             (w24 = World.alloc w19 (Obj.cells (Array.mk [Value.string (ByteArray.mk (Array.mk [])), Value.int IntKind.i64 0, Value.string (ByteArray.mk (Array.mk []))]) 51) →
                               ∃ w25 : World, (Sem.run Tryd.prog (storeVar 51 (Addr.mk (Array.size (World.heap w19)) 0 none) (Value.agg (Array.mk [Value.string s21, Value.int IntKind.i64 n22, Value.string s23]))) w24 = Result.ok PUnit.unit w25 ∧
                                ∃ s26 : ByteArray, (World.cell? w25 (Addr.mk (Array.size (World.heap w9)) 0 none) = some (Value.string s26) ∧
                                 ∃ s27 : ByteArray, (World.cell? w25 (Addr.mk (Array.size (World.heap w19)) 0 none) = some (Value.string s27) ∧
                                  ((((ByteArray.toList s26 == ByteArray.toList s27) = true →
                                     Calls Tryd.prog (22 : Nat) (Array.mk []) (w25) (fun e28 w29 =>
                                       ∃ b30 : Bool, (e28 = Ending.returned (Value.bool b30) ∧
                                        R (Value.bool b30) w29)))) ∧
                                   ((ByteArray.toList s26 == ByteArray.toList s27) = false →
                                     (I16 (IntKind.wrap IntKind.i64 (n18 + 1)) w25 ∧
                                      I17 (IntKind.wrap IntKind.i64 (n18 + 1)) w25 < I17 n18 w19)))))))))))) ∧
                        (decide (n18 < (↑(Int.toNat n8) : Int)) = false →
                          ∃ s31 : ByteArray, ∃ n32 : Int, ∃ s33 : ByteArray, (Sem.run Tryd.prog (loadVar 51 (Addr.mk (Array.size (World.heap w9)) 0 none)) w19 = Result.ok (Value.agg (Array.mk [Value.string s31, Value.int IntKind.i64 n32, Value.string s33])) w19 ∧
                           ∀ w34 : World,
                           (w34 = World.alloc w19 (Obj.cells (Array.mk [Value.string s31, Value.int IntKind.i64 n32, Value.string s33]) 51) →
                             ∃ w35 : World, ∃ l36 : Sl, (Sem.run Tryd.prog (Builtin.append_ (Array.mk [47, 47]) 47 (Array.mk [Value.slice (some (Addr.mk (Array.size (World.heap w19)) 0 none)) 1 1, Value.slice l7.1 l7.2 l7.3])) w34 = Result.ok (Value.slice l36.1 l36.2 l36.3) w35 ∧
                              (I5 (Sl.mk l36.1 l36.2 l36.3) (IntKind.wrap IntKind.i64 (n8 + 1)) w35 ∧
                               I6 (Sl.mk l36.1 l36.2 l36.3) (IntKind.wrap IntKind.i64 (n8 + 1)) w35 < I6 l7 n8 w9)))))))))))))))) ∧
           (decide (n8 < (↑l3.2 : Int)) = false →
             Calls Tryd.prog (27 : Nat) (Array.mk [Value.slice l3.1 l3.2 l3.3, Value.string x1]) (w9) (fun e37 w38 =>
               ∃ l39 : Sl, ∃ n40 : Int, (e37 = Ending.returned (Value.tuple (Array.mk [Value.slice l39.1 l39.2 l39.3, Value.int IntKind.i64 n40])) ∧
                Calls Tryd.prog (27 : Nat) (Array.mk [Value.slice l7.1 l7.2 l7.3, Value.string x1]) (w38) (fun e41 w42 =>
                  ∃ l43 : Sl, ∃ n44 : Int, (e41 = Ending.returned (Value.tuple (Array.mk [Value.slice l43.1 l43.2 l43.3, Value.int IntKind.i64 n44])) ∧
                   ((((n40 != n44) = true →
                      R (Value.bool false) w42)) ∧
                    ((n40 != n44) = false →
                      (((((↑l39.2 : Int) != (↑l43.2 : Int)) = true →
                         R (Value.bool false) w42)) ∧
                       (((↑l39.2 : Int) != (↑l43.2 : Int)) = false →
                         ∀ w45 : World,
                         (w45 = World.alloc w42 (Obj.cells (Array.mk []) 37) →
                           ∃ I46 : Sl → Int → World → Prop, ∃ I47 : Sl → Int → World → Nat, (I46 (Sl.mk (some (Addr.mk (Array.size (World.heap w42)) 0 none)) 0 0) 0 w45 ∧
                            ∀ l48 : Sl,
                            ∀ n49 : Int,
                            ∀ w50 : World,
                            (I46 l48 n49 w50 →
                              (((decide (n49 < (↑l39.2 : Int)) = true →
                                 ∀ w51 : World,
                                 (Drew w50 w51 →
                                   ∃ I52 : World → Prop, (I52 w51 ∧
                                    ((0 ≤ n49 ∧
                                      n49 < (↑l39.2 : Int)) ∧
                                     ∃ a53 : Addr, (l39.1 = some a53 ∧
                                      ((0 ≤ n49 ∧
                                        n49 < (↑l43.2 : Int)) ∧
                                       ∃ a54 : Addr, (l43.1 = some a54 ∧
                                        ∃ s55 : ByteArray, ∃ s56 : ByteArray, ((∀ w57 : World,
                                         (I52 w57 →
                                           Sem.run Tryd.prog (loadVar 37 (Addr.add a53 (Int.toNat n49 * 2))) w57 = Result.ok (Value.agg (Array.mk [Value.string s55, Value.string s56])) w57)) ∧
                                         ∃ s58 : ByteArray, ∃ s59 : ByteArray, ((∀ w60 : World,
                                          (I52 w60 →
                                            Sem.run Tryd.prog (loadVar 37 (Addr.add a54 (Int.toNat n49 * 2))) w60 = Result.ok (Value.agg (Array.mk [Value.string s58, Value.string s59])) w60)) ∧
                                          ((((!(ByteArray.toList s55 == ByteArray.toList s58 && ByteArray.toList s56 == ByteArray.toList s59)) = true →
                                             R (Value.bool false) w51)) ∧
                                           ((!(ByteArray.toList s55 == ByteArray.toList s58 && ByteArray.toList s56 == ByteArray.toList s59)) = false →
                                             ((0 ≤ n49 ∧
                                               n49 < (↑l39.2 : Int)) ∧
                                              ∃ a61 : Addr, (l39.1 = some a61 ∧
                                               ∃ s62 : ByteArray, ∃ s63 : ByteArray, (Sem.run Tryd.prog (loadVar 37 (Addr.add a61 (Int.toNat n49 * 2))) w51 = Result.ok (Value.agg (Array.mk [Value.string s62, Value.string s63])) w51 ∧
                                                ∀ w64 : World,
                                                (w64 = World.alloc w51 (Obj.cells (Array.mk [Value.string s62, Value.string s63]) 37) →
                                                  ∃ w65 : World, ∃ l66 : Sl, (Sem.run Tryd.prog (Builtin.append_ (Array.mk [22, 22]) 22 (Array.mk [Value.slice (some (Addr.mk (Array.size (World.heap w51)) 0 none)) 1 1, Value.slice l48.1 l48.2 l48.3])) w64 = Result.ok (Value.slice l66.1 l66.2 l66.3) w65 ∧
                                                   (I46 (Sl.mk l66.1 l66.2 l66.3) (IntKind.wrap IntKind.i64 (n49 + 1)) w65 ∧
                                                    I47 (Sl.mk l66.1 l66.2 l66.3) (IntKind.wrap IntKind.i64 (n49 + 1)) w65 < I47 l48 n49 w50)))))))))))))))))) ∧
                               (decide (n49 < (↑l39.2 : Int)) = false →
                                 ((((n40 != 0) = true →
                                    Calls Tryd.prog (22 : Nat) (Array.mk []) (w50) (fun e67 w68 =>
                                      ∃ b69 : Bool, (e67 = Ending.returned (Value.bool b69) ∧
                                       R (Value.bool b69) w68)))) ∧
                                  ((n40 != 0) = false →
                                    Calls Tryd.prog (30 : Nat) (Array.mk [Value.string (ByteArray.mk (Array.mk [101, 120, 97, 109, 112, 108, 101, 46, 99, 111, 109, 47, 109])), Value.string (ByteArray.mk (Array.mk [118, 49, 46, 48, 46, 48])), Value.slice l39.1 l39.2 l39.3]) (w50) (fun e70 w71 =>
                                      ∃ s72 : ByteArray, ∃ n73 : Int, (e70 = Ending.returned (Value.tuple (Array.mk [Value.string s72, Value.int IntKind.i64 n73])) ∧
                                       Calls Tryd.prog (30 : Nat) (Array.mk [Value.string (ByteArray.mk (Array.mk [101, 120, 97, 109, 112, 108, 101, 46, 99, 111, 109, 47, 109])), Value.string (ByteArray.mk (Array.mk [118, 49, 46, 48, 46, 48])), Value.slice l43.1 l43.2 l43.3]) (w71) (fun e74 w75 =>
                                         ∃ s76 : ByteArray, ∃ n77 : Int, (e74 = Ending.returned (Value.tuple (Array.mk [Value.string s76, Value.int IntKind.i64 n77])) ∧
                                          Calls Tryd.prog (22 : Nat) (Array.mk []) (w75) (fun e78 w79 =>
                                            ∃ b80 : Bool, (e78 = Ending.returned (Value.bool b80) ∧
                                             (((b80 = true →
                                                ((((ByteArray.toList s72 == ByteArray.toList s76) = true →
                                                   ((((n73 == n77) = true →
                                                      Calls Tryd.prog (23 : Nat) (Array.mk [Value.string (ByteArray.mk (Array.mk [109])), Value.string (ByteArray.mk (Array.mk [118])), Value.slice l39.1 l39.2 l39.3]) (w79) (fun e81 w82 =>
                                                        ∃ s83 : ByteArray, (e81 = Ending.returned (Value.string s83) ∧
                                                         Calls Tryd.prog (23 : Nat) (Array.mk [Value.string (ByteArray.mk (Array.mk [109])), Value.string (ByteArray.mk (Array.mk [118])), Value.slice l48.1 l48.2 l48.3]) (w82) (fun e84 w85 =>
                                                           ∃ s86 : ByteArray, (e84 = Ending.returned (Value.string s86) ∧
                                                            R (Value.bool (ByteArray.toList s83 == ByteArray.toList s86)) w85)))))) ∧
                                                    ((n73 == n77) = false →
                                                      R (Value.bool false) w79)))) ∧
                                                 ((ByteArray.toList s72 == ByteArray.toList s76) = false →
                                                   R (Value.bool false) w79)))) ∧
                                              (b80 = false →
                                                R (Value.bool false) w79))))))))))))))))))))))))))))))
theorem vc_cartularylaw24_ModzipTurns_ok {x0a : Option Addr} {x0n : Nat} {x0c : Nat} {x1 : ByteArray} {w : World} {R : Value → World → Prop} {R' : Ending → World → Prop} (h : vc_cartularylaw24_ModzipTurns x0a x0n x0c x1 w R) (hR : ∀ v w', R v w' → R' (.returned v) w') :
    Calls Tryd.prog 11 #[.slice x0a x0n x0c, .string x1] w R' :=
  calls_of_body (vs := [(.slice x0a x0n x0c, false), (.string x1, false)]) (ty := ty) (ann := ⟨[], [(4, [(6, .slice), (26, .int .i64)]), (7, [(35, .int .i64)]), (20, [(15, .slice), (76, .int .i64)])], [(22, .held [(0, true), (1, true), (2, true), (4, true), (5, true), (6, true), (3, true), (7, true), (8, true)])], []⟩) (c := Tryd.f11.body.getD .skip) (by kernel_rfl) Tryd.func11 (by kernel_rfl) (by kernel_rfl) (Eq.mp (by kernel_rfl) h) hR
end Go.Proofs.YtfoeooddnmppnaaDoor

/- Chapter 24's awake, and its Short of items. Conditions: as named. -/
set_option linter.unusedVariables false
namespace Go.Proofs.YtfoeooddnmppnaaDoor
open Go Vc ShaM HexM StabM B64M Go.Proofs

def it0 : List ItE := [⟨⟨#[97, 46, 103, 111]⟩, 33188, ⟨#[120]⟩⟩, ⟨⟨#[115, 117, 98, 47, 103, 111, 46, 109, 111, 100]⟩, 33188, ⟨#[]⟩⟩, ⟨sLic, 33261, ⟨#[]⟩⟩]
def dir0 : ByteArray := ⟨#[115, 117, 98]⟩
def sel0 : List FileE := [⟨sLic, ⟨#[]⟩⟩, ⟨sMod, ⟨#[]⟩⟩]
theorem sel0_is : selE it0 dir0 = [⟨sMod, ⟨#[]⟩⟩, ⟨sLic, ⟨#[]⟩⟩] := by kernel_rfl
theorem dir0_ok : dirOK dir0 = true := by kernel_rfl
theorem chk0 : chkE sel0 = 0 := by kernel_rfl
theorem hash0 : hashE [] = ⟨#[104, 49, 58, 52, 55, 68, 69, 81, 112, 106, 56, 72, 66, 83, 97, 43, 47, 84, 73, 109, 87, 43, 53, 74, 67, 101, 117, 81, 101, 82, 107, 109, 53, 78, 77, 112, 74, 87, 90, 71, 51, 104, 83, 117, 70, 85, 61]⟩ := by kernel_rfl
theorem sel0_all {ys : List FileE} (hp : ys.Perm (selE it0 dir0)) (hs : Srt ltP ys) : ys = sel0 := by
  have h1 : Srt ltP sel0 := List.pairwise_cons.2 ⟨fun y hy => by rw [List.mem_singleton] at hy; subst hy; kernel_rfl, srt_one _⟩
  have hp2 : ys.Perm sel0 := hp.trans (by rw [sel0_is]; exact List.Perm.swap _ _ _)
  have hn : (sel0.map (·.path)).Nodup := by
    unfold sel0
    rw [List.map_cons, List.map_cons, List.map_nil, List.nodup_cons]
    exact ⟨fun h => (by rw [List.mem_singleton] at h; have := congrArg ByteArray.size h; cases this), by simp⟩
  have key : ∀ zs : List FileE, Srt ltP zs → zs.Pairwise fun x y => ¬ y.path.data.toList < x.path.data.toList := fun zs h => h.imp fun h => of_decide_eq_false h
  exact sorted_one hp2 ((hp2.map _).nodup_iff.2 hn) (key _ hs) (key _ h1)
theorem awake24_spec {w : World} (hm : MaxL w) : Calls Tryd.prog F_cartularylaw24_awake #[] w fun e w' => e = .returned (.bool true) ∧ Fr (fun _ => False) w w' := by
  refine vc_cartularylaw24_awake_ok (R := fun v w' => v = .bool true ∧ Fr (fun _ => False) w w') ?_ (fun v w' h => ⟨by rw [h.1], h.2⟩)
  intro w1 h1
  have hf1 : Fr (fun _ => False) w w1 := by rw [h1]; exact .alloc _ _ _
  have hb1 : w1.heap[w.heap.size]? = some (.cells (it0.flatMap encI).toArray T_modzip_Item (0, 0)) := by rw [h1]; exact alloc_new _ _
  have hr : ReadsK encI 3 w1 (some ⟨w.heap.size, 0, none⟩) it0 := fun i x hx => by
    refine ⟨_, rfl, fun j v hv => ?_⟩
    have hj : j < 3 := (List.getElem?_eq_some_iff.1 hv).1
    rw [add_lit, add_lit, cell_blk hb1, List.getElem?_toArray, Nat.zero_add]
    exact flat_get (enc := encI) (k := 3) (fun _ => rfl) it0 i x j v hx hv
  refine (select_spec hr rfl (by decide) (dir := dir0) (by decide +kernel) (by decide +kernel) (by decide) (hm.keep hf1)).mono ?_
  rintro e w3 ⟨v, rfl, hf3, hcase⟩
  rcases hcase with ⟨h, _⟩ | ⟨_, ys, hp, hs, hc⟩
  · rw [dir0_ok] at h; cases h
  have hys := sel0_all hp hs
  subst hys
  rw [chk0] at hc
  rcases hc with ⟨h, _⟩ | ⟨_, l, rfl, ho⟩
  · exact absurd rfl h
  have hl := ho.len
  obtain ⟨ad, had, hrd⟩ := (ho.reads fun _ => rfl) 0 _ rfl
  obtain ⟨ad', had', hrd'⟩ := (ho.reads fun _ => rfl) 1 _ rfl
  rw [had] at had'
  cases had'
  have c0 := hrd 0 _ rfl
  have c1 := hrd' 0 _ rfl
  have hz : ∀ q : Addr, q.add 0 = q := fun q => by cases q; rfl
  rw [hz] at c0 c1
  have hl2 : l.len = 2 := hl
  refine ⟨l, 0, rfl, fun _ => ⟨fun _ => ⟨⟨by decide, by omega⟩, ad, had, _, c0, fun _ => ⟨⟨by decide, by omega⟩, ad, had, _, c1, fun _ => ?_, fun h => (by rw [bs_eq] at h; exact absurd rfl (of_decide_eq_false h))⟩, fun h => (by rw [bs_eq] at h; exact absurd rfl (of_decide_eq_false h))⟩, fun h => (by rw [hl2] at h; cases h)⟩, fun h => (by cases h)⟩
  refine (hash_spec (xs := []) (.nil _ _) rfl (by decide) ⟨#[109]⟩ ⟨#[118]⟩ (by simp) (by decide) (by simp)).mono ?_
  rintro e w11 ⟨ys, rfl, hp, _, _, hf11⟩
  have hy0 : ys = [] := List.perm_nil.1 hp
  subst hy0
  refine ⟨_, rfl, ?_, (hf1.trans' hf3).trans' hf11⟩
  rw [hash0, bs_eq, decide_eq_true rfl]
/-- An item of at most 400 bytes. -/
def cutI (x : ItE) : ItE := ⟨x.path, x.mode, fewB x.data 400⟩
def shortI (xs : List ItE) (m : Nat) : List ItE := (xs.take m).map cutI
theorem short24_spec {w : World} {a : Option Addr} {n c : Nat} {xs : List ItE} (hr : ReadsK encI 3 w a xs) (hn : xs.length = n) (m : Nat) (hm : m ≤ 1000) : Calls Tryd.prog F_cartularylaw24_Short #[.slice a n c, .int .i64 m] w fun e w' =>
    ∃ l, e = .returned (.slice l.a l.len l.cap) ∧ OwnK encI 3 w' w.heap.size T_modzip_Item l (shortI xs m) ∧ Fr (fun _ => False) w w' := by
  refine vc_cartularylaw24_Short_ok (R := fun v w' => ∃ l : Sl, v = .slice l.a l.len l.cap ∧ OwnK encI 3 w' w.heap.size T_modzip_Item l (shortI xs m) ∧ Fr (fun _ => False) w w') ?_ (fun v w' ⟨l, h⟩ => ⟨l, by rw [h.1], h.2⟩)
  intro w1 h1
  have hf1 : Fr (fun _ => False) w w1 := by rw [h1]; exact .alloc _ _ _
  have ho1 : OwnK encI 3 w1 w.heap.size T_modzip_Item ⟨some ⟨w.heap.size, 0, none⟩, 0, 0⟩ [] := by rw [h1]; exact .empty w T_modzip_Item
  refine ⟨fun l i w' => ∃ k : Nat, i = k ∧ k ≤ xs.length ∧ k ≤ m ∧ OwnK encI 3 w' w.heap.size T_modzip_Item l ((xs.take k).map cutI) ∧ Fr (fun _ => False) w w', fun _ i _ => xs.length - i.toNat, ⟨0, rfl, Nat.zero_le _, Nat.zero_le _, ho1, hf1⟩, ?_⟩
  rintro l i w6 ⟨k, rfl, hk, hkm, ho, hf⟩
  refine ⟨fun hlt => ⟨fun hlm => ?_, fun hge => ⟨l, rfl, ?_, hf⟩⟩, fun hge => ⟨l, rfl, ?_, hf⟩⟩
  · have hlt := of_decide_eq_true hlt
    have hlm := of_decide_eq_true hlm
    have hkl : k < xs.length := by omega
    have hx : xs[k]? = some xs[k] := List.getElem?_eq_getElem hkl
    have htk : xs.take (k + 1) = xs.take k ++ [xs[k]] := (List.take_append_getElem hkl).symm
    generalize xs[k] = x at hx htk
    obtain ⟨ad, had, hld⟩ := ((hr.keep hf (by simp)).load elI hx)
    refine ⟨⟨by omega, by omega⟩, ad, had, x.path, x.mode, x.data, by rw [Int.toNat_natCast]; exact hld, fun w11 h11 => ?_⟩
    subst h11
    have hbb : (w6.alloc (.cells (encI x).toArray T_modzip_Item)).heap[w6.heap.size]? = some (.cells (encI x).toArray T_modzip_Item (0, 0)) := alloc_new _ _
    have hfb : Fr (fun _ => False) w6 (w6.alloc (.cells (encI x).toArray T_modzip_Item)) := .alloc _ _ _
    refine ⟨_, boxI_run w6 x, x.data, by rw [cell_blk hbb]; rfl, (fewS_spec x.data 400 _).mono ?_⟩
    rintro e w15 ⟨rfl, hw⟩
    replace hw := hw.symm
    subst hw
    refine ⟨_, rfl, wr_blk hbb (by simp [encI]), fun w17 h17 => ?_⟩
    have hb17 : w17.heap[w6.heap.size]? = some (.cells (encI (cutI x)).toArray T_modzip_Item (0, 0)) := by rw [h17, set_blk hbb]; rfl
    have hf17 : Fr (fun _ => False) w6 w17 := by
      rw [h17]
      exact hfb.trans (Fr.set (· = w6.heap.size) _ _ rfl) fun q hq e => by omega
    refine ⟨_, _, _, boxI_load hb17, fun w21 h21 => ?_⟩
    have hfl : ((xs.take k).map cutI).length ≤ 1000 := by rw [List.length_map, List.length_take]; omega
    obtain ⟨w22, l23, hr22, ho22, hf22, _⟩ := append_oneK elI (ho.keep hf17 (by simp)) (x := cutI x) (by unfold maxLen; omega) (by omega) (by have := hf17.size; have := hf.size; omega) h21
    have e1 : IntKind.i64.wrap ((k : Int) + 1) = ((k + 1 : Nat) : Int) := by rw [wrap_i64 (by omega) (by omega)]; omega
    rw [e1]
    refine ⟨w22, l23, hr22, ⟨k + 1, rfl, by omega, by omega, by rw [htk, List.map_append]; exact ho22, (hf.trans' hf17).trans hf22 fun q hq ⟨y, hy, e⟩ => by have := (ho.blk hy).1; omega⟩, by dsimp only; omega⟩
  · have hge := of_decide_eq_false hge
    have : k = m := by omega
    subst this
    exact ho
  · have hge := of_decide_eq_false hge
    have : k = xs.length := by omega
    unfold shortI
    rw [List.take_of_length_le (by omega : xs.length ≤ m)]
    rw [this, List.take_length] at ho
    exact ho
theorem shortI_facts {xs : List ItE} (m : Nat) : (shortI xs m).length ≤ m ∧ ∀ x ∈ shortI xs m, x.data.size ≤ 400 ∧ ∃ y ∈ xs, x.path = y.path := by
  refine ⟨by unfold shortI; rw [List.length_map, List.length_take]; omega, fun x hx => ?_⟩
  obtain ⟨y, hy, rfl⟩ := List.mem_map.1 hx
  exact ⟨(fewB_size _ _).1, y, List.mem_of_mem_take hy, rfl⟩
end Go.Proofs.YtfoeooddnmppnaaDoor

/- What is selected stands in no other module's folder and in no folder vendor, in plain. No condition. -/
set_option linter.unusedVariables false
namespace Go.Proofs.YtfoeooddnmppnaaDoor
open Go Vc Go.Proofs

theorem sel_from {xs : List ItE} {dir : ByteArray} {f : FileE} (h : f ∈ selE xs dir) : ∃ x ∈ xs, x.data = f.data ∧ (x.path = frontOf dir ++ f.path ∨ f.path = sLic ∧ x.path = sLic) := by
  rcases sel_mem h with h | h
  · obtain ⟨x, hx, h1, rfl⟩ := take_mem h
    refine ⟨x, hx, rfl, .inl ?_⟩
    have b1 : begB x.path (frontOf dir) = true := by unfold isTake okI at h1; simp only [Bool.and_eq_true] at h1; exact h1.1.1.1
    exact beg_cutPre b1
  · obtain ⟨x, hx, h1, rfl⟩ := lic_mem h
    unfold isLic at h1
    simp only [Bool.and_eq_true, decide_eq_true_eq] at h1
    exact ⟨x, hx, rfl, .inr ⟨rfl, h1.1⟩⟩
theorem beg_folder (s : ByteArray) (k : Nat) : begB s (s.extract 0 k) = true := by
  unfold begB
  rw [bs_head]
  exact decide_eq_true (List.take_prefix _ _)
theorem hasL_mid (t a b : List UInt8) : hasL t (a ++ (t ++ b)) = true := hasL_front t _ (hasL_pre (List.prefix_append t b)) a
theorem folder_last {s : ByteArray} {k : Nat} (hk : k < s.size) (hb : byt s k = 47) : (s.extract 0 (k + 1)).data.toList = s.data.toList.take k ++ [47] := by
  rw [bs_head, bs_take hk, hb]; rfl
theorem sel_folder {xs : List ItE} {dir : ByteArray} {f : FileE} (h : f ∈ selE xs dir) {k : Nat} (hk : k < f.path.size) (hb : byt f.path k = 47) :
    f.path.extract 0 (k + 1) ≠ sVen ∧ (8 < k + 1 → (f.path.extract 0 (k + 1)).extract (k + 1 - 8) (k + 1) ≠ sVen2) ∧ ∀ x ∈ xs, plainI x = true → x.path ≠ (frontOf dir ++ f.path.extract 0 (k + 1)) ++ sMod := by
  rcases sel_mem h with h | h
  · obtain ⟨x, hx, h1, rfl⟩ := take_mem h
    unfold isTake at h1
    simp only [Bool.and_eq_true, Bool.not_eq_true'] at h1
    obtain ⟨⟨h1, hi⟩, hv⟩ := h1
    generalize cutPre x.path (frontOf dir) = p at *
    unfold vend at hv
    rw [Bool.or_eq_false_iff] at hv
    have hsz : (p.extract 0 (k + 1)).size = k + 1 := by rw [ByteArray.size_extract]; dsimp only at hk; omega
    refine ⟨fun e => ?_, fun h8 e => ?_, fun y hy hp e => ?_⟩
    · have := beg_folder p (k + 1)
      dsimp only at e
      rw [e, hv.1] at this
      cases this
    · have : hasL sVen2.data.toList p.data.toList = true := by
        have e2 : p.data.toList = p.data.toList.take (k + 1 - 8) ++ (sVen2.data.toList ++ p.data.toList.drop (k + 1)) := by
          dsimp only at e
          rw [← e, bs_extract, bs_head, show k + 1 - (k + 1 - 8) = 8 by omega, List.drop_take, show k + 1 - (k + 1 - 8) = 8 by omega, List.take_take, Nat.min_self, ← List.append_assoc, ← List.take_add, show k + 1 - 8 + 8 = k + 1 by omega, List.take_append_drop]
        rw [e2]
        exact hasL_mid _ _ _
      rw [hv.2] at this
      cases this
    · dsimp only at e hk hb
      have hfold := folder_last hk hb
      generalize hF : p.extract 0 (k + 1) = F at *
      have hbeg : begB y.path (frontOf dir) = true := by
        rw [e]
        unfold begB
        rw [bs_app, bs_app, List.append_assoc]
        exact decide_eq_true (List.prefix_append _ _)
      have hcut : cutPre y.path (frontOf dir) = F ++ sMod := by
        have := beg_cutPre hbeg
        rw [e] at this
        refine bs_ext ?_
        have h2 := congrArg (fun s : ByteArray => s.data.toList) this
        simp only [bs_app, List.append_assoc] at h2
        rw [e, bs_app]
        exact (List.append_cancel_left h2).symm
      have hm : F ∈ xs.flatMap (nestE (frontOf dir)) := by
        refine List.mem_flatMap.2 ⟨y, hy, ?_⟩
        have hnest : isNest (frontOf dir) y = true := by
          unfold isNest okI
          rw [hbeg, hp, hcut, bs_app, hfold]
          simp only [Bool.and_self, Bool.true_and]
          unfold sufL
          exact decide_eq_true ⟨p.data.toList.take k, by rw [List.append_assoc]; rfl⟩
        unfold nestE
        rw [if_pos hnest, hcut]
        have : cutSuf (F ++ sMod) sMod = F := by
          unfold cutSuf
          rw [if_pos (by unfold sufL; rw [bs_app]; exact decide_eq_true (List.suffix_append _ _))]
          refine bs_ext ?_
          rw [bs_head, bs_app, show (F ++ sMod).size - sMod.size = F.data.toList.length by rw [ByteArray.size_append, bs_len]; omega, List.take_left]
        rw [this]
        exact List.mem_singleton.2 rfl
      have : inB (xs.flatMap (nestE (frontOf dir))) p = true := List.any_eq_true.2 ⟨F, hm, by rw [← hF]; exact beg_folder p (k + 1)⟩
      rw [hi] at this
      cases this
  · obtain ⟨x, hx, h1, rfl⟩ := lic_mem h
    dsimp only at hk hb
    have key : ∀ j : Fin 7, byt sLic j ≠ 47 := by decide
    exact absurd hb (key ⟨k, hk⟩)
end Go.Proofs.YtfoeooddnmppnaaDoor

/- ModzipHashed: a hash has 47 letters and hangs on nothing else than the files. Conditions: what comes in is within the reach. -/
set_option linter.unusedVariables false
namespace Go.Proofs.YtfoeooddnmppnaaDoor
open Go Vc ShaM HexM StabM B64M Go.Proofs

theorem hashE_head (ys : List FileE) : (hashE ys).extract 0 3 = ⟨#[104, 49, 58]⟩ := by
  refine bs_ext ?_
  unfold hashE
  rw [bs_head, bs_app]; rfl
theorem front_size (m v : ByteArray) : (frontE m v).size = m.size + v.size + 2 := by
  unfold frontE
  rw [ByteArray.size_append, ByteArray.size_append, ByteArray.size_append]
  show m.size + 1 + v.size + 1 = _
  omega
theorem shortF_sz {xs : List FileE} {m N : Nat} (hb : ∀ x ∈ xs, x.path.size ≤ N ∧ x.data.size ≤ N) : (shortF xs m).length ≤ m ∧ ∀ x ∈ shortF xs m, x.path.size ≤ N ∧ x.data.size ≤ 400 := by
  refine ⟨by unfold shortF; rw [List.length_map, List.length_take]; omega, fun x hx => ?_⟩
  obtain ⟨y, hy, rfl⟩ := List.mem_map.1 hx
  exact ⟨(hb y (List.mem_of_mem_take hy)).1, (fewB_size _ _).1⟩
def fAn : FileE := ⟨⟨#[97, 110, 111, 116, 104, 101, 114]⟩, ⟨#[120]⟩⟩
theorem hashed_walk {a : Option Addr} {n c : Nat} {W : World} {xs : List FileE} (hr : ReadsK encF 2 W a xs) (hn : xs.length = n) (hc : n ≤ c) (hb : ∀ x ∈ xs, x.path.size ≤ reachBytes ∧ x.data.size ≤ reachBytes) (m : ByteArray) (hm : m.size ≤ reachBytes) (v : ByteArray) (hv : v.size ≤ reachBytes) (hml : MaxL W) :
    Calls Tryd.prog F_cartularylaw24_ModzipHashed #[.slice a n c, .string m, .string v] W fun e w' => e = .returned (.bool true) ∧ RowKit.Below W.heap.size W w' := by
  refine vc_cartularylaw24_ModzipHashed_ok (R := fun u w' => u = .bool true ∧ Fr (fun _ => False) W w') ?_ (fun u w' h => ⟨by rw [h.1], (h.2.mono fun _ _ h => h.elim : Fr (fun k => W.heap.size ≤ k) W w').below (Nat.le_refl _)⟩)
  have hrb : reachBytes ≤ 140737488355328 := by decide
  obtain ⟨hl20, hsz⟩ := shortF_sz (m := 20) hb
  have hfs := front_size m v
  have hpre : ∀ x ∈ shortF xs 20, (frontE m v).size + x.path.size ≤ 562949953421312 := fun x hx => by have := (hsz x hx).1; omega
  have hdat : ∀ x ∈ shortF xs 20, x.data.size ≤ 1000000 := fun x hx => by have := (hsz x hx).2; omega
  refine (short09_spec hr hn hc 20 (by decide)).mono ?_
  rintro e w2 ⟨l3, rfl, ho2, hf2⟩
  refine ⟨l3, rfl, (hash_spec (ho2.reads fun _ => rfl) ho2.1 (by have := ho2.1; omega) m v hpre (by omega) hdat).mono ?_⟩
  rintro e w5 ⟨ys, rfl, _, _, hi5, hf5⟩
  have hf5' := hf2.trans' hf5
  refine ⟨_, rfl, fun h => (by rw [hashE_size] at h; cases h), fun _ => ⟨⟨by decide, by rw [hashE_size]; decide⟩, fun h => ?_, fun _ => ?_⟩⟩
  · rw [show Int.toNat 3 = 3 from rfl, hashE_head, bs_eq, decide_eq_true rfl] at h; cases h
  refine (short09_spec (hr.keep hf5' (by simp)) hn hc 20 (by decide)).mono ?_
  rintro e w8 ⟨l9, rfl, ho8, hf8⟩
  refine ⟨l9, rfl, (hash_spec (ho8.reads fun _ => rfl) ho8.1 (by have := ho8.1; omega) m v hpre (by omega) hdat).mono ?_⟩
  rintro e w11 ⟨zs, rfl, _, _, hi11, hf11⟩
  have hf11' := (hf5'.trans' hf8).trans' hf11
  have hyz : ys = zs := (hi5 hl20).trans (hi11 hl20).symm
  refine ⟨_, rfl, fun h => (by rw [hyz, bs_eq, decide_eq_true rfl] at h; cases h), fun _ => ?_⟩
  refine (short09_spec (hr.keep hf11' (by simp)) hn hc 20 (by decide)).mono ?_
  rintro e w14 ⟨l15, rfl, ho14, hf14⟩
  refine ⟨l15, rfl, fun w16 h16 => ?_⟩
  obtain ⟨w17, l18, hr17, ho17, hf17, _⟩ := append_oneK elF ho14 (x := fAn) (by unfold maxLen; omega) (by omega) hf14.size h16
  have hf17' : Fr (fun _ => False) W w17 := (hf11'.trans' hf14).trans hf17 fun q hq ⟨y, hy, e⟩ => by have := (ho14.blk hy).1; have := hf11'.size; omega
  refine ⟨w17, l18, hr17, (awake24_spec (hml.keep hf17')).mono ?_⟩
  rintro e w20 ⟨rfl, hf20⟩
  refine ⟨_, rfl, fun _ => ?_, fun h => (by cases h)⟩
  have ho20 := ho17.keep hf20 (by simp)
  have hf20' := hf17'.trans' hf20
  have hl21 : (shortF xs 20 ++ [fAn]).length ≤ 21 := by rw [List.length_append]; simp; omega
  refine (hash_spec (ho20.reads fun _ => rfl) ho20.1 (by have := ho20.1; omega) m v (fun x hx => ?_) (by omega) (fun x hx => ?_)).mono ?_
  · rcases List.mem_append.1 hx with hx | hx
    · exact hpre x hx
    · rw [List.mem_singleton] at hx
      subst hx
      have : fAn.path.size = 7 := rfl
      omega
  · rcases List.mem_append.1 hx with hx | hx
    · exact hdat x hx
    · rw [List.mem_singleton] at hx
      subst hx
      have : fAn.data.size = 1 := rfl
      omega
  rintro e w23 ⟨us, rfl, _, _, _, hf23⟩
  refine ⟨_, rfl, fun _ => ⟨?_, ?_, ?_⟩, fun h => (by rw [hashE_size] at h; cases h)⟩
  · show m.size + 1 ≤ 9223372036854775807
    omega
  · rw [ByteArray.size_append]
    show m.size + 1 + v.size ≤ 9223372036854775807
    omega
  have hmv : (m ++ (⟨#[64]⟩ : ByteArray) ++ v).size = m.size + 1 + v.size := by rw [ByteArray.size_append, ByteArray.size_append]; rfl
  have hbnd : (m ++ (⟨#[64]⟩ : ByteArray) ++ v).size + (⟨#[]⟩ : ByteArray).size ≤ 4611686018427387904 := by
    have h0 : (⟨#[]⟩ : ByteArray).size = 0 := rfl
    rw [hmv, h0]; omega
  refine (hash_spec (xs := []) (c := 0) (.nil w23 none) rfl (by decide) (m ++ (⟨#[64]⟩ : ByteArray) ++ v) (⟨#[]⟩ : ByteArray) (fun x hx => by simp at hx) hbnd (fun x hx => by simp at hx)).mono ?_
  rintro e w26 ⟨p1, rfl, hp1, _, _, hf26⟩
  refine ⟨_, rfl, (hash_spec (xs := []) (.nil _ _) rfl (by decide) m v (by simp) (by omega) (by simp)).mono ?_⟩
  rintro e w29 ⟨p2, rfl, hp2, _, _, hf29⟩
  rw [List.perm_nil.1 hp1, List.perm_nil.1 hp2]
  exact ⟨_, rfl, by rw [bs_eq, decide_eq_true rfl], ((hf20'.trans' hf23).trans' hf26).trans' hf29⟩
end Go.Proofs.YtfoeooddnmppnaaDoor

/- ModzipNested: a module's files never come from another module's folder, from vendor, or from outside but for the licence. Condition: paths are of at most a megabyte. -/
set_option linter.unusedVariables false
namespace Go.Proofs.YtfoeooddnmppnaaDoor
open Go Vc ShaM HexM StabM B64M Go.Proofs

/-- Strictly rising, where nothing is wrong. -/
theorem chk_strict {ys : List FileE} (hs : Srt ltP ys) (hc : chkE ys = 0) {i : Nat} {x y : FileE} (hx : ys[i]? = some x) (hy : ys[i + 1]? = some y) : x.path.data.toList < y.path.data.toList := by
  obtain ⟨h1, e1⟩ := List.getElem?_eq_some_iff.1 hx
  obtain ⟨h2, e2⟩ := List.getElem?_eq_some_iff.1 hy
  have ha := List.pairwise_iff_getElem.1 hs i (i + 1) h1 h2 (by omega)
  rw [e1, e2] at ha
  have ha := of_decide_eq_false ha
  have hn := (chk_ok hc).2.1
  have hb := List.pairwise_iff_getElem.1 hn i (i + 1) (by simpa using h1) (by simpa using h2) (by omega)
  simp only [List.getElem_map, e1, e2] at hb
  rcases lt_tri x.path.data.toList y.path.data.toList with h | h | h
  · exact h
  · exact absurd (bs_ext h) hb
  · exact absurd h ha
def fromB (front : ByteArray) (f : FileE) (x : ItE) : Bool := decide (x.data = f.data) && (decide (x.path = front ++ f.path) || (decide (f.path = sLic) && decide (x.path = sLic)))
set_option maxHeartbeats 1000000 in
theorem nested_walk {a : Option Addr} {n c : Nat} {W : World} {xs : List ItE} (hr : ReadsK encI 3 W a xs) (hn : xs.length = n) (hb : ∀ x ∈ xs, x.path.size ≤ 1048576) (dir : ByteArray) (hdir : dir.size ≤ reachBytes) (hml : MaxL W) :
    Calls Tryd.prog F_cartularylaw24_ModzipNested #[.slice a n c, .string dir] W fun e w' => e = .returned (.bool true) ∧ RowKit.Below W.heap.size W w' := by
  refine vc_cartularylaw24_ModzipNested_ok (R := fun u w' => u = .bool true ∧ Fr (fun _ => False) W w') ?_ (fun u w' h => ⟨by rw [h.1], (h.2.mono fun _ _ h => h.elim : Fr (fun k => W.heap.size ≤ k) W w').below (Nat.le_refl _)⟩)
  have hrb : reachBytes ≤ 140737488355328 := by decide
  refine (short24_spec hr hn 40 (by decide)).mono ?_
  rintro e w2 ⟨l3, rfl, ho2, hf2⟩
  obtain ⟨hl40, hz⟩ := shortI_facts (xs := xs) 40
  have hzp : ∀ x ∈ shortI xs 40, x.path.size ≤ 1048576 := fun x hx => by obtain ⟨y, hy, e⟩ := (hz x hx).2; rw [e]; exact hb y hy
  have hzd : ∀ x ∈ shortI xs 40, x.data.size ≤ 400 := fun x hx => (hz x hx).1
  generalize shortI xs 40 = zs at *
  have hl3 := ho2.len
  refine ⟨l3, rfl, (select_spec (ho2.reads fun _ => rfl) ho2.1 (by omega) (dir := dir) (fun x hx => Nat.le_trans (hzp x hx) (by decide)) (fun x hx => Nat.le_trans (hzd x hx) (by decide)) (by omega) (hml.keep hf2)).mono ?_⟩
  rintro e w5 ⟨v, rfl, hf5, hcase⟩
  have hf5' := hf2.trans' hf5
  have hbad : ∀ z : Int, z ≠ 0 → ∃ (l6 : Sl) (n7 : Int), Ending.returned (.tuple #[.slice none 0 0, .int .i64 z]) = .returned (.tuple #[.slice l6.a l6.len l6.cap, .int .i64 n7]) ∧ l6 = ⟨none, 0, 0⟩ ∧ n7 = z := fun z _ => ⟨⟨none, 0, 0⟩, z, rfl, rfl, rfl⟩
  have hawake : Calls Tryd.prog F_cartularylaw24_awake #[] w5 fun e8 w9 => ∃ b10 : Bool, e8 = .returned (.bool b10) ∧ ((.bool b10 : Value) = .bool true ∧ Fr (fun _ => False) W w9) := by
    refine (awake24_spec (hml.keep hf5')).mono ?_
    rintro e w9 ⟨rfl, hf9⟩
    exact ⟨true, rfl, rfl, hf5'.trans' hf9⟩
  rcases hcase with ⟨_, rfl⟩ | ⟨hok, ys, hp, hs, hc⟩
  · exact ⟨⟨none, 0, 0⟩, 4, rfl, fun _ => hawake, fun h => (by cases h)⟩
  rcases hc with ⟨hne, rfl⟩ | ⟨hc0, l6, rfl, ho5⟩
  · exact ⟨⟨none, 0, 0⟩, chkE ys, rfl, fun _ => hawake, fun h => absurd (by simpa using h) hne⟩
  refine ⟨l6, 0, rfl, fun h => (by cases h), fun _ => ?_⟩
  have hdne : ∀ b : Bool, (!ByteArray.toList dir == ByteArray.toList ⟨#[]⟩) = b → decide (dir.size = 0) = !b := fun b h => by
    rw [bs_eq] at h
    rw [← h, Bool.not_not]
    exact decide_eq_decide.2 bs_empty.symm
  obtain ⟨front, hfr⟩ : ∃ front, frontOf dir = front := ⟨_, rfl⟩
  have hfsz : front.size ≤ 140737488355329 := by
    rw [← hfr]
    unfold frontOf
    split
    · show 0 ≤ _
      omega
    · rw [ByteArray.size_append]
      show dir.size + 1 ≤ _
      omega
  refine ⟨fun s w' => s = front ∧ w' = w5, ⟨fun h => ⟨?_, ?_, rfl⟩, fun h => ⟨?_, rfl⟩⟩, ?_⟩
  · show dir.size + 1 ≤ 9223372036854775807
    omega
  · rw [← hfr]; unfold frontOf; rw [if_neg (of_decide_eq_false (hdne _ h))]
  · rw [← hfr]; unfold frontOf; rw [if_pos (of_decide_eq_true (hdne _ h))]
  rintro s12 w13 ⟨rfl, hw13⟩
  replace hw13 := hw13.symm
  subst hw13
  have hl6 := ho5.len
  have hyl : ys.length ≤ 41 := by have h1 := hp.length_eq; have h2 := sel_len zs dir; omega
  have hysz : ∀ y ∈ ys, y.path.size ≤ 1048576 ∧ y.data.size ≤ 400 := fun y hy => sel_sizes (P := 1048576) (B := 400) (by decide) hzp hzd y (hp.subset hy)
  have ho2' := ho2.keep hf5 (by simp)
  have hfrom : ∀ f ∈ ys, zs.any (fromB s12 f) = true := fun f hf => by
    obtain ⟨x, hx, hd, hpth⟩ := sel_from (hp.subset hf)
    refine List.any_eq_true.2 ⟨x, hx, ?_⟩
    unfold fromB
    rw [decide_eq_true hd, Bool.true_and]
    rcases hpth with h | ⟨h1, h2⟩
    · rw [hfr] at h; rw [decide_eq_true h]; rfl
    · rw [decide_eq_true h1, decide_eq_true h2]; simp
  have hfold : ∀ f ∈ ys, ∀ k, k < f.path.size → byt f.path k = 47 → f.path.extract 0 (k + 1) ≠ sVen ∧ (8 < k + 1 → (f.path.extract 0 (k + 1)).extract (k + 1 - 8) (k + 1) ≠ sVen2) ∧ ∀ x ∈ zs, plainI x = true → x.path ≠ (s12 ++ f.path.extract 0 (k + 1)) ++ sMod := fun f hf k hk hb => by
    have := sel_folder (hp.subset hf) hk hb
    rw [hfr] at this
    exact this
  refine ⟨fun i w' => ∃ k : Nat, i = k ∧ k ≤ ys.length ∧ Fr (fun _ => False) w5 w', fun i _ => ys.length - i.toNat, ⟨0, rfl, Nat.zero_le _, .refl _ _⟩, ?_⟩
  rintro i w17 ⟨k, rfl, hk, hf17⟩
  refine ⟨fun hlt => ?_, fun hge => ?_⟩
  · have hlt := of_decide_eq_true hlt
    have hkl : k < ys.length := by omega
    have hx : ys[k]? = some ys[k] := List.getElem?_eq_getElem hkl
    generalize ys[k] = f at hx
    have hfm := List.mem_of_getElem? hx
    obtain ⟨hfp, hfd⟩ := hysz f hfm
    have ho17 := ho5.keep hf17 (by simp)
    obtain ⟨ad, had, hld⟩ := load_at ho17 hx
    refine ⟨⟨by omega, by omega⟩, ad, had, f.path, f.data, by rw [Int.toNat_natCast]; exact hld w17 (.refl _ _), fun w21 h21 => ?_⟩
    subst h21
    obtain ⟨w22, hw22⟩ : ∃ w22, w17.alloc (.cells (encF f).toArray T_api_File) = w22 := ⟨_, rfl⟩
    have hfb : Fr (fun _ => False) w17 w22 := by rw [← hw22]; exact .alloc _ _ _
    have hcell : ∀ w', Fr (fun _ => False) w22 w' → ∀ (j : Nat) v, (encF f)[j]? = some v → w'.cell? ⟨w17.heap.size, j, none⟩ = some v := fun w' hw' j v hv => by
      rw [← hw22] at hw'; exact boxF_cell w17 f hw' (by simp) hv
    have c0 := fun w' hw' => hcell w' hw' 0 (.string f.path) rfl
    have c1 := fun w' hw' => hcell w' hw' 1 (.string f.data) rfl
    refine ⟨w22, by rw [← hw22]; exact boxF_run w17 f, fun w' => Fr (fun _ => False) w22 w', ⟨fun hpos => ?_, fun _ w28 d28 => .drew _ d28⟩, ?_⟩
    · have hpos := of_decide_eq_true hpos
      obtain ⟨k1, rfl⟩ : ∃ m, k = m + 1 := ⟨k - 1, by omega⟩
      have hx1 : ys[k1]? = some ys[k1] := List.getElem?_eq_getElem (by omega)
      generalize ys[k1] = g at hx1
      have e1 : IntKind.i64.wrap (((k1 + 1 : Nat) : Int) - 1) = ((k1 : Nat) : Int) := by rw [wrap_i64 (by omega) (by omega)]; omega
      rw [e1]
      obtain ⟨ad', had', hrd⟩ := ((ho17.keep hfb (by simp)).reads fun _ => rfl) k1 g hx1
      have hrd0 := hrd 0 (.string g.path) rfl
      have hz0 : ∀ q : Addr, q.add 0 = q := fun q => by cases q; rfl
      rw [hz0] at hrd0
      refine ⟨⟨by omega, by omega⟩, ad', had', g.path, by rw [Int.toNat_natCast]; exact hrd0, f.path, c0 _ (.refl _ _), fun w27 d27 => ⟨fun h => ?_, fun _ => .drew _ d27⟩⟩
      have hst := chk_strict hs hc0 hx1 hx
      have hbl : Op.bytesLess g.path.toList f.path.toList = true := by
        rw [ByteArray.toList_eq, ByteArray.toList_eq, Proofs.bytesLess_eq, decide_eq_true hst]
      rw [hbl] at h
      cases h
    rintro w29 hf29
    have hfw29 : Fr (fun _ => False) w5 w29 := (hf17.trans' hfb).trans' hf29
    refine ⟨fun b i w' => ∃ j : Nat, i = j ∧ j ≤ zs.length ∧ b = (zs.take j).any (fromB s12 f) ∧ Fr (fun _ => False) w22 w', fun b i _ => zs.length - i.toNat, ⟨0, rfl, Nat.zero_le _, rfl, hf29⟩, ?_⟩
    rintro b i w34 ⟨j, rfl, hj, rfl, hf34⟩
    have hfw34 : Fr (fun _ => False) w5 w34 := (hf17.trans' hfb).trans' hf34
    refine ⟨fun hlt2 => ?_, fun hge2 => ?_⟩
    · have hlt2 := of_decide_eq_true hlt2
      have hjl : j < zs.length := by omega
      have hxz : zs[j]? = some zs[j] := List.getElem?_eq_getElem hjl
      have htk : zs.take (j + 1) = zs.take j ++ [zs[j]] := (List.take_append_getElem hjl).symm
      generalize zs[j] = x at hxz htk
      obtain ⟨ad2, had2, hld2⟩ := (((ho2'.keep hfw34 (by simp)).reads fun _ => rfl).load elI hxz)
      refine ⟨⟨by omega, by omega⟩, ad2, had2, x.path, x.mode, x.data, by rw [Int.toNat_natCast]; exact hld2, fun w39 h39 => ?_⟩
      subst h39
      obtain ⟨w40, hw40⟩ : ∃ w40, w34.alloc (.cells (encI x).toArray T_modzip_Item) = w40 := ⟨_, rfl⟩
      have hfb40 : Fr (fun _ => False) w34 w40 := by rw [← hw40]; exact .alloc _ _ _
      have hbb40 : w40.heap[w34.heap.size]? = some (.cells (encI x).toArray T_modzip_Item (0, 0)) := by rw [← hw40]; exact alloc_new _ _
      have hf40 := hf34.trans' hfb40
      have e1 : IntKind.i64.wrap ((j : Int) + 1) = ((j + 1 : Nat) : Int) := by rw [wrap_i64 (by omega) (by omega)]; omega
      rw [e1]
      have hstep : ∀ b' : Bool, b' = ((zs.take j).any (fromB s12 f) || fromB s12 f x) → (∃ j' : Nat, ((j + 1 : Nat) : Int) = j' ∧ j' ≤ zs.length ∧ b' = (zs.take j').any (fromB s12 f) ∧ Fr (fun _ => False) w22 w40) ∧ zs.length - ((j + 1 : Nat) : Int).toNat < zs.length - ((j : Int)).toNat := fun b' hb' => by
        refine ⟨⟨j + 1, rfl, by omega, ?_, hf40⟩, by omega⟩
        rw [htk, List.any_append, hb']; simp
      have p0 : w40.cell? ⟨w34.heap.size, 0, none⟩ = some (.string x.path) := by rw [cell_blk hbb40]; rfl
      have p2 : w40.cell? ⟨w34.heap.size, 2, none⟩ = some (.string x.data) := by rw [cell_blk hbb40]; rfl
      refine ⟨w40, by rw [← hw40]; exact boxI_run w34 x, fun h => hstep _ (by rw [h]; rfl), fun h => ⟨x.data, p2, f.data, c1 _ hf40, fun hd => ⟨x.path, p0, f.path, c0 _ hf40, ?_, fun hpq => hstep _ ?_, fun hpq => ⟨f.path, c0 _ hf40, fun hL => ⟨x.path, p0, hstep _ ?_⟩, fun hL => hstep _ ?_⟩⟩, fun hd => hstep _ ?_⟩⟩
      · omega
      · rw [bs_eq] at hd hpq
        unfold fromB
        rw [hd, hpq]; simp
      · rw [bs_eq] at hd hpq hL
        rw [h, bs_eq]
        unfold fromB
        rw [hd, hpq]
        rw [show decide (f.path = sLic) = true from hL]
        rfl
      · rw [bs_eq] at hd hpq hL
        rw [h]
        unfold fromB
        rw [hd, hpq]
        rw [show decide (f.path = sLic) = false from hL]
        rfl
      · rw [bs_eq] at hd
        rw [h]
        unfold fromB
        rw [hd]; rfl
    · have hge2 := of_decide_eq_false hge2
      have hj' : j = zs.length := by omega
      rw [hj', List.take_length, hfrom f hfm]
      refine ⟨fun i w' => ∃ q : Nat, i = q ∧ q ≤ f.path.size ∧ Fr (fun _ => False) w22 w', fun i _ => f.path.size - i.toNat, ⟨0, rfl, Nat.zero_le _, hf34⟩, ?_⟩
      rintro i w50 ⟨q, rfl, hq, hf50⟩
      have e2 : IntKind.i64.wrap ((q : Int) + 1) = ((q + 1 : Nat) : Int) := by rw [wrap_i64 (by omega) (by omega)]; omega
      rw [e2]
      refine ⟨f.path, c0 _ hf50, fun hlt3 => ?_, fun hge3 => ⟨fun h => (by cases h), fun _ => ?_⟩⟩
      · have hlt3 := of_decide_eq_true hlt3
        refine ⟨f.path, c0 _ hf50, ⟨by omega, by omega⟩, fun hne => ⟨⟨q + 1, rfl, by omega, hf50⟩, by dsimp only; omega⟩, fun h47 => ?_⟩
        rw [byteAt_nat] at h47
        have h47 : byt f.path q = 47 := by
          have : ((byt f.path q : Nat) : Int) = 47 := by simpa using h47
          omega
        obtain ⟨v1, v2, v3⟩ := hfold f hfm q (by omega) h47
        have hexs : (f.path.extract 0 (q + 1)).size = q + 1 := by rw [ByteArray.size_extract]; omega
        have hq1 : q + 1 ≤ f.path.size := by omega
        refine ⟨f.path, c0 _ hf50, ⟨by omega, by omega⟩, ?_⟩
        rw [Int.toNat_natCast]
        generalize f.path.extract 0 (q + 1) = fo at *
        refine ⟨fun w' => w' = w50, ⟨fun h => ?_, fun h => ⟨fun h8 => ?_, fun h8 => rfl⟩⟩, ?_⟩
        · rw [bs_eq] at h
          exact absurd (of_decide_eq_true h) v1
        · have h8 := of_decide_eq_true h8
          have e8 : IntKind.i64.wrap ((fo.size : Int) - 8) = ((q + 1 - 8 : Nat) : Int) := by rw [wrap_i64 (by omega) (by omega)]; omega
          rw [e8, Int.toNat_natCast, hexs]
          refine ⟨⟨by omega, by omega⟩, fun h => ?_, fun _ => rfl⟩
          rw [bs_eq] at h
          exact absurd (of_decide_eq_true h) (v2 (by omega))
        rintro w55 hw55
        replace hw55 := hw55.symm
        subst hw55
        refine ⟨fun i w' => ∃ j : Nat, i = j ∧ j ≤ zs.length ∧ Fr (fun _ => False) w22 w', fun i _ => zs.length - i.toNat, ⟨0, rfl, Nat.zero_le _, hf50⟩, ?_⟩
        rintro i w59 ⟨j, rfl, hj, hf59⟩
        refine ⟨fun hlt4 => ?_, fun _ => ⟨⟨q + 1, rfl, by omega, hf59⟩, by dsimp only; omega⟩⟩
        have hlt4 := of_decide_eq_true hlt4
        have hjl : j < zs.length := by omega
        have hxz : zs[j]? = some zs[j] := List.getElem?_eq_getElem hjl
        generalize zs[j] = x at hxz
        have hxm := List.mem_of_getElem? hxz
        obtain ⟨ad2, had2, hld2⟩ := (((ho2'.keep ((hf17.trans' hfb).trans' hf59) (by simp)).reads fun _ => rfl).load elI hxz)
        refine ⟨⟨by omega, by omega⟩, ad2, had2, x.path, x.mode, x.data, by rw [Int.toNat_natCast]; exact hld2, fun w64 h64 => ?_⟩
        subst h64
        obtain ⟨w65, hw65⟩ : ∃ w65, w59.alloc (.cells (encI x).toArray T_modzip_Item) = w65 := ⟨_, rfl⟩
        have hfb65 : Fr (fun _ => False) w59 w65 := by rw [← hw65]; exact .alloc _ _ _
        have hbb65 : w65.heap[w59.heap.size]? = some (.cells (encI x).toArray T_modzip_Item (0, 0)) := by rw [← hw65]; exact alloc_new _ _
        have p0 : w65.cell? ⟨w59.heap.size, 0, none⟩ = some (.string x.path) := by rw [cell_blk hbb65]; rfl
        have p1 : w65.cell? ⟨w59.heap.size, 1, none⟩ = some (.int .i64 x.mode) := by rw [cell_blk hbb65]; rfl
        have e1 : IntKind.i64.wrap ((j : Int) + 1) = ((j + 1 : Nat) : Int) := by rw [wrap_i64 (by omega) (by omega)]; omega
        rw [e1]
        have hnext : (∃ j' : Nat, ((j + 1 : Nat) : Int) = j' ∧ j' ≤ zs.length ∧ Fr (fun _ => False) w22 w65) ∧ zs.length - ((j + 1 : Nat) : Int).toNat < zs.length - ((j : Int)).toNat := ⟨⟨j + 1, rfl, by omega, hf59.trans' hfb65⟩, by omega⟩
        refine ⟨w65, by rw [← hw65]; exact boxI_run w59 x, x.path, p0, by omega, ?_, fun hpe => ⟨x.mode, p1, fun hm => ?_, fun hm => ⟨x.mode, p1, fun hm2 => ?_, fun hm2 => hnext⟩⟩, fun hpe => hnext⟩
        · rw [ByteArray.size_append]
          show _ + 6 ≤ _
          omega
        · rw [bs_eq] at hpe
          have hm : x.mode = 33188 := by simpa using hm
          exact absurd (of_decide_eq_true hpe) (v3 x hxm (by unfold plainI; rw [decide_eq_true hm]; rfl))
        · rw [bs_eq] at hpe
          have hm2 : x.mode = 33261 := by simpa using hm2
          exact absurd (of_decide_eq_true hpe) (v3 x hxm (by unfold plainI; rw [decide_eq_true hm2, Bool.or_true]))
      · have e1 : IntKind.i64.wrap ((k : Int) + 1) = ((k + 1 : Nat) : Int) := by rw [wrap_i64 (by omega) (by omega)]; omega
        rw [e1]
        exact ⟨⟨k + 1, rfl, by omega, (hf17.trans' hfb).trans' hf50⟩, by dsimp only; omega⟩
  · have hge := of_decide_eq_false hge
    refine (awake24_spec (hml.keep (hf5'.trans' hf17))).mono ?_
    rintro e w70 ⟨rfl, hf70⟩
    refine ⟨true, rfl, fun _ => ?_, fun h => (by cases h)⟩
    have ho70 := ho5.keep (hf17.trans' hf70) (by simp)
    refine (short09_spec (ho70.reads fun _ => rfl) ho70.1 ho70.cap 40 (by decide)).mono ?_
    rintro e w73 ⟨l74, rfl, ho73, hf73⟩
    refine ⟨l74, rfl, ?_, ((hf5'.trans' hf17).trans' hf70).trans' hf73⟩
    have h74 := ho73.len
    unfold shortF at h74
    rw [List.length_map, List.length_take] at h74
    congr 1
    have : ((l74.len : Int) == if 40 < (l6.len : Int) then 40 else (l6.len : Int)) = true := by
      rw [beq_iff_eq]
      split <;> omega
    exact this
end Go.Proofs.YtfoeooddnmppnaaDoor

/- Slices of structs that came in, opened to cells. No condition: for all programs. -/
set_option linter.unusedVariables false
namespace Vc
open Go Go.ChangeShapes Go.WideShapes Go.Deep
section
variable {H : Type} {enc : TypeId × Value → H} {P : Program} {w : World} {base : Nat} {spare : Nat → Bool} {held : Bool}
/-- What the fields of an element say, its cells say. -/
def FieldsSay (enc : TypeId × Value → H) (P : Program) (w : World) (base : Nat) (spare : Nat → Bool) (held : Bool) (fs : Array Field) (Q : List Value → Prop) : Prop :=
  ∀ n (cs : List Value), cs.length = fs.size → (∀ (j : Nat) (f : Field) (v : Value), fs[j]? = some f → cs[j]? = some v → ∃ y, DataW.trod enc P w base spare held n f.type [v] = some y) → Q cs
theorem open_rows {t e : TypeId} {fs : Array Field} {fuel : Nat} {a : Option Addr} {len cap : Nat} {x : DataW H × List MemPlace} {Q : List Value → Prop} (ht : P.underlying t = some (.slice e)) (he : P.underlying e = some (.struct fs))
    (hone : oneCellFields P fs = true) (hC : P.cellsOf e = fs.size) (hQ : FieldsSay enc P w base spare held fs Q) (h : DataW.trod enc P w base spare held fuel t [.slice a len cap] = some x) : IsRows fs.size Q w a len := by
  intro i hi
  rcases open_slice ht h with ⟨h0, _⟩ | ⟨b, l, c, m, n, D, Pl, hcs, hb, hl, hm, hmm, hx, hi'⟩
  · simp only [List.cons.injEq, Value.slice.injEq] at h0; omega
  · simp only [List.cons.injEq, Value.slice.injEq, and_true] at hcs
    obtain ⟨rfl, rfl, rfl⟩ := hcs
    obtain ⟨cs, hc, htr⟩ := hi' i (by rw [hmm]; split <;> omega)
    obtain ⟨ys, n', _, _, hlen, hyl, hf⟩ := DataW.trod_struct he htr
    obtain ⟨_, hcl, hat⟩ := World.cells?_some hc
    rw [hC] at hcl hat
    refine ⟨b, cs, rfl, hcl, hQ n' cs hcl ?_, ?_⟩
    · intro j f v hj hv
      obtain ⟨ho, hk⟩ := hone_of hone j f hj
      have hjl : j < fs.size := (Array.getElem?_eq_some_iff.1 hj).1
      have h1 := hf j f hj
      have h2 : (cs.drop j).take 1 = [v] := by
        obtain ⟨hjl', hv'⟩ := List.getElem?_eq_some_iff.1 hv
        rw [List.drop_eq_getElem_cons hjl', hv']; rfl
      rw [ho, hk, h2, List.getElem?_eq_getElem (show j < ys.length by omega)] at h1
      exact ⟨_, h1⟩
    · intro j v hv
      have hjl := (List.getElem?_eq_some_iff.1 hv).1
      rw [← hv, ← hat j (by omega), add_add]
/-- As above, and what was read takes no more bytes than memory has. -/
def FieldsSayW (enc : TypeId × Value → H) (P : Program) (w : World) (base : Nat) (spare : Nat → Bool) (held : Bool) (fs : Array Field) (Q : List Value → Prop) : Prop :=
  ∀ n (cs : List Value), cs.length = fs.size → (∀ (j : Nat) (f : Field) (v : Value), fs[j]? = some f → cs[j]? = some v → ∃ y, DataW.trod enc P w base spare held n f.type [v] = some y ∧ (y.1.weights P f.type).all (· ≤ reachBytes) = true) → Q cs
theorem weightsAll_mem {e : TypeId} : ∀ {ds : List (DataW H)} {d : DataW H}, d ∈ ds → ∀ n ∈ d.weights P e, n ∈ DataW.weightsAll P e ds
  | d0 :: ds, d, h, n, hn => by
    simp only [DataW.weightsAll, List.mem_append]
    rcases List.mem_cons.1 h with rfl | h
    · exact .inl hn
    · exact .inr (weightsAll_mem h n hn)
theorem open_rowsW {t e : TypeId} {fs : Array Field} {fuel : Nat} {a : Option Addr} {len cap : Nat} {x : DataW H × List MemPlace} {Q : List Value → Prop} (ht : P.underlying t = some (.slice e)) (he : P.underlying e = some (.struct fs))
    (hone : oneCellFields P fs = true) (hC : P.cellsOf e = fs.size) (hsz : (x.1.weights P t).all (· ≤ reachBytes) = true) (hQ : FieldsSayW enc P w base spare held fs Q) (h : DataW.trod enc P w base spare held fuel t [.slice a len cap] = some x) : IsRows fs.size Q w a len ∧ len ≤ cap := by
  rcases open_slice ht h with ⟨h0, _⟩ | ⟨b, l, c, m, n, D, Pl, hcs, hb, hl, hm, hmm, hx, hi'⟩
  · simp only [List.cons.injEq, Value.slice.injEq, and_true] at h0
    exact ⟨fun i hi => by omega, by omega⟩
  · simp only [List.cons.injEq, Value.slice.injEq, and_true] at hcs
    obtain ⟨rfl, rfl, rfl⟩ := hcs
    refine ⟨fun i hi => ?_, hl⟩
    obtain ⟨cs, hc, htr⟩ := hi' i (by rw [hmm]; split <;> omega)
    have hwD : ((D i).weights P e).all (· ≤ reachBytes) = true := by
      rw [List.all_eq_true] at hsz ⊢
      intro q hq
      refine hsz q ?_
      rw [hx]
      simp only [DataW.weights, ht, List.mem_cons, List.mem_append]
      exact .inr (.inl (weightsAll_mem (List.mem_map.2 ⟨i, List.mem_range.2 hi, rfl⟩) q hq))
    obtain ⟨ys, n', _, hxe, hlen, hyl, hf⟩ := DataW.trod_struct he htr
    obtain ⟨_, hcl, hat⟩ := World.cells?_some hc
    rw [hC] at hcl hat
    refine ⟨b, cs, rfl, hcl, hQ n' cs hcl ?_, ?_⟩
    · intro j f v hj hv
      obtain ⟨ho, hk⟩ := hone_of hone j f hj
      have hjl : j < fs.size := (Array.getElem?_eq_some_iff.1 hj).1
      have h1 := hf j f hj
      have h2 : (cs.drop j).take 1 = [v] := by
        obtain ⟨hjl', hv'⟩ := List.getElem?_eq_some_iff.1 hv
        rw [List.drop_eq_getElem_cons hjl', hv']; rfl
      rw [ho, hk, h2, List.getElem?_eq_getElem (show j < ys.length by omega)] at h1
      refine ⟨_, h1, ?_⟩
      have hDe : D i = .agg (ys.map (·.1)) := by
        have := congrArg Prod.fst hxe
        simpa using this
      rw [hDe] at hwD
      simp only [DataW.weights, he] at hwD
      rw [List.all_eq_true] at hwD ⊢
      intro q hq
      refine hwD q (DataW.weights_mem_each (j := j) (t := f.type) (d := (ys[j]'(by omega)).1) ?_ ?_ q hq)
      · rw [List.getElem?_map, Array.getElem?_toList, hj]; rfl
      · rw [List.getElem?_map, List.getElem?_eq_getElem (show j < ys.length by omega)]; rfl
    · intro j v hv
      have hjl := (List.getElem?_eq_some_iff.1 hv).1
      rw [← hv, ← hat j (by omega), add_add]
/-- A slice of one-celled elements: what an element says, its cell says. -/
theorem open_cells {t e : TypeId} {fuel : Nat} {a : Option Addr} {len cap : Nat} {x : DataW H × List MemPlace} {Q : List Value → Prop} (ht : P.underlying t = some (.slice e)) (hC : P.cellsOf e = 1)
    (hQ : ∀ n v y, DataW.trod enc P w base spare held n e [v] = some y → Q [v]) (h : DataW.trod enc P w base spare held fuel t [.slice a len cap] = some x) : IsRows 1 Q w a len := by
  intro i hi
  rcases open_slice ht h with ⟨h0, _⟩ | ⟨b, l, c, m, n, D, Pl, hcs, hb, hl, hm, hmm, hx, hi'⟩
  · simp only [List.cons.injEq, Value.slice.injEq] at h0; omega
  · simp only [List.cons.injEq, Value.slice.injEq, and_true] at hcs
    obtain ⟨rfl, rfl, rfl⟩ := hcs
    obtain ⟨cs, hc, htr⟩ := hi' i (by rw [hmm]; split <;> omega)
    obtain ⟨_, hcl, hat⟩ := World.cells?_some hc
    rw [hC] at hcl hat
    obtain ⟨v, rfl⟩ : ∃ v, cs = [v] := List.length_eq_one_iff.1 hcl
    refine ⟨b, [v], rfl, rfl, hQ _ v _ htr, ?_⟩
    intro j u hu
    have hjl := (List.getElem?_eq_some_iff.1 hu).1
    rw [← hu, ← hat j hjl, add_add]
end
end Vc

/- The items that came in, as a list. No condition. -/
set_option linter.unusedVariables false
namespace Go.Proofs.YtfoeooddnmppnaaDoor
open Go Vc Go.Proofs Go.RowKit

theorem items_of {W : World} {a : Option Addr} {B : Nat} : ∀ (n : Nat), IsRows 3 (fun vs => ∃ x0 x1 x2, vs = [.string x0, .int .i64 x1, .string x2] ∧ x0.size ≤ B ∧ (Lit.int .i64 x1).wf = true ∧ x2.size ≤ B) W a n → ∃ xs : List ItE, xs.length = n ∧ ReadsK encI 3 W a xs ∧ (∀ x ∈ xs, x.path.size ≤ B)
  | 0, _ => ⟨[], rfl, .nil _ _, fun x hx => by simp at hx⟩
  | n + 1, h => by
    obtain ⟨xs, hE, hR, hB⟩ := items_of n fun i hi => h i (by omega)
    obtain ⟨ad, vs, had, hl, ⟨x0, x1, x2, rfl, h1, _, _⟩, hc⟩ := h n (by omega)
    refine ⟨xs ++ [⟨x0, x1, x2⟩], by rw [List.length_append, hE]; rfl, fun i x hx => ?_, fun x hx => ?_⟩
    · by_cases hi : i < xs.length
      · rw [List.getElem?_append_left hi] at hx
        exact hR i x hx
      · rw [List.getElem?_append_right (by omega)] at hx
        have hi0 : i - xs.length = 0 := by
          by_cases h : i - xs.length = 0
          · exact h
          · rw [List.getElem?_eq_none (by simp; omega)] at hx; cases hx
        rw [hi0] at hx
        simp only [List.getElem?_cons_zero, Option.some.injEq] at hx
        subst hx
        refine ⟨ad, had, fun j v hv => ?_⟩
        have := hc j v hv
        rw [add_add, show i = n by omega]
        exact this
    · rcases List.mem_append.1 hx with hx | hx
      · exact hB x hx
      · simp only [List.mem_cons, List.mem_nil_iff, or_false] at hx
        subst hx; exact h1
end Go.Proofs.YtfoeooddnmppnaaDoor

/- What the bound of the narrower form gives of the structs of a slice that came in. No condition. -/
set_option linter.unusedVariables false
namespace Go.Proofs.YtfoeooddnmppnaaDoor
open Go Vc Go.ChangeShapes Go.WideShapes Go.Deep
section
variable {H : Type}
theorem bulk_part {d : DataW H} {l : List (DataW H)} (h : d ∈ l) : Rows.uptoBulk d ≤ Rows.uptoBulkAll l := by
  induction l with
  | nil => cases h
  | cons x r ih =>
    simp only [Rows.uptoBulkAll]
    rcases List.mem_cons.1 h with rfl | e
    · omega
    · have := ih e; omega
theorem bulk_left (l r : List (DataW H)) : Rows.uptoBulkAll l ≤ Rows.uptoBulkAll (l ++ r) := by
  induction l with
  | nil => simp [Rows.uptoBulkAll]
  | cons x l ih => simp only [List.cons_append, Rows.uptoBulkAll]; omega
variable {enc : TypeId × Value → H} {P : Program} {w : World} {base : Nat} {spare : Nat → Bool} {held : Bool}
def FieldsSayU (enc : TypeId × Value → H) (P : Program) (w : World) (base : Nat) (spare : Nat → Bool) (held : Bool) (B : Nat) (fs : Array Field) (Q : List Value → Prop) : Prop :=
  ∀ n (cs : List Value), cs.length = fs.size → (∀ (j : Nat) (f : Field) (v : Value), fs[j]? = some f → cs[j]? = some v → ∃ y, DataW.trod enc P w base spare held n f.type [v] = some y ∧ Rows.uptoBulk y.1 ≤ B) → Q cs
theorem open_rowsU {B : Nat} {t e : TypeId} {fs : Array Field} {fuel : Nat} {a : Option Addr} {len cap : Nat} {x : DataW H × List MemPlace} {Q : List Value → Prop} (ht : P.underlying t = some (.slice e)) (he : P.underlying e = some (.struct fs))
    (hone : oneCellFields P fs = true) (hC : P.cellsOf e = fs.size) (hsz : Rows.uptoBulk x.1 ≤ B) (hQ : FieldsSayU enc P w base spare held B fs Q) (h : DataW.trod enc P w base spare held fuel t [.slice a len cap] = some x) : IsRows fs.size Q w a len ∧ len ≤ cap := by
  rcases open_slice ht h with ⟨h0, _⟩ | ⟨b, l, c, m, n, D, Pl, hcs, hb, hl, hm, hmm, hx, hi'⟩
  · simp only [List.cons.injEq, Value.slice.injEq, and_true] at h0
    exact ⟨fun i hi => by omega, by omega⟩
  · simp only [List.cons.injEq, Value.slice.injEq, and_true] at hcs
    obtain ⟨rfl, rfl, rfl⟩ := hcs
    refine ⟨fun i hi => ?_, hl⟩
    obtain ⟨cs, hc, htr⟩ := hi' i (by rw [hmm]; split <;> omega)
    have hwD : Rows.uptoBulk (D i) ≤ B := by
      refine Nat.le_trans ?_ hsz
      rw [hx]
      simp only [Rows.uptoBulk]
      have := bulk_part (List.mem_map.2 ⟨i, List.mem_range.2 hi, rfl⟩ : D i ∈ (List.range len).map D)
      omega
    obtain ⟨ys, n', _, hxe, hlen, hyl, hf⟩ := DataW.trod_struct he htr
    obtain ⟨_, hcl, hat⟩ := World.cells?_some hc
    rw [hC] at hcl hat
    refine ⟨b, cs, rfl, hcl, hQ n' cs hcl ?_, ?_⟩
    · intro j f v hj hv
      obtain ⟨ho, hk⟩ := hone_of hone j f hj
      have hjl : j < fs.size := (Array.getElem?_eq_some_iff.1 hj).1
      have h1 := hf j f hj
      have h2 : (cs.drop j).take 1 = [v] := by
        obtain ⟨hjl', hv'⟩ := List.getElem?_eq_some_iff.1 hv
        rw [List.drop_eq_getElem_cons hjl', hv']; rfl
      rw [ho, hk, h2, List.getElem?_eq_getElem (show j < ys.length by omega)] at h1
      refine ⟨_, h1, ?_⟩
      have hDe : D i = .agg (ys.map (·.1)) := by
        have := congrArg Prod.fst hxe
        simpa using this
      rw [hDe] at hwD
      simp only [Rows.uptoBulk] at hwD
      have := bulk_part (List.mem_map.2 ⟨ys[j]'(by omega), List.getElem_mem _, rfl⟩ : (ys[j]'(by omega)).1 ∈ ys.map (·.1))
      omega
    · intro j v hv
      have hjl := (List.getElem?_eq_some_iff.1 hv).1
      rw [← hv, ← hat j (by omega), Vc.add_add]
end
end Go.Proofs.YtfoeooddnmppnaaDoor

/- The statement ModzipNestedSaid of this seat: for every input the law returns true and its arguments read as they did. No condition. -/
namespace Go.Proofs.YtfoeooddnmppnaaDoor.modzipNested
open Go.ChangeShapes Go.WideShapes Go.ChangeAt Go.RowKit
open Go.ChangeMaps (open_string shut_string)
set_option linter.unusedVariables false

theorem own : ownKnob Tryd.prog.godebug = none := by kernel_rfl
theorem laidOut : laidOutB Tryd.prog = true := by kernel_rfl

set_option maxRecDepth 100000 in
theorem contract (H : Type) (enc : TypeId × Value → H) (W : World) (base : Nat) (args : Array Value) (ds gs : List (DataW H)) (before : List MemPlace)
    (hval0 : ∀ (j : Nat) t v, Tryd.f8.params[j]? = some t → args[j]? = some v → Value.okWide Tryd.prog W .any base t v)
    (hW : DataW.Whole enc Tryd.prog Tryd.f8.params.toList Rows.modzipNestedSpec.vars false W args.toList ds gs before) (hcond0 : Rows.uptoBulkAll (ds ++ gs) ≤ 1048576)
    (hsz : (DataW.weightsEach Tryd.prog (Tryd.f8.params.toList ++ (Rows.OpenSpec.upto Rows.modzipNestedSpec).bare.plain.varTypes Tryd.prog) (ds ++ gs)).all (· ≤ reachBytes) = true)
    (hL : laidMetH Tryd.prog Rows.modzipNestedUptoRow.laid W) (hS : W.ShapedOpen Tryd.prog) :
    Calls Tryd.prog 8 args W fun e W' => ∃ v, e = .returned v ∧ Rows.modzipNestedSpec.post enc Tryd.prog Tryd.f8 false true false false W args v W' := by
  have hcond := Nat.le_trans (bulk_left ds gs) hcond0
  have hval : ∀ (j : Nat) t v, Tryd.f8.params[j]? = some t → args[j]? = some v → Value.okWide Tryd.prog W .any base t v := hval0
  have hW' := hW
  obtain ⟨p, q, hA0, hV, rfl, hfz, hnd⟩ := hW
  have hA : DataW.TrodAll enc Tryd.prog W 0 (fun _ => true) true Tryd.f8.params.toList args.toList ds p := hA0
  rw [Tryd.params8] at hA hval
  obtain ⟨v0, vs0, d0, ds0, p0, q0, hargs, rfl, rfl, h0, r0⟩ := trodAll_cons hA
  obtain ⟨v1, vs1, d1, ds1, p1, q1, rfl, rfl, rfl, h1, r1⟩ := trodAll_cons r0
  obtain ⟨rfl, rfl, rfl⟩ := trodAll_nil r1
  obtain rfl : args = #[v0, v1] := by cases args; simp_all
  obtain ⟨rfl, rfl⟩ := trodVars_none hV
  obtain ⟨a0, len0, cap0, rfl⟩ := okWide_slice Tryd.underlying47 (hval 0 47 v0 rfl rfl)
  have k0 := h0
  have lt0 : ∀ x ∈ p0, x.block < W.heap.size := by obtain ⟨m, hm⟩ := k0; exact DataW.trod_lt m _ _ _ hm
  obtain ⟨w0, c0⟩ : Vc.IsRows 3 (fun vs => ∃ x0 x1 x2, vs = [.string x0, .int .i64 x1, .string x2] ∧ x0.size ≤ 1048576 ∧ (Lit.int .i64 x1).wf = true ∧ x2.size ≤ 1048576) W a0 len0 ∧ len0 ≤ cap0 := by
    obtain ⟨fuel, hf⟩ := h0
    refine open_rowsU (B := 1048576) Tryd.underlying47 Tryd.underlying51 (by kernel_rfl) (by kernel_rfl) (Nat.le_trans (bulk_part (by simp)) hcond) ?_ hf
    intro n cs hcs hall
    match cs, hcs with
    | [c0, c1, c2], _ =>
      obtain ⟨y0, g0, k0⟩ := hall 0 _ c0 rfl rfl
      obtain ⟨x0, e0, d0, f0⟩ := DataW.trod_string Tryd.underlying9 g0
      obtain rfl := (List.cons.inj e0).1
      have f0 : x0.size ≤ 1048576 := by
        have hk := k0
        rw [d0] at hk
        simp only [Rows.uptoBulk] at hk
        have e : x0.data.toList.length = x0.size := by simp
        have e2 : x0.toList.length = x0.size := by rw [Lib.toList_data]; exact e
        omega
      obtain ⟨y1, g1, k1⟩ := hall 1 _ c1 rfl rfl
      obtain ⟨x1, e1, d1, f1⟩ := DataW.trod_int Tryd.underlying3 g1
      obtain rfl := (List.cons.inj e1).1
      obtain ⟨y2, g2, k2⟩ := hall 2 _ c2 rfl rfl
      obtain ⟨x2, e2, d2, f2⟩ := DataW.trod_string Tryd.underlying9 g2
      obtain rfl := (List.cons.inj e2).1
      have f2 : x2.size ≤ 1048576 := by
        have hk := k2
        rw [d2] at hk
        simp only [Rows.uptoBulk] at hk
        have e : x2.data.toList.length = x2.size := by simp
        have e2 : x2.toList.length = x2.size := by rw [Lib.toList_data]; exact e
        omega
      exact ⟨x0, x1, x2, rfl, f0, f1, f2⟩
  obtain ⟨a1, rfl, rfl, rfl, w1⟩ := open_string Tryd.underlying9 (hval 1 9 v1 rfl rfl) h1
  have b1 : a1.size ≤ reachBytes := by have := sized_string hsz (j := 1) (t := 9) rfl rfl; simpa using this
  clear hA0 hval0
  refine ((items_of len0 w0).elim fun xs h => nested_walk h.2.1 h.1 h.2.2 a1 b1 (maxL_of hS)).mono fun e W' ⟨he, bel⟩ => ?_
  subst he
  exact ⟨_, rfl, _, _, _, [], _, [], hW', trodAll_mk1 (shut_bool Tryd.underlying4 _), (trodAll_cons_mk (Below.trod laidOut (by kernel_rfl) (of_decide_eq_true (by kernel_rfl)) k0 bel lt0) (trodAll_cons_mk (shut_string Tryd.underlying9 w1) trodAll_mk0)), rfl, bel.frame _, fun h => by cases h⟩

theorem reads (os : Os) {H : Type} (enc : TypeId × Value → H) : ∃ x : List (DataW H) × List (DataW H) × List MemPlace, DataW.whole enc Tryd.prog ((World.laidAll Tryd.prog os Rows.modzipNestedUptoRow.laid).forCall (fun _ _ => 0) ⟨#[], #[.slice none 0 0, .string ByteArray.empty], []⟩).memory Tryd.f8.params.toList Rows.modzipNestedSpec.vars false (#[.slice none 0 0, .string ByteArray.empty] : Array Value).toList 8 = some x ∧ Rows.uptoBulkAll (x.1 ++ x.2.1) ≤ 1048576 :=
  ⟨([.nil, .lit (.string [])], [], []), by kernel_rfl, of_decide_eq_true (by kernel_rfl)⟩
set_option maxRecDepth 100000 in
theorem lifted (os : Os) (started : os.Started) (H : Type) (enc : TypeId × Value → H) (F : Stop.Interp) :
    ReturnsInHanded {} Tryd.checked os 8 .any ((Rows.OpenSpec.upto Rows.modzipNestedSpec).preRow enc Tryd.prog Tryd.f8 Rows.modzipNestedUptoRow.domain false Rows.modzipNestedUptoRow.laid) (((Rows.OpenSpec.upto Rows.modzipNestedSpec).at F).post enc Tryd.prog Tryd.f8 false true false false) := by
  obtain ⟨x, hx, hb⟩ := reads os enc
  refine returnsInHanded_of_row (C := Tryd.checked) (s := Rows.OpenSpec.upto Rows.modzipNestedSpec) own started (by kernel_rfl) Tryd.func8
    (witness_row_at (enc := enc) (C := Tryd.checked) false (World.laidAll Tryd.prog os Rows.modzipNestedUptoRow.laid) #[.slice none 0 0, .string ByteArray.empty] (World.laidAll_os _ _ _) (by kernel_rfl) (by kernel_rfl) (by kernel_rfl)
      (OpenSpec.preRow_of_cond 8 hx (by rfl) (fun k hk => by cases hk; exact decide_eq_true hb) (by kernel_rfl) (by rw [MakeChecks.laidMetH_plain _ _ _ (by kernel_rfl)]; exact laidMet_laidAll _ (by kernel_rfl) (by kernel_rfl)))) ?_
  intro W base args ds gs before hval hW _ hk hsz hL hS _
  exact contract H enc W base args ds gs before hval hW (of_decide_eq_true (hk _ rfl)) hsz hL hS

theorem over : Rows.modzipNestedUptoRow.holds Tryd.pinned (Rows.OpenSpec.upto Rows.modzipNestedSpec) :=
  OpenClaim.holds_of_cond 8 Tryd.f8 rfl rfl rfl rfl rfl rfl rfl ⟨rfl, rfl, rfl, rfl, rfl⟩ rfl rfl rfl rfl rfl (by kernel_rfl) Tryd.func8 (by kernel_rfl)
    (of_decide_eq_true (by kernel_rfl)) (by unfold Func.isWrapper; first | (rw [if_pos (by decide +kernel)]; kernel_rfl) | (rw [if_neg (by decide +kernel)]; exact ⟨rfl, rfl⟩))
    (fun os started H enc _ F => by rw [OpenClaim.pre_eq_preRow]; exact lifted os started H enc F)

/-- The statement. -/
theorem proved : Rows.ModzipNestedUptoCardSaid :=
  Claim7.holds_tied_plain_at .later [] [.data, .pinned] true (true, "0eb27af101e4e04535c639a375fc4637eed6172aaaeb719e4b37c29ceb5b9f04") true over (fun _ h => by cases h) (by kernel_rfl) (fun _ h => by cases h) modzipNestedUpto_row_tie rfl ⟨rfl, rfl⟩ (by kernel_rfl) rfl
    (fun f fn hf hfn => by
      obtain rfl : f = 8 := Option.some.inj ((show Tryd.prog.funcNamed "cartulary/cartularylaw24.ModzipNested" = some 8 by kernel_rfl).symm.trans hf) |>.symm
      obtain rfl : fn = Tryd.f8 := (Option.some.inj (Tryd.func8.symm.trans hfn)).symm
      exact ⟨by kernel_rfl, fun j t ht => by
        rw [Tryd.params8] at ht
        have hm : t ∈ [47, 9] := by simpa using Array.mem_of_getElem? ht
        have hall : ([47, 9].all fun u => !Tryd.prog.wantsStandIn u) = true := by kernel_rfl
        exact (show Tryd.prog.wantsStandIn t = false by simpa using List.all_eq_true.1 hall t hm)⟩)
    (by kernel_rfl)
#print axioms proved
end Go.Proofs.YtfoeooddnmppnaaDoor.modzipNested

/- Texts of this seat in one: made by a program of ours. -/
import Derived.Test.YtfoeooddnmppnaaDoorModzipTurnsUptoQ0
import Derived.Test.YtfoeooddnmppnaaDoorModzipTurnsUptoQ1
import Derived.Test.YtfoeooddnmppnaaDoorModzipTurnsUptoQ2
import Derived.Test.YtfoeooddnmppnaaDoorModzipTurnsUptoQ3
import Derived.Test.YtfoeooddnmppnaaDoorModzipTurnsUptoQ4
import Derived.Test.YtfoeooddnmppnaaDoorProg
import Derived.Deep.Slices
import Derived.Deep.Fields
import Derived.ChangeSame
import Derived.SizedLaws
import Derived.Test.YtfoeooddnmppnaaDoorRows
import Derived.Handed
import Derived.HandedShaped
import Derived.Test.YtfoeooddnmppnaaDoorCards
import Derived.Test.YtfoeooddnmppnaaDoorTie
import Derived.WalkKit
import Derived.ProofKit
import Derived.OpenShut
import Derived.ShutString
import Derived.ChangeOld
import Derived.Below
import Derived.SevenTiedAt
import Derived.LaidMore
import Derived.Lay
import Derived.LaidOnce
import Derived.Deep.DeepHandedRow
import Derived.Lib.Strings
/- Formulas of 6 Go functions of this seat (written by a program of the author's, vcgen.py), and that each is enough for the call. No condition. -/
set_option linter.unusedVariables false
namespace Go.Proofs.YtfoeooddnmppnaaDoor
open Go Vc Go.Proofs
set_option maxRecDepth 100000
/-- cartularylaw24.Short -/
def vc_cartularylaw24_Short (x0a : Option Addr) (x0n : Nat) (x0c : Nat) (x1 : Int) (w : World) (R : Value → World → Prop) : Prop :=
  ∀ w1 : World,
  (w1 = World.alloc w (Obj.cells (Array.mk []) 51) →
    ∃ I2 : Sl → Int → World → Prop, ∃ I3 : Sl → Int → World → Nat, (I2 (Sl.mk (some (Addr.mk (Array.size (World.heap w)) 0 none)) 0 0) 0 w1 ∧
     ∀ l4 : Sl,
     ∀ n5 : Int,
     ∀ w6 : World,
     (I2 l4 n5 w6 →
       (((decide (n5 < (↑x0n : Int)) = true →
          (((decide (n5 < x1) = true →
             ((0 ≤ n5 ∧
               n5 < (↑x0n : Int)) ∧
              ∃ a7 : Addr, (x0a = some a7 ∧
               ∃ s8 : ByteArray, ∃ n9 : Int, ∃ s10 : ByteArray, (Sem.run Tryd.prog (loadVar 51 (Addr.add a7 (Int.toNat n5 * 3))) w6 = Result.ok (Value.agg (Array.mk [Value.string s8, Value.int IntKind.i64 n9, Value.string s10])) w6 ∧
                ∀ w11 : World,
                (w11 = World.alloc w6 (Obj.cells (Array.mk [Value.string (ByteArray.mk (Array.mk [])), Value.int IntKind.i64 0, Value.string (ByteArray.mk (Array.mk []))]) 51) →
                  ∃ w12 : World, (Sem.run Tryd.prog (storeVar 51 (Addr.mk (Array.size (World.heap w6)) 0 none) (Value.agg (Array.mk [Value.string s8, Value.int IntKind.i64 n9, Value.string s10]))) w11 = Result.ok PUnit.unit w12 ∧
                   ∃ s13 : ByteArray, (World.cell? w12 (Addr.mk (Array.size (World.heap w6)) 2 none) = some (Value.string s13) ∧
                    Calls Tryd.prog (20 : Nat) (Array.mk [Value.string s13, Value.int IntKind.i64 400]) (w12) (fun e14 w15 =>
                      ∃ s16 : ByteArray, (e14 = Ending.returned (Value.string s16) ∧
                       (Wr w15 (Addr.mk (Array.size (World.heap w6)) 2 none) ∧
                        ∀ w17 : World,
                        (w17 = World.setCell w15 (Addr.mk (Array.size (World.heap w6)) 2 none) (Value.string s16) →
                          ∃ s18 : ByteArray, ∃ n19 : Int, ∃ s20 : ByteArray, (Sem.run Tryd.prog (loadVar 51 (Addr.mk (Array.size (World.heap w6)) 0 none)) w17 = Result.ok (Value.agg (Array.mk [Value.string s18, Value.int IntKind.i64 n19, Value.string s20])) w17 ∧
                           ∀ w21 : World,
                           (w21 = World.alloc w17 (Obj.cells (Array.mk [Value.string s18, Value.int IntKind.i64 n19, Value.string s20]) 51) →
                             ∃ w22 : World, ∃ l23 : Sl, (Sem.run Tryd.prog (Builtin.append_ (Array.mk [47, 47]) 47 (Array.mk [Value.slice l4.1 l4.2 l4.3, Value.slice (some (Addr.mk (Array.size (World.heap w17)) 0 none)) 1 1])) w21 = Result.ok (Value.slice l23.1 l23.2 l23.3) w22 ∧
                              (I2 (Sl.mk l23.1 l23.2 l23.3) (IntKind.wrap IntKind.i64 (n5 + 1)) w22 ∧
                               I3 (Sl.mk l23.1 l23.2 l23.3) (IntKind.wrap IntKind.i64 (n5 + 1)) w22 < I3 l4 n5 w6)))))))))))))))) ∧
           (decide (n5 < x1) = false →
             R (Value.slice l4.1 l4.2 l4.3) w6)))) ∧
        (decide (n5 < (↑x0n : Int)) = false →
          R (Value.slice l4.1 l4.2 l4.3) w6)))))
theorem vc_cartularylaw24_Short_ok {x0a : Option Addr} {x0n : Nat} {x0c : Nat} {x1 : Int} {w : World} {R : Value → World → Prop} {R' : Ending → World → Prop} (h : vc_cartularylaw24_Short x0a x0n x0c x1 w R) (hR : ∀ v w', R v w' → R' (.returned v) w') :
    Calls Tryd.prog 26 #[.slice x0a x0n x0c, .int .i64 x1] w R' :=
  calls_of_body (vs := [(.slice x0a x0n x0c, false), (.int .i64 x1, false)]) (ty := ty) (ann := ⟨[], [(3, [(5, .slice), (6, .int .i64)])], [], []⟩) (c := Tryd.f26.body.getD .skip) (by kernel_rfl) Tryd.func26 (by kernel_rfl) (by kernel_rfl) (Eq.mp (by kernel_rfl) h) hR
/-- cartularylaw24.awake -/
def vc_cartularylaw24_awake (w : World) (R : Value → World → Prop) : Prop :=
  ∀ w1 : World,
  (w1 = World.alloc w (Obj.cells (Array.mk [Value.string (ByteArray.mk (Array.mk [97, 46, 103, 111])), Value.int IntKind.i64 33188, Value.string (ByteArray.mk (Array.mk [120])), Value.string (ByteArray.mk (Array.mk [115, 117, 98, 47, 103, 111, 46, 109, 111, 100])), Value.int IntKind.i64 33188, Value.string (ByteArray.mk (Array.mk [])), Value.string (ByteArray.mk (Array.mk [76, 73, 67, 69, 78, 83, 69])), Value.int IntKind.i64 33261, Value.string (ByteArray.mk (Array.mk []))]) 51) →
    Calls Tryd.prog (27 : Nat) (Array.mk [Value.slice (some (Addr.mk (Array.size (World.heap w)) 0 none)) 3 3, Value.string (ByteArray.mk (Array.mk [115, 117, 98]))]) (w1) (fun e2 w3 =>
      ∃ l4 : Sl, ∃ n5 : Int, (e2 = Ending.returned (Value.tuple (Array.mk [Value.slice l4.1 l4.2 l4.3, Value.int IntKind.i64 n5])) ∧
       ((((n5 == 0) = true →
          (((((↑l4.2 : Int) == 2) = true →
             (((0 : Int) ≤ (0 : Int) ∧
               0 < (↑l4.2 : Int)) ∧
              ∃ a6 : Addr, (l4.1 = some a6 ∧
               ∃ s7 : ByteArray, (World.cell? w3 (Addr.add a6 (Int.toNat 0 * 2)) = some (Value.string s7) ∧
                ((((ByteArray.toList s7 == ByteArray.toList (ByteArray.mk (Array.mk [76, 73, 67, 69, 78, 83, 69]))) = true →
                   (((0 : Int) ≤ (1 : Int) ∧
                     1 < (↑l4.2 : Int)) ∧
                    ∃ a8 : Addr, (l4.1 = some a8 ∧
                     ∃ s9 : ByteArray, (World.cell? w3 (Addr.add a8 (Int.toNat 1 * 2)) = some (Value.string s9) ∧
                      ((((ByteArray.toList s9 == ByteArray.toList (ByteArray.mk (Array.mk [103, 111, 46, 109, 111, 100]))) = true →
                         Calls Tryd.prog (23 : Nat) (Array.mk [Value.string (ByteArray.mk (Array.mk [(109 : UInt8)])), Value.string (ByteArray.mk (Array.mk [(118 : UInt8)])), Value.slice none (0 : Nat) (0 : Nat)]) (w3) (fun e10 w11 =>
                           ∃ s12 : ByteArray, (e10 = Ending.returned (Value.string s12) ∧
                            R (Value.bool (ByteArray.toList s12 == ByteArray.toList (ByteArray.mk (Array.mk [104, 49, 58, 52, 55, 68, 69, 81, 112, 106, 56, 72, 66, 83, 97, 43, 47, 84, 73, 109, 87, 43, 53, 74, 67, 101, 117, 81, 101, 82, 107, 109, 53, 78, 77, 112, 74, 87, 90, 71, 51, 104, 83, 117, 70, 85, 61])))) w11)))) ∧
                       ((ByteArray.toList s9 == ByteArray.toList (ByteArray.mk (Array.mk [103, 111, 46, 109, 111, 100]))) = false →
                         R (Value.bool false) w3))))))) ∧
                 ((ByteArray.toList s7 == ByteArray.toList (ByteArray.mk (Array.mk [76, 73, 67, 69, 78, 83, 69]))) = false →
                   R (Value.bool false) w3))))))) ∧
           (((↑l4.2 : Int) == 2) = false →
             R (Value.bool false) w3)))) ∧
        ((n5 == 0) = false →
          R (Value.bool false) w3)))))
theorem vc_cartularylaw24_awake_ok {w : World} {R : Value → World → Prop} {R' : Ending → World → Prop} (h : vc_cartularylaw24_awake w R) (hR : ∀ v w', R v w' → R' (.returned v) w') :
    Calls Tryd.prog 22 #[] w R' :=
  calls_of_body (vs := []) (ty := ty) (ann := ⟨[], [], [], []⟩) (c := Tryd.f22.body.getD .skip) (by kernel_rfl) Tryd.func22 (by kernel_rfl) (by kernel_rfl) (Eq.mp (by kernel_rfl) h) hR
/-- cartularylaw24.ModzipHashes -/
def vc_cartularylaw24_ModzipHashes (x0 : ByteArray) (x1 : ByteArray) (x2a : Option Addr) (x2n : Nat) (x2c : Nat) (w : World) (R : Value → World → Prop) : Prop :=
  Calls Tryd.prog (20 : Nat) (Array.mk [Value.string x0, Value.int IntKind.i64 100]) (w) (fun e1 w2 =>
    ∃ s3 : ByteArray, (e1 = Ending.returned (Value.string s3) ∧
     Calls Tryd.prog (20 : Nat) (Array.mk [Value.string x1, Value.int IntKind.i64 100]) (w2) (fun e4 w5 =>
       ∃ s6 : ByteArray, (e4 = Ending.returned (Value.string s6) ∧
        Calls Tryd.prog (12 : Nat) (Array.mk [Value.slice x2a x2n x2c, Value.int IntKind.i64 6]) (w5) (fun e7 w8 =>
          ∃ l9 : Sl, (e7 = Ending.returned (Value.slice l9.1 l9.2 l9.3) ∧
           ∃ I10 : Int → World → Prop, ∃ I11 : Int → World → Nat, (I10 0 w8 ∧
            ∀ n12 : Int,
            ∀ w13 : World,
            (I10 n12 w13 →
              (((decide (n12 < (↑l9.2 : Int)) = true →
                 ((0 ≤ n12 ∧
                   n12 < (↑l9.2 : Int)) ∧
                  ∃ a14 : Addr, (l9.1 = some a14 ∧
                   ∃ s15 : ByteArray, (World.cell? w13 (Addr.add (Addr.add a14 (Int.toNat n12 * 2)) 1) = some (Value.string s15) ∧
                    Calls Tryd.prog (20 : Nat) (Array.mk [Value.string s15, Value.int IntKind.i64 100]) (w13) (fun e16 w17 =>
                      ∃ s18 : ByteArray, (e16 = Ending.returned (Value.string s18) ∧
                       ((0 ≤ n12 ∧
                         n12 < (↑l9.2 : Int)) ∧
                        ∃ a19 : Addr, (l9.1 = some a19 ∧
                         (Wr w17 (Addr.add (Addr.add a19 (Int.toNat n12 * 2)) 1) ∧
                          ∀ w20 : World,
                          (w20 = World.setCell w17 (Addr.add (Addr.add a19 (Int.toNat n12 * 2)) 1) (Value.string s18) →
                            ((0 ≤ n12 ∧
                              n12 < (↑l9.2 : Int)) ∧
                             ∃ a21 : Addr, (l9.1 = some a21 ∧
                              ∃ s22 : ByteArray, (World.cell? w20 (Addr.add a21 (Int.toNat n12 * 2)) = some (Value.string s22) ∧
                               Calls Tryd.prog (20 : Nat) (Array.mk [Value.string s22, Value.int IntKind.i64 100]) (w20) (fun e23 w24 =>
                                 ∃ s25 : ByteArray, (e23 = Ending.returned (Value.string s25) ∧
                                  ((0 ≤ n12 ∧
                                    n12 < (↑l9.2 : Int)) ∧
                                   ∃ a26 : Addr, (l9.1 = some a26 ∧
                                    (Wr w24 (Addr.add a26 (Int.toNat n12 * 2)) ∧
                                     ∀ w27 : World,
                                     (w27 = World.setCell w24 (Addr.add a26 (Int.toNat n12 * 2)) (Value.string s25) →
                                       (I10 (IntKind.wrap IntKind.i64 (n12 + 1)) w27 ∧
                                        I11 (IntKind.wrap IntKind.i64 (n12 + 1)) w27 < I11 n12 w13))))))))))))))))))))) ∧
               (decide (n12 < (↑l9.2 : Int)) = false →
                 Calls Tryd.prog (22 : Nat) (Array.mk []) (w13) (fun e28 w29 =>
                   ∃ b30 : Bool, (e28 = Ending.returned (Value.bool b30) ∧
                    (((b30 = true →
                       Calls Tryd.prog (23 : Nat) (Array.mk [Value.string s3, Value.string s6, Value.slice l9.1 l9.2 l9.3]) (w29) (fun e31 w32 =>
                         ∃ s33 : ByteArray, (e31 = Ending.returned (Value.string s33) ∧
                          Calls Tryd.prog (25 : Nat) (Array.mk []) (w32) (fun e34 w35 =>
                            ∃ l36 : Sl, (e34 = Ending.returned (Value.slice l36.1 l36.2 l36.3) ∧
                             Calls Tryd.prog (24 : Nat) (Array.mk [Value.string s3, Value.string s6, Value.slice l9.1 l9.2 l9.3, Value.slice l36.1 l36.2 l36.3]) (w35) (fun e37 w38 =>
                               ∃ s39 : ByteArray, (e37 = Ending.returned (Value.string s39) ∧
                                R (Value.bool (ByteArray.toList s33 == ByteArray.toList s39)) w38)))))))) ∧
                     (b30 = false →
                       R (Value.bool false) w29))))))))))))))
theorem vc_cartularylaw24_ModzipHashes_ok {x0 : ByteArray} {x1 : ByteArray} {x2a : Option Addr} {x2n : Nat} {x2c : Nat} {w : World} {R : Value → World → Prop} {R' : Ending → World → Prop} (h : vc_cartularylaw24_ModzipHashes x0 x1 x2a x2n x2c w R) (hR : ∀ v w', R v w' → R' (.returned v) w') :
    Calls Tryd.prog 7 #[.string x0, .string x1, .slice x2a x2n x2c] w R' :=
  calls_of_body (vs := [(.string x0, false), (.string x1, false), (.slice x2a x2n x2c, false)]) (ty := ty) (ann := ⟨[], [(5, [(17, .int .i64)])], [], []⟩) (c := Tryd.f7.body.getD .skip) (by kernel_rfl) Tryd.func7 (by kernel_rfl) (by kernel_rfl) (Eq.mp (by kernel_rfl) h) hR
/-- cartularylaw24.ModzipNested -/
def vc_cartularylaw24_ModzipNested (x0a : Option Addr) (x0n : Nat) (x0c : Nat) (x1 : ByteArray) (w : World) (R : Value → World → Prop) : Prop :=
  Calls Tryd.prog (26 : Nat) (Array.mk [Value.slice x0a x0n x0c, Value.int IntKind.i64 40]) (w) (fun e1 w2 =>
    ∃ l3 : Sl, (e1 = Ending.returned (Value.slice l3.1 l3.2 l3.3) ∧
     Calls Tryd.prog (27 : Nat) (Array.mk [Value.slice l3.1 l3.2 l3.3, Value.string x1]) (w2) (fun e4 w5 =>
       ∃ l6 : Sl, ∃ n7 : Int, (e4 = Ending.returned (Value.tuple (Array.mk [Value.slice l6.1 l6.2 l6.3, Value.int IntKind.i64 n7])) ∧
        ((((n7 != 0) = true →
           Calls Tryd.prog (22 : Nat) (Array.mk []) (w5) (fun e8 w9 =>
             ∃ b10 : Bool, (e8 = Ending.returned (Value.bool b10) ∧
              R (Value.bool b10) w9)))) ∧
         ((n7 != 0) = false →
           ∃ I11 : ByteArray → World → Prop, (((((!ByteArray.toList x1 == ByteArray.toList (ByteArray.mk (Array.mk []))) = true →
               (ByteArray.size x1 + ByteArray.size (ByteArray.mk (Array.mk [47])) ≤ 9223372036854775807 ∧
                I11 (x1 ++ ByteArray.mk (Array.mk [47])) w5))) ∧
             ((!ByteArray.toList x1 == ByteArray.toList (ByteArray.mk (Array.mk []))) = false →
               I11 (ByteArray.mk (Array.mk [])) w5)) ∧
            ∀ s12 : ByteArray,
            ∀ w13 : World,
            (I11 s12 w13 →
              ∃ I14 : Int → World → Prop, ∃ I15 : Int → World → Nat, (I14 0 w13 ∧
               ∀ n16 : Int,
               ∀ w17 : World,
               (I14 n16 w17 →
                 (((decide (n16 < (↑l6.2 : Int)) = true →
                    ((0 ≤ n16 ∧
                      n16 < (↑l6.2 : Int)) ∧
                     ∃ a18 : Addr, (l6.1 = some a18 ∧
                      ∃ s19 : ByteArray, ∃ s20 : ByteArray, (Sem.run Tryd.prog (loadVar 37 (Addr.add a18 (Int.toNat n16 * 2))) w17 = Result.ok (Value.agg (Array.mk [Value.string s19, Value.string s20])) w17 ∧
                       ∀ w21 : World,
                       (w21 = World.alloc w17 (Obj.cells (Array.mk [Value.string (ByteArray.mk (Array.mk [])), Value.string (ByteArray.mk (Array.mk []))]) 37) →
                         ∃ w22 : World, (Sem.run Tryd.prog (storeVar 37 (Addr.mk (Array.size (World.heap w17)) 0 none) (Value.agg (Array.mk [Value.string s19, Value.string s20]))) w21 = Result.ok PUnit.unit w22 ∧
                          ∃ I23 : World → Prop, ((((decide (n16 > 0) = true →
                              ((0 ≤ IntKind.wrap IntKind.i64 (n16 - 1) ∧
                                IntKind.wrap IntKind.i64 (n16 - 1) < (↑l6.2 : Int)) ∧
                               ∃ a24 : Addr, (l6.1 = some a24 ∧
                                ∃ s25 : ByteArray, (World.cell? w22 (Addr.add a24 (Int.toNat (IntKind.wrap IntKind.i64 (n16 - 1)) * 2)) = some (Value.string s25) ∧
                                 ∃ s26 : ByteArray, (World.cell? w22 (Addr.mk (Array.size (World.heap w17)) 0 none) = some (Value.string s26) ∧
                                  ∀ w27 : World,
                                  (Drew w22 w27 →
                                    ((((!Op.bytesLess (ByteArray.toList s25) (ByteArray.toList s26)) = true →
                                       R (Value.bool false) w27)) ∧
                                     ((!Op.bytesLess (ByteArray.toList s25) (ByteArray.toList s26)) = false →
                                       I23 w27))))))))) ∧
                            (decide (n16 > 0) = false →
                              ∀ w28 : World,
                              (Drew w22 w28 →
                                I23 w28))) ∧
                           ∀ w29 : World,
                           (I23 w29 →
                             ∃ I30 : Bool → Int → World → Prop, ∃ I31 : Bool → Int → World → Nat, (I30 false 0 w29 ∧
                              ∀ b32 : Bool,
                              ∀ n33 : Int,
                              ∀ w34 : World,
                              (I30 b32 n33 w34 →
                                (((decide (n33 < (↑l3.2 : Int)) = true →
                                   ((0 ≤ n33 ∧
                                     n33 < (↑l3.2 : Int)) ∧
                                    ∃ a35 : Addr, (l3.1 = some a35 ∧
                                     ∃ s36 : ByteArray, ∃ n37 : Int, ∃ s38 : ByteArray, (Sem.run Tryd.prog (loadVar 51 (Addr.add a35 (Int.toNat n33 * 3))) w34 = Result.ok (Value.agg (Array.mk [Value.string s36, Value.int IntKind.i64 n37, Value.string s38])) w34 ∧
                                      ∀ w39 : World,
                                      (w39 = World.alloc w34 (Obj.cells (Array.mk [Value.string (ByteArray.mk (Array.mk [])), Value.int IntKind.i64 0, Value.string (ByteArray.mk (Array.mk []))]) 51) →
                                        ∃ w40 : World, (Sem.run Tryd.prog (storeVar 51 (Addr.mk (Array.size (World.heap w34)) 0 none) (Value.agg (Array.mk [Value.string s36, Value.int IntKind.i64 n37, Value.string s38]))) w39 = Result.ok PUnit.unit w40 ∧
                                         (((b32 = true →
                                            (I30 true (IntKind.wrap IntKind.i64 (n33 + 1)) w40 ∧
                                             I31 true (IntKind.wrap IntKind.i64 (n33 + 1)) w40 < I31 b32 n33 w34))) ∧
                                          (b32 = false →
                                            ∃ s41 : ByteArray, (World.cell? w40 (Addr.mk (Array.size (World.heap w34)) 2 none) = some (Value.string s41) ∧
                                             ∃ s42 : ByteArray, (World.cell? w40 (Addr.mk (Array.size (World.heap w17)) 1 none) = some (Value.string s42) ∧
                                              ((((ByteArray.toList s41 == ByteArray.toList s42) = true →
                                                 ∃ s43 : ByteArray, (World.cell? w40 (Addr.mk (Array.size (World.heap w34)) 0 none) = some (Value.string s43) ∧
                                                  ∃ s44 : ByteArray, (World.cell? w40 (Addr.mk (Array.size (World.heap w17)) 0 none) = some (Value.string s44) ∧
                                                   (ByteArray.size s12 + ByteArray.size s44 ≤ 9223372036854775807 ∧
                                                    ((((ByteArray.toList s43 == ByteArray.toList (s12 ++ s44)) = true →
                                                       (I30 true (IntKind.wrap IntKind.i64 (n33 + 1)) w40 ∧
                                                        I31 true (IntKind.wrap IntKind.i64 (n33 + 1)) w40 < I31 b32 n33 w34))) ∧
                                                     ((ByteArray.toList s43 == ByteArray.toList (s12 ++ s44)) = false →
                                                       ∃ s45 : ByteArray, (World.cell? w40 (Addr.mk (Array.size (World.heap w17)) 0 none) = some (Value.string s45) ∧
                                                        ((((ByteArray.toList s45 == ByteArray.toList (ByteArray.mk (Array.mk [76, 73, 67, 69, 78, 83, 69]))) = true →
                                                           ∃ s46 : ByteArray, (World.cell? w40 (Addr.mk (Array.size (World.heap w34)) 0 none) = some (Value.string s46) ∧
                                                            (I30 (ByteArray.toList s46 == ByteArray.toList (ByteArray.mk (Array.mk [76, 73, 67, 69, 78, 83, 69]))) (IntKind.wrap IntKind.i64 (n33 + 1)) w40 ∧
                                                             I31 (ByteArray.toList s46 == ByteArray.toList (ByteArray.mk (Array.mk [76, 73, 67, 69, 78, 83, 69]))) (IntKind.wrap IntKind.i64 (n33 + 1)) w40 < I31 b32 n33 w34)))) ∧
                                                         ((ByteArray.toList s45 == ByteArray.toList (ByteArray.mk (Array.mk [76, 73, 67, 69, 78, 83, 69]))) = false →
                                                           (I30 false (IntKind.wrap IntKind.i64 (n33 + 1)) w40 ∧
                                                            I31 false (IntKind.wrap IntKind.i64 (n33 + 1)) w40 < I31 b32 n33 w34))))))))))) ∧
                                               ((ByteArray.toList s41 == ByteArray.toList s42) = false →
                                                 (I30 false (IntKind.wrap IntKind.i64 (n33 + 1)) w40 ∧
                                                  I31 false (IntKind.wrap IntKind.i64 (n33 + 1)) w40 < I31 b32 n33 w34)))))))))))))) ∧
                                 (decide (n33 < (↑l3.2 : Int)) = false →
                                   ∃ I47 : Int → World → Prop, ∃ I48 : Int → World → Nat, (I47 0 w34 ∧
                                    ∀ n49 : Int,
                                    ∀ w50 : World,
                                    (I47 n49 w50 →
                                      ∃ s51 : ByteArray, (World.cell? w50 (Addr.mk (Array.size (World.heap w17)) 0 none) = some (Value.string s51) ∧
                                       (((decide (n49 < (↑(ByteArray.size s51) : Int)) = true →
                                          ∃ s52 : ByteArray, (World.cell? w50 (Addr.mk (Array.size (World.heap w17)) 0 none) = some (Value.string s52) ∧
                                           ((0 ≤ n49 ∧
                                             n49 < (↑(ByteArray.size s52) : Int)) ∧
                                            ((((byteAt s52 n49 != 47) = true →
                                               (I47 (IntKind.wrap IntKind.i64 (n49 + 1)) w50 ∧
                                                I48 (IntKind.wrap IntKind.i64 (n49 + 1)) w50 < I48 n49 w50))) ∧
                                             ((byteAt s52 n49 != 47) = false →
                                               ∃ s53 : ByteArray, (World.cell? w50 (Addr.mk (Array.size (World.heap w17)) 0 none) = some (Value.string s53) ∧
                                                ((0 ≤ IntKind.wrap IntKind.i64 (n49 + 1) ∧
                                                  IntKind.wrap IntKind.i64 (n49 + 1) ≤ (↑(ByteArray.size s53) : Int)) ∧
                                                 ∃ I54 : World → Prop, (((((ByteArray.toList (ByteArray.extract s53 0 (Int.toNat (IntKind.wrap IntKind.i64 (n49 + 1)))) == ByteArray.toList (ByteArray.mk (Array.mk [118, 101, 110, 100, 111, 114, 47]))) = true →
                                                     R (Value.bool false) w50)) ∧
                                                   ((ByteArray.toList (ByteArray.extract s53 0 (Int.toNat (IntKind.wrap IntKind.i64 (n49 + 1)))) == ByteArray.toList (ByteArray.mk (Array.mk [118, 101, 110, 100, 111, 114, 47]))) = false →
                                                     (((decide ((↑(ByteArray.size (ByteArray.extract s53 0 (Int.toNat (IntKind.wrap IntKind.i64 (n49 + 1))))) : Int) > 8) = true →
                                                        ((0 ≤ IntKind.wrap IntKind.i64 ((↑(ByteArray.size (ByteArray.extract s53 0 (Int.toNat (IntKind.wrap IntKind.i64 (n49 + 1))))) : Int) - 8) ∧
                                                          IntKind.wrap IntKind.i64 ((↑(ByteArray.size (ByteArray.extract s53 0 (Int.toNat (IntKind.wrap IntKind.i64 (n49 + 1))))) : Int) - 8) ≤ (↑(ByteArray.size (ByteArray.extract s53 0 (Int.toNat (IntKind.wrap IntKind.i64 (n49 + 1))))) : Int)) ∧
                                                         ((((ByteArray.toList (ByteArray.extract (ByteArray.extract s53 0 (Int.toNat (IntKind.wrap IntKind.i64 (n49 + 1)))) (Int.toNat (IntKind.wrap IntKind.i64 ((↑(ByteArray.size (ByteArray.extract s53 0 (Int.toNat (IntKind.wrap IntKind.i64 (n49 + 1))))) : Int) - 8))) (ByteArray.size (ByteArray.extract s53 0 (Int.toNat (IntKind.wrap IntKind.i64 (n49 + 1)))))) == ByteArray.toList (ByteArray.mk (Array.mk [47, 118, 101, 110, 100, 111, 114, 47]))) = true →
                                                            R (Value.bool false) w50)) ∧
                                                          ((ByteArray.toList (ByteArray.extract (ByteArray.extract s53 0 (Int.toNat (IntKind.wrap IntKind.i64 (n49 + 1)))) (Int.toNat (IntKind.wrap IntKind.i64 ((↑(ByteArray.size (ByteArray.extract s53 0 (Int.toNat (IntKind.wrap IntKind.i64 (n49 + 1))))) : Int) - 8))) (ByteArray.size (ByteArray.extract s53 0 (Int.toNat (IntKind.wrap IntKind.i64 (n49 + 1)))))) == ByteArray.toList (ByteArray.mk (Array.mk [47, 118, 101, 110, 100, 111, 114, 47]))) = false →
                                                            I54 w50))))) ∧
                                                      (decide ((↑(ByteArray.size (ByteArray.extract s53 0 (Int.toNat (IntKind.wrap IntKind.i64 (n49 + 1))))) : Int) > 8) = false →
                                                        I54 w50)))) ∧
                                                  ∀ w55 : World,
                                                  (I54 w55 →
                                                    ∃ I56 : Int → World → Prop, ∃ I57 : Int → World → Nat, (I56 0 w55 ∧
                                                     ∀ n58 : Int,
                                                     ∀ w59 : World,
                                                     (I56 n58 w59 →
                                                       (((decide (n58 < (↑l3.2 : Int)) = true →
                                                          ((0 ≤ n58 ∧
                                                            n58 < (↑l3.2 : Int)) ∧
                                                           ∃ a60 : Addr, (l3.1 = some a60 ∧
                                                            ∃ s61 : ByteArray, ∃ n62 : Int, ∃ s63 : ByteArray, (Sem.run Tryd.prog (loadVar 51 (Addr.add a60 (Int.toNat n58 * 3))) w59 = Result.ok (Value.agg (Array.mk [Value.string s61, Value.int IntKind.i64 n62, Value.string s63])) w59 ∧
                                                             ∀ w64 : World,
                                                             (w64 = World.alloc w59 (Obj.cells (Array.mk [Value.string (ByteArray.mk (Array.mk [])), Value.int IntKind.i64 0, Value.string (ByteArray.mk (Array.mk []))]) 51) →
                                                               ∃ w65 : World, (Sem.run Tryd.prog (storeVar 51 (Addr.mk (Array.size (World.heap w59)) 0 none) (Value.agg (Array.mk [Value.string s61, Value.int IntKind.i64 n62, Value.string s63]))) w64 = Result.ok PUnit.unit w65 ∧
                                                                ∃ s66 : ByteArray, (World.cell? w65 (Addr.mk (Array.size (World.heap w59)) 0 none) = some (Value.string s66) ∧
                                                                 (ByteArray.size s12 + ByteArray.size (ByteArray.extract s53 0 (Int.toNat (IntKind.wrap IntKind.i64 (n49 + 1)))) ≤ 9223372036854775807 ∧
                                                                  (ByteArray.size (s12 ++ ByteArray.extract s53 0 (Int.toNat (IntKind.wrap IntKind.i64 (n49 + 1)))) + ByteArray.size (ByteArray.mk (Array.mk [103, 111, 46, 109, 111, 100])) ≤ 9223372036854775807 ∧
                                                                   ((((ByteArray.toList s66 == ByteArray.toList (s12 ++ ByteArray.extract s53 0 (Int.toNat (IntKind.wrap IntKind.i64 (n49 + 1))) ++ ByteArray.mk (Array.mk [103, 111, 46, 109, 111, 100]))) = true →
                                                                      ∃ n67 : Int, (World.cell? w65 (Addr.mk (Array.size (World.heap w59)) 1 none) = some (Value.int IntKind.i64 n67) ∧
                                                                       ((((n67 == 33188) = true →
                                                                          R (Value.bool false) w65)) ∧
                                                                        ((n67 == 33188) = false →
                                                                          ∃ n68 : Int, (World.cell? w65 (Addr.mk (Array.size (World.heap w59)) 1 none) = some (Value.int IntKind.i64 n68) ∧
                                                                           ((((n68 == 33261) = true →
                                                                              R (Value.bool false) w65)) ∧
                                                                            ((n68 == 33261) = false →
                                                                              (I56 (IntKind.wrap IntKind.i64 (n58 + 1)) w65 ∧
                                                                               I57 (IntKind.wrap IntKind.i64 (n58 + 1)) w65 < I57 n58 w59))))))))) ∧
                                                                    ((ByteArray.toList s66 == ByteArray.toList (s12 ++ ByteArray.extract s53 0 (Int.toNat (IntKind.wrap IntKind.i64 (n49 + 1))) ++ ByteArray.mk (Array.mk [103, 111, 46, 109, 111, 100]))) = false →
                                                                      (I56 (IntKind.wrap IntKind.i64 (n58 + 1)) w65 ∧
                                                                       I57 (IntKind.wrap IntKind.i64 (n58 + 1)) w65 < I57 n58 w59))))))))))))) ∧
                                                        (decide (n58 < (↑l3.2 : Int)) = false →
                                                          (I47 (IntKind.wrap IntKind.i64 (n49 + 1)) w59 ∧
                                                           I48 (IntKind.wrap IntKind.i64 (n49 + 1)) w59 < I48 n49 w50))))))))))))))) ∧
                                        (decide (n49 < (↑(ByteArray.size s51) : Int)) = false →
                                          ((((!b32) = true →
                                             R (Value.bool false) w50)) ∧
                                           ((!b32) = false →
                                             (I14 (IntKind.wrap IntKind.i64 (n16 + 1)) w50 ∧
                                              I15 (IntKind.wrap IntKind.i64 (n16 + 1)) w50 < I15 n16 w17))))))))))))))))))))) ∧
                  (decide (n16 < (↑l6.2 : Int)) = false →
                    Calls Tryd.prog (22 : Nat) (Array.mk []) (w17) (fun e69 w70 =>
                      ∃ b71 : Bool, (e69 = Ending.returned (Value.bool b71) ∧
                       (((b71 = true →
                          Calls Tryd.prog (12 : Nat) (Array.mk [Value.slice l6.1 l6.2 l6.3, Value.int IntKind.i64 40]) (w70) (fun e72 w73 =>
                            ∃ l74 : Sl, (e72 = Ending.returned (Value.slice l74.1 l74.2 l74.3) ∧
                             (R (Value.bool ((↑l74.2 : Int) == if 40 < (↑l6.2 : Int) then 40 else (↑l6.2 : Int))) w73))))) ∧
                        (b71 = false →
                          R (Value.bool false) w70))))))))))))))))
theorem vc_cartularylaw24_ModzipNested_ok {x0a : Option Addr} {x0n : Nat} {x0c : Nat} {x1 : ByteArray} {w : World} {R : Value → World → Prop} {R' : Ending → World → Prop} (h : vc_cartularylaw24_ModzipNested x0a x0n x0c x1 w R) (hR : ∀ v w', R v w' → R' (.returned v) w') :
    Calls Tryd.prog 8 #[.slice x0a x0n x0c, .string x1] w R' :=
  calls_of_body (vs := [(.slice x0a x0n x0c, false), (.string x1, false)]) (ty := ty) (ann := ⟨[(8, [(8, .str)]), (13, []), (26, [])], [(9, [(35, .int .i64)]), (15, [(11, .bool), (55, .int .i64)]), (20, [(14, .int .i64)]), (27, [(121, .int .i64)])], [(11, .quiet)], []⟩) (c := Tryd.f8.body.getD .skip) (by kernel_rfl) Tryd.func8 (by kernel_rfl) (by kernel_rfl) (Eq.mp (by kernel_rfl) h) hR
/-- cartularylaw24.ModzipHashed -/
def vc_cartularylaw24_ModzipHashed (x0a : Option Addr) (x0n : Nat) (x0c : Nat) (x1 : ByteArray) (x2 : ByteArray) (w : World) (R : Value → World → Prop) : Prop :=
  Calls Tryd.prog (12 : Nat) (Array.mk [Value.slice x0a x0n x0c, Value.int IntKind.i64 20]) (w) (fun e1 w2 =>
    ∃ l3 : Sl, (e1 = Ending.returned (Value.slice l3.1 l3.2 l3.3) ∧
     Calls Tryd.prog (23 : Nat) (Array.mk [Value.string x1, Value.string x2, Value.slice l3.1 l3.2 l3.3]) (w2) (fun e4 w5 =>
       ∃ s6 : ByteArray, (e4 = Ending.returned (Value.string s6) ∧
        (((((↑(ByteArray.size s6) : Int) != 47) = true →
           R (Value.bool false) w5)) ∧
         (((↑(ByteArray.size s6) : Int) != 47) = false →
           (((0 : Int) ≤ (3 : Int) ∧
             3 ≤ (↑(ByteArray.size s6) : Int)) ∧
            ((((!ByteArray.toList (ByteArray.extract s6 0 (Int.toNat 3)) == ByteArray.toList (ByteArray.mk (Array.mk [104, 49, 58]))) = true →
               R (Value.bool false) w5)) ∧
             ((!ByteArray.toList (ByteArray.extract s6 0 (Int.toNat 3)) == ByteArray.toList (ByteArray.mk (Array.mk [104, 49, 58]))) = false →
               Calls Tryd.prog (12 : Nat) (Array.mk [Value.slice x0a x0n x0c, Value.int IntKind.i64 20]) (w5) (fun e7 w8 =>
                 ∃ l9 : Sl, (e7 = Ending.returned (Value.slice l9.1 l9.2 l9.3) ∧
                  Calls Tryd.prog (23 : Nat) (Array.mk [Value.string x1, Value.string x2, Value.slice l9.1 l9.2 l9.3]) (w8) (fun e10 w11 =>
                    ∃ s12 : ByteArray, (e10 = Ending.returned (Value.string s12) ∧
                     ((((!ByteArray.toList s6 == ByteArray.toList s12) = true →
                        R (Value.bool false) w11)) ∧
                      ((!ByteArray.toList s6 == ByteArray.toList s12) = false →
                        Calls Tryd.prog (12 : Nat) (Array.mk [Value.slice x0a x0n x0c, Value.int IntKind.i64 20]) (w11) (fun e13 w14 =>
                          ∃ l15 : Sl, (e13 = Ending.returned (Value.slice l15.1 l15.2 l15.3) ∧
                           ∀ w16 : World,
                           (w16 = World.alloc w14 (Obj.cells (Array.mk [Value.string (ByteArray.mk (Array.mk [97, 110, 111, 116, 104, 101, 114])), Value.string (ByteArray.mk (Array.mk [120]))]) 37) →
                             ∃ w17 : World, ∃ l18 : Sl, (Sem.run Tryd.prog (Builtin.append_ (Array.mk [22, 22]) 22 (Array.mk [Value.slice l15.1 l15.2 l15.3, Value.slice (some (Addr.mk (Array.size (World.heap w14)) 0 none)) 1 1])) w16 = Result.ok (Value.slice l18.1 l18.2 l18.3) w17 ∧
                              Calls Tryd.prog (22 : Nat) (Array.mk []) (w17) (fun e19 w20 =>
                                ∃ b21 : Bool, (e19 = Ending.returned (Value.bool b21) ∧
                                 (((b21 = true →
                                    Calls Tryd.prog (23 : Nat) (Array.mk [Value.string x1, Value.string x2, Value.slice l18.1 l18.2 l18.3]) (w20) (fun e22 w23 =>
                                      ∃ s24 : ByteArray, (e22 = Ending.returned (Value.string s24) ∧
                                       (((((↑(ByteArray.size s24) : Int) == 47) = true →
                                          (ByteArray.size x1 + ByteArray.size (ByteArray.mk (Array.mk [64])) ≤ 9223372036854775807 ∧
                                           (ByteArray.size (x1 ++ ByteArray.mk (Array.mk [64])) + ByteArray.size x2 ≤ 9223372036854775807 ∧
                                            Calls Tryd.prog (23 : Nat) (Array.mk [Value.string (x1 ++ ByteArray.mk (Array.mk [64]) ++ x2), Value.string (ByteArray.mk (Array.mk [])), Value.slice none 0 0]) (w23) (fun e25 w26 =>
                                              ∃ s27 : ByteArray, (e25 = Ending.returned (Value.string s27) ∧
                                               Calls Tryd.prog (23 : Nat) (Array.mk [Value.string x1, Value.string x2, Value.slice none 0 0]) (w26) (fun e28 w29 =>
                                                 ∃ s30 : ByteArray, (e28 = Ending.returned (Value.string s30) ∧
                                                  R (Value.bool (ByteArray.toList s27 == ByteArray.toList s30)) w29)))))))) ∧
                                        (((↑(ByteArray.size s24) : Int) == 47) = false →
                                          R (Value.bool false) w23)))))) ∧
                                  (b21 = false →
                                    R (Value.bool false) w20)))))))))))))))))))))))
theorem vc_cartularylaw24_ModzipHashed_ok {x0a : Option Addr} {x0n : Nat} {x0c : Nat} {x1 : ByteArray} {x2 : ByteArray} {w : World} {R : Value → World → Prop} {R' : Ending → World → Prop} (h : vc_cartularylaw24_ModzipHashed x0a x0n x0c x1 x2 w R) (hR : ∀ v w', R v w' → R' (.returned v) w') :
    Calls Tryd.prog 9 #[.slice x0a x0n x0c, .string x1, .string x2] w R' :=
  calls_of_body (vs := [(.slice x0a x0n x0c, false), (.string x1, false), (.string x2, false)]) (ty := ty) (ann := ⟨[], [], [], []⟩) (c := Tryd.f9.body.getD .skip) (by kernel_rfl) Tryd.func9 (by kernel_rfl) (by kernel_rfl) (Eq.mp (by kernel_rfl) h) hR
/-- cartularylaw24.ModzipTurns -/
def vc_cartularylaw24_ModzipTurns (x0a : Option Addr) (x0n : Nat) (x0c : Nat) (x1 : ByteArray) (w : World) (R : Value → World → Prop) : Prop :=
  Calls Tryd.prog (26 : Nat) (Array.mk [Value.slice x0a x0n x0c, Value.int IntKind.i64 40]) (w) (fun e1 w2 =>
    ∃ l3 : Sl, (e1 = Ending.returned (Value.slice l3.1 l3.2 l3.3) ∧
     ∀ w4 : World,
     (w4 = World.alloc w2 (Obj.cells (Array.mk []) 51) →
       ∃ I5 : Sl → Int → World → Prop, ∃ I6 : Sl → Int → World → Nat, (I5 (Sl.mk (some (Addr.mk (Array.size (World.heap w2)) 0 none)) 0 0) 0 w4 ∧
        ∀ l7 : Sl,
        ∀ n8 : Int,
        ∀ w9 : World,
        (I5 l7 n8 w9 →
          (((decide (n8 < (↑l3.2 : Int)) = true →
             ((0 ≤ n8 ∧
               n8 < (↑l3.2 : Int)) ∧
              ∃ a10 : Addr, (l3.1 = some a10 ∧
               ∃ s11 : ByteArray, ∃ n12 : Int, ∃ s13 : ByteArray, (Sem.run Tryd.prog (loadVar 51 (Addr.add a10 (Int.toNat n8 * 3))) w9 = Result.ok (Value.agg (Array.mk [Value.string s11, Value.int IntKind.i64 n12, Value.string s13])) w9 ∧
                ∀ w14 : World,
                (w14 = World.alloc w9 (Obj.cells (Array.mk [Value.string (ByteArray.mk (Array.mk [])), Value.int IntKind.i64 0, Value.string (ByteArray.mk (Array.mk []))]) 51) →
                  ∃ w15 : World, (Sem.run Tryd.prog (storeVar 51 (Addr.mk (Array.size (World.heap w9)) 0 none) (Value.agg (Array.mk [Value.string s11, Value.int IntKind.i64 n12, Value.string s13]))) w14 = Result.ok PUnit.unit w15 ∧
                   ((0 ≤ n8 ∧
                     n8 ≤ (↑l3.3 : Int)) ∧
                    ∃ I16 : Int → World → Prop, ∃ I17 : Int → World → Nat, (I16 0 w15 ∧
                     ∀ n18 : Int,
                     ∀ w19 : World,
                     (I16 n18 w19 →
                       (((decide (n18 < (↑(Int.toNat n8) : Int)) = true →
                          ((0 ≤ n18 ∧
                            n18 < (↑(Int.toNat n8) : Int)) ∧
                           ∃ a20 : Addr, (subA l3.1 l3.3 0 3 = some a20 ∧
                            ∃ s21 : ByteArray, ∃ n22 : Int, ∃ s23 : ByteArray, (Sem.run Tryd.prog (loadVar 51 (Addr.add a20 (Int.toNat n18 * 3))) w19 = Result.ok (Value.agg (Array.mk [Value.string s21, Value.int IntKind.i64 n22, Value.string s23])) w19 ∧
                             ∀ w24 : World,
                             (w24 = World.alloc w19 (Obj.cells (Array.mk [Value.string (ByteArray.mk (Array.mk [])), Value.int IntKind.i64 0, Value.string (ByteArray.mk (Array.mk []))]) 51) →
                               ∃ w25 : World, (Sem.run Tryd.prog (storeVar 51 (Addr.mk (Array.size (World.heap w19)) 0 none) (Value.agg (Array.mk [Value.string s21, Value.int IntKind.i64 n22, Value.string s23]))) w24 = Result.ok PUnit.unit w25 ∧
                                ∃ s26 : ByteArray, (World.cell? w25 (Addr.mk (Array.size (World.heap w9)) 0 none) = some (Value.string s26) ∧
                                 ∃ s27 : ByteArray, (World.cell? w25 (Addr.mk (Array.size (World.heap w19)) 0 none) = some (Value.string s27) ∧
                                  ((((ByteArray.toList s26 == ByteArray.toList s27) = true →
                                     Calls Tryd.prog (22 : Nat) (Array.mk []) (w25) (fun e28 w29 =>
                                       ∃ b30 : Bool, (e28 = Ending.returned (Value.bool b30) ∧
                                        R (Value.bool b30) w29)))) ∧
                                   ((ByteArray.toList s26 == ByteArray.toList s27) = false →
                                     (I16 (IntKind.wrap IntKind.i64 (n18 + 1)) w25 ∧
                                      I17 (IntKind.wrap IntKind.i64 (n18 + 1)) w25 < I17 n18 w19)))))))))))) ∧
                        (decide (n18 < (↑(Int.toNat n8) : Int)) = false →
                          ∃ s31 : ByteArray, ∃ n32 : Int, ∃ s33 : ByteArray, (Sem.run Tryd.prog (loadVar 51 (Addr.mk (Array.size (World.heap w9)) 0 none)) w19 = Result.ok (Value.agg (Array.mk [Value.string s31, Value.int IntKind.i64 n32, Value.string s33])) w19 ∧
                           ∀ w34 : World,
                           (w34 = World.alloc w19 (Obj.cells (Array.mk [Value.string s31, Value.int IntKind.i64 n32, Value.string s33]) 51) →
                             ∃ w35 : World, ∃ l36 : Sl, (Sem.run Tryd.prog (Builtin.append_ (Array.mk [47, 47]) 47 (Array.mk [Value.slice (some (Addr.mk (Array.size (World.heap w19)) 0 none)) 1 1, Value.slice l7.1 l7.2 l7.3])) w34 = Result.ok (Value.slice l36.1 l36.2 l36.3) w35 ∧
                              (I5 (Sl.mk l36.1 l36.2 l36.3) (IntKind.wrap IntKind.i64 (n8 + 1)) w35 ∧
                               I6 (Sl.mk l36.1 l36.2 l36.3) (IntKind.wrap IntKind.i64 (n8 + 1)) w35 < I6 l7 n8 w9)))))))))))))))) ∧
           (decide (n8 < (↑l3.2 : Int)) = false →
             Calls Tryd.prog (27 : Nat) (Array.mk [Value.slice l3.1 l3.2 l3.3, Value.string x1]) (w9) (fun e37 w38 =>
               ∃ l39 : Sl, ∃ n40 : Int, (e37 = Ending.returned (Value.tuple (Array.mk [Value.slice l39.1 l39.2 l39.3, Value.int IntKind.i64 n40])) ∧
                Calls Tryd.prog (27 : Nat) (Array.mk [Value.slice l7.1 l7.2 l7.3, Value.string x1]) (w38) (fun e41 w42 =>
                  ∃ l43 : Sl, ∃ n44 : Int, (e41 = Ending.returned (Value.tuple (Array.mk [Value.slice l43.1 l43.2 l43.3, Value.int IntKind.i64 n44])) ∧
                   ((((n40 != n44) = true →
                      R (Value.bool false) w42)) ∧
                    ((n40 != n44) = false →
                      (((((↑l39.2 : Int) != (↑l43.2 : Int)) = true →
                         R (Value.bool false) w42)) ∧
                       (((↑l39.2 : Int) != (↑l43.2 : Int)) = false →
                         ∀ w45 : World,
                         (w45 = World.alloc w42 (Obj.cells (Array.mk []) 37) →
                           ∃ I46 : Sl → Int → World → Prop, ∃ I47 : Sl → Int → World → Nat, (I46 (Sl.mk (some (Addr.mk (Array.size (World.heap w42)) 0 none)) 0 0) 0 w45 ∧
                            ∀ l48 : Sl,
                            ∀ n49 : Int,
                            ∀ w50 : World,
                            (I46 l48 n49 w50 →
                              (((decide (n49 < (↑l39.2 : Int)) = true →
                                 ∀ w51 : World,
                                 (Drew w50 w51 →
                                   ∃ I52 : World → Prop, (I52 w51 ∧
                                    ((0 ≤ n49 ∧
                                      n49 < (↑l39.2 : Int)) ∧
                                     ∃ a53 : Addr, (l39.1 = some a53 ∧
                                      ((0 ≤ n49 ∧
                                        n49 < (↑l43.2 : Int)) ∧
                                       ∃ a54 : Addr, (l43.1 = some a54 ∧
                                        ∃ s55 : ByteArray, ∃ s56 : ByteArray, ((∀ w57 : World,
                                         (I52 w57 →
                                           Sem.run Tryd.prog (loadVar 37 (Addr.add a53 (Int.toNat n49 * 2))) w57 = Result.ok (Value.agg (Array.mk [Value.string s55, Value.string s56])) w57)) ∧
                                         ∃ s58 : ByteArray, ∃ s59 : ByteArray, ((∀ w60 : World,
                                          (I52 w60 →
                                            Sem.run Tryd.prog (loadVar 37 (Addr.add a54 (Int.toNat n49 * 2))) w60 = Result.ok (Value.agg (Array.mk [Value.string s58, Value.string s59])) w60)) ∧
                                          ((((!(ByteArray.toList s55 == ByteArray.toList s58 && ByteArray.toList s56 == ByteArray.toList s59)) = true →
                                             R (Value.bool false) w51)) ∧
                                           ((!(ByteArray.toList s55 == ByteArray.toList s58 && ByteArray.toList s56 == ByteArray.toList s59)) = false →
                                             ((0 ≤ n49 ∧
                                               n49 < (↑l39.2 : Int)) ∧
                                              ∃ a61 : Addr, (l39.1 = some a61 ∧
                                               ∃ s62 : ByteArray, ∃ s63 : ByteArray, (Sem.run Tryd.prog (loadVar 37 (Addr.add a61 (Int.toNat n49 * 2))) w51 = Result.ok (Value.agg (Array.mk [Value.string s62, Value.string s63])) w51 ∧
                                                ∀ w64 : World,
                                                (w64 = World.alloc w51 (Obj.cells (Array.mk [Value.string s62, Value.string s63]) 37) →
                                                  ∃ w65 : World, ∃ l66 : Sl, (Sem.run Tryd.prog (Builtin.append_ (Array.mk [22, 22]) 22 (Array.mk [Value.slice (some (Addr.mk (Array.size (World.heap w51)) 0 none)) 1 1, Value.slice l48.1 l48.2 l48.3])) w64 = Result.ok (Value.slice l66.1 l66.2 l66.3) w65 ∧
                                                   (I46 (Sl.mk l66.1 l66.2 l66.3) (IntKind.wrap IntKind.i64 (n49 + 1)) w65 ∧
                                                    I47 (Sl.mk l66.1 l66.2 l66.3) (IntKind.wrap IntKind.i64 (n49 + 1)) w65 < I47 l48 n49 w50)))))))))))))))))) ∧
                               (decide (n49 < (↑l39.2 : Int)) = false →
                                 ((((n40 != 0) = true →
                                    Calls Tryd.prog (22 : Nat) (Array.mk []) (w50) (fun e67 w68 =>
                                      ∃ b69 : Bool, (e67 = Ending.returned (Value.bool b69) ∧
                                       R (Value.bool b69) w68)))) ∧
                                  ((n40 != 0) = false →
                                    Calls Tryd.prog (30 : Nat) (Array.mk [Value.string (ByteArray.mk (Array.mk [101, 120, 97, 109, 112, 108, 101, 46, 99, 111, 109, 47, 109])), Value.string (ByteArray.mk (Array.mk [118, 49, 46, 48, 46, 48])), Value.slice l39.1 l39.2 l39.3]) (w50) (fun e70 w71 =>
                                      ∃ s72 : ByteArray, ∃ n73 : Int, (e70 = Ending.returned (Value.tuple (Array.mk [Value.string s72, Value.int IntKind.i64 n73])) ∧
                                       Calls Tryd.prog (30 : Nat) (Array.mk [Value.string (ByteArray.mk (Array.mk [101, 120, 97, 109, 112, 108, 101, 46, 99, 111, 109, 47, 109])), Value.string (ByteArray.mk (Array.mk [118, 49, 46, 48, 46, 48])), Value.slice l43.1 l43.2 l43.3]) (w71) (fun e74 w75 =>
                                         ∃ s76 : ByteArray, ∃ n77 : Int, (e74 = Ending.returned (Value.tuple (Array.mk [Value.string s76, Value.int IntKind.i64 n77])) ∧
                                          Calls Tryd.prog (22 : Nat) (Array.mk []) (w75) (fun e78 w79 =>
                                            ∃ b80 : Bool, (e78 = Ending.returned (Value.bool b80) ∧
                                             (((b80 = true →
                                                ((((ByteArray.toList s72 == ByteArray.toList s76) = true →
                                                   ((((n73 == n77) = true →
                                                      Calls Tryd.prog (23 : Nat) (Array.mk [Value.string (ByteArray.mk (Array.mk [109])), Value.string (ByteArray.mk (Array.mk [118])), Value.slice l39.1 l39.2 l39.3]) (w79) (fun e81 w82 =>
                                                        ∃ s83 : ByteArray, (e81 = Ending.returned (Value.string s83) ∧
                                                         Calls Tryd.prog (23 : Nat) (Array.mk [Value.string (ByteArray.mk (Array.mk [109])), Value.string (ByteArray.mk (Array.mk [118])), Value.slice l48.1 l48.2 l48.3]) (w82) (fun e84 w85 =>
                                                           ∃ s86 : ByteArray, (e84 = Ending.returned (Value.string s86) ∧
                                                            R (Value.bool (ByteArray.toList s83 == ByteArray.toList s86)) w85)))))) ∧
                                                    ((n73 == n77) = false →
                                                      R (Value.bool false) w79)))) ∧
                                                 ((ByteArray.toList s72 == ByteArray.toList s76) = false →
                                                   R (Value.bool false) w79)))) ∧
                                              (b80 = false →
                                                R (Value.bool false) w79))))))))))))))))))))))))))))))
theorem vc_cartularylaw24_ModzipTurns_ok {x0a : Option Addr} {x0n : Nat} {x0c : Nat} {x1 : ByteArray} {w : World} {R : Value → World → Prop} {R' : Ending → World → Prop} (h : vc_cartularylaw24_ModzipTurns x0a x0n x0c x1 w R) (hR : ∀ v w', R v w' → R' (.returned v) w') :
    Calls Tryd.prog 11 #[.slice x0a x0n x0c, .string x1] w R' :=
  calls_of_body (vs := [(.slice x0a x0n x0c, false), (.string x1, false)]) (ty := ty) (ann := ⟨[], [(4, [(6, .slice), (26, .int .i64)]), (7, [(35, .int .i64)]), (20, [(15, .slice), (76, .int .i64)])], [(22, .held [(0, true), (1, true), (2, true), (4, true), (5, true), (6, true), (3, true), (7, true), (8, true)])], []⟩) (c := Tryd.f11.body.getD .skip) (by kernel_rfl) Tryd.func11 (by kernel_rfl) (by kernel_rfl) (Eq.mp (by kernel_rfl) h) hR
end Go.Proofs.YtfoeooddnmppnaaDoor

/- Chapter 24's awake, and its Short of items. Conditions: as named. -/
set_option linter.unusedVariables false
namespace Go.Proofs.YtfoeooddnmppnaaDoor
open Go Vc ShaM HexM StabM B64M Go.Proofs

def it0 : List ItE := [⟨⟨#[97, 46, 103, 111]⟩, 33188, ⟨#[120]⟩⟩, ⟨⟨#[115, 117, 98, 47, 103, 111, 46, 109, 111, 100]⟩, 33188, ⟨#[]⟩⟩, ⟨sLic, 33261, ⟨#[]⟩⟩]
def dir0 : ByteArray := ⟨#[115, 117, 98]⟩
def sel0 : List FileE := [⟨sLic, ⟨#[]⟩⟩, ⟨sMod, ⟨#[]⟩⟩]
theorem sel0_is : selE it0 dir0 = [⟨sMod, ⟨#[]⟩⟩, ⟨sLic, ⟨#[]⟩⟩] := by kernel_rfl
theorem dir0_ok : dirOK dir0 = true := by kernel_rfl
theorem chk0 : chkE sel0 = 0 := by kernel_rfl
theorem hash0 : hashE [] = ⟨#[104, 49, 58, 52, 55, 68, 69, 81, 112, 106, 56, 72, 66, 83, 97, 43, 47, 84, 73, 109, 87, 43, 53, 74, 67, 101, 117, 81, 101, 82, 107, 109, 53, 78, 77, 112, 74, 87, 90, 71, 51, 104, 83, 117, 70, 85, 61]⟩ := by kernel_rfl
theorem sel0_all {ys : List FileE} (hp : ys.Perm (selE it0 dir0)) (hs : Srt ltP ys) : ys = sel0 := by
  have h1 : Srt ltP sel0 := List.pairwise_cons.2 ⟨fun y hy => by rw [List.mem_singleton] at hy; subst hy; kernel_rfl, srt_one _⟩
  have hp2 : ys.Perm sel0 := hp.trans (by rw [sel0_is]; exact List.Perm.swap _ _ _)
  have hn : (sel0.map (·.path)).Nodup := by
    unfold sel0
    rw [List.map_cons, List.map_cons, List.map_nil, List.nodup_cons]
    exact ⟨fun h => (by rw [List.mem_singleton] at h; have := congrArg ByteArray.size h; cases this), by simp⟩
  have key : ∀ zs : List FileE, Srt ltP zs → zs.Pairwise fun x y => ¬ y.path.data.toList < x.path.data.toList := fun zs h => h.imp fun h => of_decide_eq_false h
  exact sorted_one hp2 ((hp2.map _).nodup_iff.2 hn) (key _ hs) (key _ h1)
theorem awake24_spec {w : World} (hm : MaxL w) : Calls Tryd.prog F_cartularylaw24_awake #[] w fun e w' => e = .returned (.bool true) ∧ Fr (fun _ => False) w w' := by
  refine vc_cartularylaw24_awake_ok (R := fun v w' => v = .bool true ∧ Fr (fun _ => False) w w') ?_ (fun v w' h => ⟨by rw [h.1], h.2⟩)
  intro w1 h1
  have hf1 : Fr (fun _ => False) w w1 := by rw [h1]; exact .alloc _ _ _
  have hb1 : w1.heap[w.heap.size]? = some (.cells (it0.flatMap encI).toArray T_modzip_Item (0, 0)) := by rw [h1]; exact alloc_new _ _
  have hr : ReadsK encI 3 w1 (some ⟨w.heap.size, 0, none⟩) it0 := fun i x hx => by
    refine ⟨_, rfl, fun j v hv => ?_⟩
    have hj : j < 3 := (List.getElem?_eq_some_iff.1 hv).1
    rw [add_lit, add_lit, cell_blk hb1, List.getElem?_toArray, Nat.zero_add]
    exact flat_get (enc := encI) (k := 3) (fun _ => rfl) it0 i x j v hx hv
  refine (select_spec hr rfl (by decide) (dir := dir0) (by decide +kernel) (by decide +kernel) (by decide) (hm.keep hf1)).mono ?_
  rintro e w3 ⟨v, rfl, hf3, hcase⟩
  rcases hcase with ⟨h, _⟩ | ⟨_, ys, hp, hs, hc⟩
  · rw [dir0_ok] at h; cases h
  have hys := sel0_all hp hs
  subst hys
  rw [chk0] at hc
  rcases hc with ⟨h, _⟩ | ⟨_, l, rfl, ho⟩
  · exact absurd rfl h
  have hl := ho.len
  obtain ⟨ad, had, hrd⟩ := (ho.reads fun _ => rfl) 0 _ rfl
  obtain ⟨ad', had', hrd'⟩ := (ho.reads fun _ => rfl) 1 _ rfl
  rw [had] at had'
  cases had'
  have c0 := hrd 0 _ rfl
  have c1 := hrd' 0 _ rfl
  have hz : ∀ q : Addr, q.add 0 = q := fun q => by cases q; rfl
  rw [hz] at c0 c1
  have hl2 : l.len = 2 := hl
  refine ⟨l, 0, rfl, fun _ => ⟨fun _ => ⟨⟨by decide, by omega⟩, ad, had, _, c0, fun _ => ⟨⟨by decide, by omega⟩, ad, had, _, c1, fun _ => ?_, fun h => (by rw [bs_eq] at h; exact absurd rfl (of_decide_eq_false h))⟩, fun h => (by rw [bs_eq] at h; exact absurd rfl (of_decide_eq_false h))⟩, fun h => (by rw [hl2] at h; cases h)⟩, fun h => (by cases h)⟩
  refine (hash_spec (xs := []) (.nil _ _) rfl (by decide) ⟨#[109]⟩ ⟨#[118]⟩ (by simp) (by decide) (by simp)).mono ?_
  rintro e w11 ⟨ys, rfl, hp, _, _, hf11⟩
  have hy0 : ys = [] := List.perm_nil.1 hp
  subst hy0
  refine ⟨_, rfl, ?_, (hf1.trans' hf3).trans' hf11⟩
  rw [hash0, bs_eq, decide_eq_true rfl]
/-- An item of at most 400 bytes. -/
def cutI (x : ItE) : ItE := ⟨x.path, x.mode, fewB x.data 400⟩
def shortI (xs : List ItE) (m : Nat) : List ItE := (xs.take m).map cutI
theorem short24_spec {w : World} {a : Option Addr} {n c : Nat} {xs : List ItE} (hr : ReadsK encI 3 w a xs) (hn : xs.length = n) (m : Nat) (hm : m ≤ 1000) : Calls Tryd.prog F_cartularylaw24_Short #[.slice a n c, .int .i64 m] w fun e w' =>
    ∃ l, e = .returned (.slice l.a l.len l.cap) ∧ OwnK encI 3 w' w.heap.size T_modzip_Item l (shortI xs m) ∧ Fr (fun _ => False) w w' := by
  refine vc_cartularylaw24_Short_ok (R := fun v w' => ∃ l : Sl, v = .slice l.a l.len l.cap ∧ OwnK encI 3 w' w.heap.size T_modzip_Item l (shortI xs m) ∧ Fr (fun _ => False) w w') ?_ (fun v w' ⟨l, h⟩ => ⟨l, by rw [h.1], h.2⟩)
  intro w1 h1
  have hf1 : Fr (fun _ => False) w w1 := by rw [h1]; exact .alloc _ _ _
  have ho1 : OwnK encI 3 w1 w.heap.size T_modzip_Item ⟨some ⟨w.heap.size, 0, none⟩, 0, 0⟩ [] := by rw [h1]; exact .empty w T_modzip_Item
  refine ⟨fun l i w' => ∃ k : Nat, i = k ∧ k ≤ xs.length ∧ k ≤ m ∧ OwnK encI 3 w' w.heap.size T_modzip_Item l ((xs.take k).map cutI) ∧ Fr (fun _ => False) w w', fun _ i _ => xs.length - i.toNat, ⟨0, rfl, Nat.zero_le _, Nat.zero_le _, ho1, hf1⟩, ?_⟩
  rintro l i w6 ⟨k, rfl, hk, hkm, ho, hf⟩
  refine ⟨fun hlt => ⟨fun hlm => ?_, fun hge => ⟨l, rfl, ?_, hf⟩⟩, fun hge => ⟨l, rfl, ?_, hf⟩⟩
  · have hlt := of_decide_eq_true hlt
    have hlm := of_decide_eq_true hlm
    have hkl : k < xs.length := by omega
    have hx : xs[k]? = some xs[k] := List.getElem?_eq_getElem hkl
    have htk : xs.take (k + 1) = xs.take k ++ [xs[k]] := (List.take_append_getElem hkl).symm
    generalize xs[k] = x at hx htk
    obtain ⟨ad, had, hld⟩ := ((hr.keep hf (by simp)).load elI hx)
    refine ⟨⟨by omega, by omega⟩, ad, had, x.path, x.mode, x.data, by rw [Int.toNat_natCast]; exact hld, fun w11 h11 => ?_⟩
    subst h11
    have hbb : (w6.alloc (.cells (encI x).toArray T_modzip_Item)).heap[w6.heap.size]? = some (.cells (encI x).toArray T_modzip_Item (0, 0)) := alloc_new _ _
    have hfb : Fr (fun _ => False) w6 (w6.alloc (.cells (encI x).toArray T_modzip_Item)) := .alloc _ _ _
    refine ⟨_, boxI_run w6 x, x.data, by rw [cell_blk hbb]; rfl, (fewS_spec x.data 400 _).mono ?_⟩
    rintro e w15 ⟨rfl, hw⟩
    replace hw := hw.symm
    subst hw
    refine ⟨_, rfl, wr_blk hbb (by simp [encI]), fun w17 h17 => ?_⟩
    have hb17 : w17.heap[w6.heap.size]? = some (.cells (encI (cutI x)).toArray T_modzip_Item (0, 0)) := by rw [h17, set_blk hbb]; rfl
    have hf17 : Fr (fun _ => False) w6 w17 := by
      rw [h17]
      exact hfb.trans (Fr.set (· = w6.heap.size) _ _ rfl) fun q hq e => by omega
    refine ⟨_, _, _, boxI_load hb17, fun w21 h21 => ?_⟩
    have hfl : ((xs.take k).map cutI).length ≤ 1000 := by rw [List.length_map, List.length_take]; omega
    obtain ⟨w22, l23, hr22, ho22, hf22, _⟩ := append_oneK elI (ho.keep hf17 (by simp)) (x := cutI x) (by unfold maxLen; omega) (by omega) (by have := hf17.size; have := hf.size; omega) h21
    have e1 : IntKind.i64.wrap ((k : Int) + 1) = ((k + 1 : Nat) : Int) := by rw [wrap_i64 (by omega) (by omega)]; omega
    rw [e1]
    refine ⟨w22, l23, hr22, ⟨k + 1, rfl, by omega, by omega, by rw [htk, List.map_append]; exact ho22, (hf.trans' hf17).trans hf22 fun q hq ⟨y, hy, e⟩ => by have := (ho.blk hy).1; omega⟩, by dsimp only; omega⟩
  · have hge := of_decide_eq_false hge
    have : k = m := by omega
    subst this
    exact ho
  · have hge := of_decide_eq_false hge
    have : k = xs.length := by omega
    unfold shortI
    rw [List.take_of_length_le (by omega : xs.length ≤ m)]
    rw [this, List.take_length] at ho
    exact ho
theorem shortI_facts {xs : List ItE} (m : Nat) : (shortI xs m).length ≤ m ∧ ∀ x ∈ shortI xs m, x.data.size ≤ 400 ∧ ∃ y ∈ xs, x.path = y.path := by
  refine ⟨by unfold shortI; rw [List.length_map, List.length_take]; omega, fun x hx => ?_⟩
  obtain ⟨y, hy, rfl⟩ := List.mem_map.1 hx
  exact ⟨(fewB_size _ _).1, y, List.mem_of_mem_take hy, rfl⟩
end Go.Proofs.YtfoeooddnmppnaaDoor

/- What is selected stands in no other module's folder and in no folder vendor, in plain. No condition. -/
set_option linter.unusedVariables false
namespace Go.Proofs.YtfoeooddnmppnaaDoor
open Go Vc Go.Proofs

theorem sel_from {xs : List ItE} {dir : ByteArray} {f : FileE} (h : f ∈ selE xs dir) : ∃ x ∈ xs, x.data = f.data ∧ (x.path = frontOf dir ++ f.path ∨ f.path = sLic ∧ x.path = sLic) := by
  rcases sel_mem h with h | h
  · obtain ⟨x, hx, h1, rfl⟩ := take_mem h
    refine ⟨x, hx, rfl, .inl ?_⟩
    have b1 : begB x.path (frontOf dir) = true := by unfold isTake okI at h1; simp only [Bool.and_eq_true] at h1; exact h1.1.1.1
    exact beg_cutPre b1
  · obtain ⟨x, hx, h1, rfl⟩ := lic_mem h
    unfold isLic at h1
    simp only [Bool.and_eq_true, decide_eq_true_eq] at h1
    exact ⟨x, hx, rfl, .inr ⟨rfl, h1.1⟩⟩
theorem beg_folder (s : ByteArray) (k : Nat) : begB s (s.extract 0 k) = true := by
  unfold begB
  rw [bs_head]
  exact decide_eq_true (List.take_prefix _ _)
theorem hasL_mid (t a b : List UInt8) : hasL t (a ++ (t ++ b)) = true := hasL_front t _ (hasL_pre (List.prefix_append t b)) a
theorem folder_last {s : ByteArray} {k : Nat} (hk : k < s.size) (hb : byt s k = 47) : (s.extract 0 (k + 1)).data.toList = s.data.toList.take k ++ [47] := by
  rw [bs_head, bs_take hk, hb]; rfl
theorem sel_folder {xs : List ItE} {dir : ByteArray} {f : FileE} (h : f ∈ selE xs dir) {k : Nat} (hk : k < f.path.size) (hb : byt f.path k = 47) :
    f.path.extract 0 (k + 1) ≠ sVen ∧ (8 < k + 1 → (f.path.extract 0 (k + 1)).extract (k + 1 - 8) (k + 1) ≠ sVen2) ∧ ∀ x ∈ xs, plainI x = true → x.path ≠ (frontOf dir ++ f.path.extract 0 (k + 1)) ++ sMod := by
  rcases sel_mem h with h | h
  · obtain ⟨x, hx, h1, rfl⟩ := take_mem h
    unfold isTake at h1
    simp only [Bool.and_eq_true, Bool.not_eq_true'] at h1
    obtain ⟨⟨h1, hi⟩, hv⟩ := h1
    generalize cutPre x.path (frontOf dir) = p at *
    unfold vend at hv
    rw [Bool.or_eq_false_iff] at hv
    have hsz : (p.extract 0 (k + 1)).size = k + 1 := by rw [ByteArray.size_extract]; dsimp only at hk; omega
    refine ⟨fun e => ?_, fun h8 e => ?_, fun y hy hp e => ?_⟩
    · have := beg_folder p (k + 1)
      dsimp only at e
      rw [e, hv.1] at this
      cases this
    · have : hasL sVen2.data.toList p.data.toList = true := by
        have e2 : p.data.toList = p.data.toList.take (k + 1 - 8) ++ (sVen2.data.toList ++ p.data.toList.drop (k + 1)) := by
          dsimp only at e
          rw [← e, bs_extract, bs_head, show k + 1 - (k + 1 - 8) = 8 by omega, List.drop_take, show k + 1 - (k + 1 - 8) = 8 by omega, List.take_take, Nat.min_self, ← List.append_assoc, ← List.take_add, show k + 1 - 8 + 8 = k + 1 by omega, List.take_append_drop]
        rw [e2]
        exact hasL_mid _ _ _
      rw [hv.2] at this
      cases this
    · dsimp only at e hk hb
      have hfold := folder_last hk hb
      generalize hF : p.extract 0 (k + 1) = F at *
      have hbeg : begB y.path (frontOf dir) = true := by
        rw [e]
        unfold begB
        rw [bs_app, bs_app, List.append_assoc]
        exact decide_eq_true (List.prefix_append _ _)
      have hcut : cutPre y.path (frontOf dir) = F ++ sMod := by
        have := beg_cutPre hbeg
        rw [e] at this
        refine bs_ext ?_
        have h2 := congrArg (fun s : ByteArray => s.data.toList) this
        simp only [bs_app, List.append_assoc] at h2
        rw [e, bs_app]
        exact (List.append_cancel_left h2).symm
      have hm : F ∈ xs.flatMap (nestE (frontOf dir)) := by
        refine List.mem_flatMap.2 ⟨y, hy, ?_⟩
        have hnest : isNest (frontOf dir) y = true := by
          unfold isNest okI
          rw [hbeg, hp, hcut, bs_app, hfold]
          simp only [Bool.and_self, Bool.true_and]
          unfold sufL
          exact decide_eq_true ⟨p.data.toList.take k, by rw [List.append_assoc]; rfl⟩
        unfold nestE
        rw [if_pos hnest, hcut]
        have : cutSuf (F ++ sMod) sMod = F := by
          unfold cutSuf
          rw [if_pos (by unfold sufL; rw [bs_app]; exact decide_eq_true (List.suffix_append _ _))]
          refine bs_ext ?_
          rw [bs_head, bs_app, show (F ++ sMod).size - sMod.size = F.data.toList.length by rw [ByteArray.size_append, bs_len]; omega, List.take_left]
        rw [this]
        exact List.mem_singleton.2 rfl
      have : inB (xs.flatMap (nestE (frontOf dir))) p = true := List.any_eq_true.2 ⟨F, hm, by rw [← hF]; exact beg_folder p (k + 1)⟩
      rw [hi] at this
      cases this
  · obtain ⟨x, hx, h1, rfl⟩ := lic_mem h
    dsimp only at hk hb
    have key : ∀ j : Fin 7, byt sLic j ≠ 47 := by decide
    exact absurd hb (key ⟨k, hk⟩)
end Go.Proofs.YtfoeooddnmppnaaDoor

/- ModzipHashed: a hash has 47 letters and hangs on nothing else than the files. Conditions: what comes in is within the reach. -/
set_option linter.unusedVariables false
namespace Go.Proofs.YtfoeooddnmppnaaDoor
open Go Vc ShaM HexM StabM B64M Go.Proofs

theorem hashE_head (ys : List FileE) : (hashE ys).extract 0 3 = ⟨#[104, 49, 58]⟩ := by
  refine bs_ext ?_
  unfold hashE
  rw [bs_head, bs_app]; rfl
theorem front_size (m v : ByteArray) : (frontE m v).size = m.size + v.size + 2 := by
  unfold frontE
  rw [ByteArray.size_append, ByteArray.size_append, ByteArray.size_append]
  show m.size + 1 + v.size + 1 = _
  omega
theorem shortF_sz {xs : List FileE} {m N : Nat} (hb : ∀ x ∈ xs, x.path.size ≤ N ∧ x.data.size ≤ N) : (shortF xs m).length ≤ m ∧ ∀ x ∈ shortF xs m, x.path.size ≤ N ∧ x.data.size ≤ 400 := by
  refine ⟨by unfold shortF; rw [List.length_map, List.length_take]; omega, fun x hx => ?_⟩
  obtain ⟨y, hy, rfl⟩ := List.mem_map.1 hx
  exact ⟨(hb y (List.mem_of_mem_take hy)).1, (fewB_size _ _).1⟩
def fAn : FileE := ⟨⟨#[97, 110, 111, 116, 104, 101, 114]⟩, ⟨#[120]⟩⟩
theorem hashed_walk {a : Option Addr} {n c : Nat} {W : World} {xs : List FileE} (hr : ReadsK encF 2 W a xs) (hn : xs.length = n) (hc : n ≤ c) (hb : ∀ x ∈ xs, x.path.size ≤ reachBytes ∧ x.data.size ≤ reachBytes) (m : ByteArray) (hm : m.size ≤ reachBytes) (v : ByteArray) (hv : v.size ≤ reachBytes) (hml : MaxL W) :
    Calls Tryd.prog F_cartularylaw24_ModzipHashed #[.slice a n c, .string m, .string v] W fun e w' => e = .returned (.bool true) ∧ RowKit.Below W.heap.size W w' := by
  refine vc_cartularylaw24_ModzipHashed_ok (R := fun u w' => u = .bool true ∧ Fr (fun _ => False) W w') ?_ (fun u w' h => ⟨by rw [h.1], (h.2.mono fun _ _ h => h.elim : Fr (fun k => W.heap.size ≤ k) W w').below (Nat.le_refl _)⟩)
  have hrb : reachBytes ≤ 140737488355328 := by decide
  obtain ⟨hl20, hsz⟩ := shortF_sz (m := 20) hb
  have hfs := front_size m v
  have hpre : ∀ x ∈ shortF xs 20, (frontE m v).size + x.path.size ≤ 562949953421312 := fun x hx => by have := (hsz x hx).1; omega
  have hdat : ∀ x ∈ shortF xs 20, x.data.size ≤ 1000000 := fun x hx => by have := (hsz x hx).2; omega
  refine (short09_spec hr hn hc 20 (by decide)).mono ?_
  rintro e w2 ⟨l3, rfl, ho2, hf2⟩
  refine ⟨l3, rfl, (hash_spec (ho2.reads fun _ => rfl) ho2.1 (by have := ho2.1; omega) m v hpre (by omega) hdat).mono ?_⟩
  rintro e w5 ⟨ys, rfl, _, _, hi5, hf5⟩
  have hf5' := hf2.trans' hf5
  refine ⟨_, rfl, fun h => (by rw [hashE_size] at h; cases h), fun _ => ⟨⟨by decide, by rw [hashE_size]; decide⟩, fun h => ?_, fun _ => ?_⟩⟩
  · rw [show Int.toNat 3 = 3 from rfl, hashE_head, bs_eq, decide_eq_true rfl] at h; cases h
  refine (short09_spec (hr.keep hf5' (by simp)) hn hc 20 (by decide)).mono ?_
  rintro e w8 ⟨l9, rfl, ho8, hf8⟩
  refine ⟨l9, rfl, (hash_spec (ho8.reads fun _ => rfl) ho8.1 (by have := ho8.1; omega) m v hpre (by omega) hdat).mono ?_⟩
  rintro e w11 ⟨zs, rfl, _, _, hi11, hf11⟩
  have hf11' := (hf5'.trans' hf8).trans' hf11
  have hyz : ys = zs := (hi5 hl20).trans (hi11 hl20).symm
  refine ⟨_, rfl, fun h => (by rw [hyz, bs_eq, decide_eq_true rfl] at h; cases h), fun _ => ?_⟩
  refine (short09_spec (hr.keep hf11' (by simp)) hn hc 20 (by decide)).mono ?_
  rintro e w14 ⟨l15, rfl, ho14, hf14⟩
  refine ⟨l15, rfl, fun w16 h16 => ?_⟩
  obtain ⟨w17, l18, hr17, ho17, hf17, _⟩ := append_oneK elF ho14 (x := fAn) (by unfold maxLen; omega) (by omega) hf14.size h16
  have hf17' : Fr (fun _ => False) W w17 := (hf11'.trans' hf14).trans hf17 fun q hq ⟨y, hy, e⟩ => by have := (ho14.blk hy).1; have := hf11'.size; omega
  refine ⟨w17, l18, hr17, (awake24_spec (hml.keep hf17')).mono ?_⟩
  rintro e w20 ⟨rfl, hf20⟩
  refine ⟨_, rfl, fun _ => ?_, fun h => (by cases h)⟩
  have ho20 := ho17.keep hf20 (by simp)
  have hf20' := hf17'.trans' hf20
  have hl21 : (shortF xs 20 ++ [fAn]).length ≤ 21 := by rw [List.length_append]; simp; omega
  refine (hash_spec (ho20.reads fun _ => rfl) ho20.1 (by have := ho20.1; omega) m v (fun x hx => ?_) (by omega) (fun x hx => ?_)).mono ?_
  · rcases List.mem_append.1 hx with hx | hx
    · exact hpre x hx
    · rw [List.mem_singleton] at hx
      subst hx
      have : fAn.path.size = 7 := rfl
      omega
  · rcases List.mem_append.1 hx with hx | hx
    · exact hdat x hx
    · rw [List.mem_singleton] at hx
      subst hx
      have : fAn.data.size = 1 := rfl
      omega
  rintro e w23 ⟨us, rfl, _, _, _, hf23⟩
  refine ⟨_, rfl, fun _ => ⟨?_, ?_, ?_⟩, fun h => (by rw [hashE_size] at h; cases h)⟩
  · show m.size + 1 ≤ 9223372036854775807
    omega
  · rw [ByteArray.size_append]
    show m.size + 1 + v.size ≤ 9223372036854775807
    omega
  have hmv : (m ++ (⟨#[64]⟩ : ByteArray) ++ v).size = m.size + 1 + v.size := by rw [ByteArray.size_append, ByteArray.size_append]; rfl
  have hbnd : (m ++ (⟨#[64]⟩ : ByteArray) ++ v).size + (⟨#[]⟩ : ByteArray).size ≤ 4611686018427387904 := by
    have h0 : (⟨#[]⟩ : ByteArray).size = 0 := rfl
    rw [hmv, h0]; omega
  refine (hash_spec (xs := []) (c := 0) (.nil w23 none) rfl (by decide) (m ++ (⟨#[64]⟩ : ByteArray) ++ v) (⟨#[]⟩ : ByteArray) (fun x hx => by simp at hx) hbnd (fun x hx => by simp at hx)).mono ?_
  rintro e w26 ⟨p1, rfl, hp1, _, _, hf26⟩
  refine ⟨_, rfl, (hash_spec (xs := []) (.nil _ _) rfl (by decide) m v (by simp) (by omega) (by simp)).mono ?_⟩
  rintro e w29 ⟨p2, rfl, hp2, _, _, hf29⟩
  rw [List.perm_nil.1 hp1, List.perm_nil.1 hp2]
  exact ⟨_, rfl, by rw [bs_eq, decide_eq_true rfl], ((hf20'.trans' hf23).trans' hf26).trans' hf29⟩
end Go.Proofs.YtfoeooddnmppnaaDoor

/- ModzipNested: a module's files never come from another module's folder, from vendor, or from outside but for the licence. Condition: paths are of at most a megabyte. -/
set_option linter.unusedVariables false
namespace Go.Proofs.YtfoeooddnmppnaaDoor
open Go Vc ShaM HexM StabM B64M Go.Proofs

/-- Strictly rising, where nothing is wrong. -/
theorem chk_strict {ys : List FileE} (hs : Srt ltP ys) (hc : chkE ys = 0) {i : Nat} {x y : FileE} (hx : ys[i]? = some x) (hy : ys[i + 1]? = some y) : x.path.data.toList < y.path.data.toList := by
  obtain ⟨h1, e1⟩ := List.getElem?_eq_some_iff.1 hx
  obtain ⟨h2, e2⟩ := List.getElem?_eq_some_iff.1 hy
  have ha := List.pairwise_iff_getElem.1 hs i (i + 1) h1 h2 (by omega)
  rw [e1, e2] at ha
  have ha := of_decide_eq_false ha
  have hn := (chk_ok hc).2.1
  have hb := List.pairwise_iff_getElem.1 hn i (i + 1) (by simpa using h1) (by simpa using h2) (by omega)
  simp only [List.getElem_map, e1, e2] at hb
  rcases lt_tri x.path.data.toList y.path.data.toList with h | h | h
  · exact h
  · exact absurd (bs_ext h) hb
  · exact absurd h ha
def fromB (front : ByteArray) (f : FileE) (x : ItE) : Bool := decide (x.data = f.data) && (decide (x.path = front ++ f.path) || (decide (f.path = sLic) && decide (x.path = sLic)))
set_option maxHeartbeats 1000000 in
theorem nested_walk {a : Option Addr} {n c : Nat} {W : World} {xs : List ItE} (hr : ReadsK encI 3 W a xs) (hn : xs.length = n) (hb : ∀ x ∈ xs, x.path.size ≤ 1048576) (dir : ByteArray) (hdir : dir.size ≤ reachBytes) (hml : MaxL W) :
    Calls Tryd.prog F_cartularylaw24_ModzipNested #[.slice a n c, .string dir] W fun e w' => e = .returned (.bool true) ∧ RowKit.Below W.heap.size W w' := by
  refine vc_cartularylaw24_ModzipNested_ok (R := fun u w' => u = .bool true ∧ Fr (fun _ => False) W w') ?_ (fun u w' h => ⟨by rw [h.1], (h.2.mono fun _ _ h => h.elim : Fr (fun k => W.heap.size ≤ k) W w').below (Nat.le_refl _)⟩)
  have hrb : reachBytes ≤ 140737488355328 := by decide
  refine (short24_spec hr hn 40 (by decide)).mono ?_
  rintro e w2 ⟨l3, rfl, ho2, hf2⟩
  obtain ⟨hl40, hz⟩ := shortI_facts (xs := xs) 40
  have hzp : ∀ x ∈ shortI xs 40, x.path.size ≤ 1048576 := fun x hx => by obtain ⟨y, hy, e⟩ := (hz x hx).2; rw [e]; exact hb y hy
  have hzd : ∀ x ∈ shortI xs 40, x.data.size ≤ 400 := fun x hx => (hz x hx).1
  generalize shortI xs 40 = zs at *
  have hl3 := ho2.len
  refine ⟨l3, rfl, (select_spec (ho2.reads fun _ => rfl) ho2.1 (by omega) (dir := dir) (fun x hx => Nat.le_trans (hzp x hx) (by decide)) (fun x hx => Nat.le_trans (hzd x hx) (by decide)) (by omega) (hml.keep hf2)).mono ?_⟩
  rintro e w5 ⟨v, rfl, hf5, hcase⟩
  have hf5' := hf2.trans' hf5
  have hbad : ∀ z : Int, z ≠ 0 → ∃ (l6 : Sl) (n7 : Int), Ending.returned (.tuple #[.slice none 0 0, .int .i64 z]) = .returned (.tuple #[.slice l6.a l6.len l6.cap, .int .i64 n7]) ∧ l6 = ⟨none, 0, 0⟩ ∧ n7 = z := fun z _ => ⟨⟨none, 0, 0⟩, z, rfl, rfl, rfl⟩
  have hawake : Calls Tryd.prog F_cartularylaw24_awake #[] w5 fun e8 w9 => ∃ b10 : Bool, e8 = .returned (.bool b10) ∧ ((.bool b10 : Value) = .bool true ∧ Fr (fun _ => False) W w9) := by
    refine (awake24_spec (hml.keep hf5')).mono ?_
    rintro e w9 ⟨rfl, hf9⟩
    exact ⟨true, rfl, rfl, hf5'.trans' hf9⟩
  rcases hcase with ⟨_, rfl⟩ | ⟨hok, ys, hp, hs, hc⟩
  · exact ⟨⟨none, 0, 0⟩, 4, rfl, fun _ => hawake, fun h => (by cases h)⟩
  rcases hc with ⟨hne, rfl⟩ | ⟨hc0, l6, rfl, ho5⟩
  · exact ⟨⟨none, 0, 0⟩, chkE ys, rfl, fun _ => hawake, fun h => absurd (by simpa using h) hne⟩
  refine ⟨l6, 0, rfl, fun h => (by cases h), fun _ => ?_⟩
  have hdne : ∀ b : Bool, (!ByteArray.toList dir == ByteArray.toList ⟨#[]⟩) = b → decide (dir.size = 0) = !b := fun b h => by
    rw [bs_eq] at h
    rw [← h, Bool.not_not]
    exact decide_eq_decide.2 bs_empty.symm
  obtain ⟨front, hfr⟩ : ∃ front, frontOf dir = front := ⟨_, rfl⟩
  have hfsz : front.size ≤ 140737488355329 := by
    rw [← hfr]
    unfold frontOf
    split
    · show 0 ≤ _
      omega
    · rw [ByteArray.size_append]
      show dir.size + 1 ≤ _
      omega
  refine ⟨fun s w' => s = front ∧ w' = w5, ⟨fun h => ⟨?_, ?_, rfl⟩, fun h => ⟨?_, rfl⟩⟩, ?_⟩
  · show dir.size + 1 ≤ 9223372036854775807
    omega
  · rw [← hfr]; unfold frontOf; rw [if_neg (of_decide_eq_false (hdne _ h))]
  · rw [← hfr]; unfold frontOf; rw [if_pos (of_decide_eq_true (hdne _ h))]
  rintro s12 w13 ⟨rfl, hw13⟩
  replace hw13 := hw13.symm
  subst hw13
  have hl6 := ho5.len
  have hyl : ys.length ≤ 41 := by have h1 := hp.length_eq; have h2 := sel_len zs dir; omega
  have hysz : ∀ y ∈ ys, y.path.size ≤ 1048576 ∧ y.data.size ≤ 400 := fun y hy => sel_sizes (P := 1048576) (B := 400) (by decide) hzp hzd y (hp.subset hy)
  have ho2' := ho2.keep hf5 (by simp)
  have hfrom : ∀ f ∈ ys, zs.any (fromB s12 f) = true := fun f hf => by
    obtain ⟨x, hx, hd, hpth⟩ := sel_from (hp.subset hf)
    refine List.any_eq_true.2 ⟨x, hx, ?_⟩
    unfold fromB
    rw [decide_eq_true hd, Bool.true_and]
    rcases hpth with h | ⟨h1, h2⟩
    · rw [hfr] at h; rw [decide_eq_true h]; rfl
    · rw [decide_eq_true h1, decide_eq_true h2]; simp
  have hfold : ∀ f ∈ ys, ∀ k, k < f.path.size → byt f.path k = 47 → f.path.extract 0 (k + 1) ≠ sVen ∧ (8 < k + 1 → (f.path.extract 0 (k + 1)).extract (k + 1 - 8) (k + 1) ≠ sVen2) ∧ ∀ x ∈ zs, plainI x = true → x.path ≠ (s12 ++ f.path.extract 0 (k + 1)) ++ sMod := fun f hf k hk hb => by
    have := sel_folder (hp.subset hf) hk hb
    rw [hfr] at this
    exact this
  refine ⟨fun i w' => ∃ k : Nat, i = k ∧ k ≤ ys.length ∧ Fr (fun _ => False) w5 w', fun i _ => ys.length - i.toNat, ⟨0, rfl, Nat.zero_le _, .refl _ _⟩, ?_⟩
  rintro i w17 ⟨k, rfl, hk, hf17⟩
  refine ⟨fun hlt => ?_, fun hge => ?_⟩
  · have hlt := of_decide_eq_true hlt
    have hkl : k < ys.length := by omega
    have hx : ys[k]? = some ys[k] := List.getElem?_eq_getElem hkl
    generalize ys[k] = f at hx
    have hfm := List.mem_of_getElem? hx
    obtain ⟨hfp, hfd⟩ := hysz f hfm
    have ho17 := ho5.keep hf17 (by simp)
    obtain ⟨ad, had, hld⟩ := load_at ho17 hx
    refine ⟨⟨by omega, by omega⟩, ad, had, f.path, f.data, by rw [Int.toNat_natCast]; exact hld w17 (.refl _ _), fun w21 h21 => ?_⟩
    subst h21
    obtain ⟨w22, hw22⟩ : ∃ w22, w17.alloc (.cells (encF f).toArray T_api_File) = w22 := ⟨_, rfl⟩
    have hfb : Fr (fun _ => False) w17 w22 := by rw [← hw22]; exact .alloc _ _ _
    have hcell : ∀ w', Fr (fun _ => False) w22 w' → ∀ (j : Nat) v, (encF f)[j]? = some v → w'.cell? ⟨w17.heap.size, j, none⟩ = some v := fun w' hw' j v hv => by
      rw [← hw22] at hw'; exact boxF_cell w17 f hw' (by simp) hv
    have c0 := fun w' hw' => hcell w' hw' 0 (.string f.path) rfl
    have c1 := fun w' hw' => hcell w' hw' 1 (.string f.data) rfl
    refine ⟨w22, by rw [← hw22]; exact boxF_run w17 f, fun w' => Fr (fun _ => False) w22 w', ⟨fun hpos => ?_, fun _ w28 d28 => .drew _ d28⟩, ?_⟩
    · have hpos := of_decide_eq_true hpos
      obtain ⟨k1, rfl⟩ : ∃ m, k = m + 1 := ⟨k - 1, by omega⟩
      have hx1 : ys[k1]? = some ys[k1] := List.getElem?_eq_getElem (by omega)
      generalize ys[k1] = g at hx1
      have e1 : IntKind.i64.wrap (((k1 + 1 : Nat) : Int) - 1) = ((k1 : Nat) : Int) := by rw [wrap_i64 (by omega) (by omega)]; omega
      rw [e1]
      obtain ⟨ad', had', hrd⟩ := ((ho17.keep hfb (by simp)).reads fun _ => rfl) k1 g hx1
      have hrd0 := hrd 0 (.string g.path) rfl
      have hz0 : ∀ q : Addr, q.add 0 = q := fun q => by cases q; rfl
      rw [hz0] at hrd0
      refine ⟨⟨by omega, by omega⟩, ad', had', g.path, by rw [Int.toNat_natCast]; exact hrd0, f.path, c0 _ (.refl _ _), fun w27 d27 => ⟨fun h => ?_, fun _ => .drew _ d27⟩⟩
      have hst := chk_strict hs hc0 hx1 hx
      have hbl : Op.bytesLess g.path.toList f.path.toList = true := by
        rw [ByteArray.toList_eq, ByteArray.toList_eq, Proofs.bytesLess_eq, decide_eq_true hst]
      rw [hbl] at h
      cases h
    rintro w29 hf29
    have hfw29 : Fr (fun _ => False) w5 w29 := (hf17.trans' hfb).trans' hf29
    refine ⟨fun b i w' => ∃ j : Nat, i = j ∧ j ≤ zs.length ∧ b = (zs.take j).any (fromB s12 f) ∧ Fr (fun _ => False) w22 w', fun b i _ => zs.length - i.toNat, ⟨0, rfl, Nat.zero_le _, rfl, hf29⟩, ?_⟩
    rintro b i w34 ⟨j, rfl, hj, rfl, hf34⟩
    have hfw34 : Fr (fun _ => False) w5 w34 := (hf17.trans' hfb).trans' hf34
    refine ⟨fun hlt2 => ?_, fun hge2 => ?_⟩
    · have hlt2 := of_decide_eq_true hlt2
      have hjl : j < zs.length := by omega
      have hxz : zs[j]? = some zs[j] := List.getElem?_eq_getElem hjl
      have htk : zs.take (j + 1) = zs.take j ++ [zs[j]] := (List.take_append_getElem hjl).symm
      generalize zs[j] = x at hxz htk
      obtain ⟨ad2, had2, hld2⟩ := (((ho2'.keep hfw34 (by simp)).reads fun _ => rfl).load elI hxz)
      refine ⟨⟨by omega, by omega⟩, ad2, had2, x.path, x.mode, x.data, by rw [Int.toNat_natCast]; exact hld2, fun w39 h39 => ?_⟩
      subst h39
      obtain ⟨w40, hw40⟩ : ∃ w40, w34.alloc (.cells (encI x).toArray T_modzip_Item) = w40 := ⟨_, rfl⟩
      have hfb40 : Fr (fun _ => False) w34 w40 := by rw [← hw40]; exact .alloc _ _ _
      have hbb40 : w40.heap[w34.heap.size]? = some (.cells (encI x).toArray T_modzip_Item (0, 0)) := by rw [← hw40]; exact alloc_new _ _
      have hf40 := hf34.trans' hfb40
      have e1 : IntKind.i64.wrap ((j : Int) + 1) = ((j + 1 : Nat) : Int) := by rw [wrap_i64 (by omega) (by omega)]; omega
      rw [e1]
      have hstep : ∀ b' : Bool, b' = ((zs.take j).any (fromB s12 f) || fromB s12 f x) → (∃ j' : Nat, ((j + 1 : Nat) : Int) = j' ∧ j' ≤ zs.length ∧ b' = (zs.take j').any (fromB s12 f) ∧ Fr (fun _ => False) w22 w40) ∧ zs.length - ((j + 1 : Nat) : Int).toNat < zs.length - ((j : Int)).toNat := fun b' hb' => by
        refine ⟨⟨j + 1, rfl, by omega, ?_, hf40⟩, by omega⟩
        rw [htk, List.any_append, hb']; simp
      have p0 : w40.cell? ⟨w34.heap.size, 0, none⟩ = some (.string x.path) := by rw [cell_blk hbb40]; rfl
      have p2 : w40.cell? ⟨w34.heap.size, 2, none⟩ = some (.string x.data) := by rw [cell_blk hbb40]; rfl
      refine ⟨w40, by rw [← hw40]; exact boxI_run w34 x, fun h => hstep _ (by rw [h]; rfl), fun h => ⟨x.data, p2, f.data, c1 _ hf40, fun hd => ⟨x.path, p0, f.path, c0 _ hf40, ?_, fun hpq => hstep _ ?_, fun hpq => ⟨f.path, c0 _ hf40, fun hL => ⟨x.path, p0, hstep _ ?_⟩, fun hL => hstep _ ?_⟩⟩, fun hd => hstep _ ?_⟩⟩
      · omega
      · rw [bs_eq] at hd hpq
        unfold fromB
        rw [hd, hpq]; simp
      · rw [bs_eq] at hd hpq hL
        rw [h, bs_eq]
        unfold fromB
        rw [hd, hpq]
        rw [show decide (f.path = sLic) = true from hL]
        rfl
      · rw [bs_eq] at hd hpq hL
        rw [h]
        unfold fromB
        rw [hd, hpq]
        rw [show decide (f.path = sLic) = false from hL]
        rfl
      · rw [bs_eq] at hd
        rw [h]
        unfold fromB
        rw [hd]; rfl
    · have hge2 := of_decide_eq_false hge2
      have hj' : j = zs.length := by omega
      rw [hj', List.take_length, hfrom f hfm]
      refine ⟨fun i w' => ∃ q : Nat, i = q ∧ q ≤ f.path.size ∧ Fr (fun _ => False) w22 w', fun i _ => f.path.size - i.toNat, ⟨0, rfl, Nat.zero_le _, hf34⟩, ?_⟩
      rintro i w50 ⟨q, rfl, hq, hf50⟩
      have e2 : IntKind.i64.wrap ((q : Int) + 1) = ((q + 1 : Nat) : Int) := by rw [wrap_i64 (by omega) (by omega)]; omega
      rw [e2]
      refine ⟨f.path, c0 _ hf50, fun hlt3 => ?_, fun hge3 => ⟨fun h => (by cases h), fun _ => ?_⟩⟩
      · have hlt3 := of_decide_eq_true hlt3
        refine ⟨f.path, c0 _ hf50, ⟨by omega, by omega⟩, fun hne => ⟨⟨q + 1, rfl, by omega, hf50⟩, by dsimp only; omega⟩, fun h47 => ?_⟩
        rw [byteAt_nat] at h47
        have h47 : byt f.path q = 47 := by
          have : ((byt f.path q : Nat) : Int) = 47 := by simpa using h47
          omega
        obtain ⟨v1, v2, v3⟩ := hfold f hfm q (by omega) h47
        have hexs : (f.path.extract 0 (q + 1)).size = q + 1 := by rw [ByteArray.size_extract]; omega
        have hq1 : q + 1 ≤ f.path.size := by omega
        refine ⟨f.path, c0 _ hf50, ⟨by omega, by omega⟩, ?_⟩
        rw [Int.toNat_natCast]
        generalize f.path.extract 0 (q + 1) = fo at *
        refine ⟨fun w' => w' = w50, ⟨fun h => ?_, fun h => ⟨fun h8 => ?_, fun h8 => rfl⟩⟩, ?_⟩
        · rw [bs_eq] at h
          exact absurd (of_decide_eq_true h) v1
        · have h8 := of_decide_eq_true h8
          have e8 : IntKind.i64.wrap ((fo.size : Int) - 8) = ((q + 1 - 8 : Nat) : Int) := by rw [wrap_i64 (by omega) (by omega)]; omega
          rw [e8, Int.toNat_natCast, hexs]
          refine ⟨⟨by omega, by omega⟩, fun h => ?_, fun _ => rfl⟩
          rw [bs_eq] at h
          exact absurd (of_decide_eq_true h) (v2 (by omega))
        rintro w55 hw55
        replace hw55 := hw55.symm
        subst hw55
        refine ⟨fun i w' => ∃ j : Nat, i = j ∧ j ≤ zs.length ∧ Fr (fun _ => False) w22 w', fun i _ => zs.length - i.toNat, ⟨0, rfl, Nat.zero_le _, hf50⟩, ?_⟩
        rintro i w59 ⟨j, rfl, hj, hf59⟩
        refine ⟨fun hlt4 => ?_, fun _ => ⟨⟨q + 1, rfl, by omega, hf59⟩, by dsimp only; omega⟩⟩
        have hlt4 := of_decide_eq_true hlt4
        have hjl : j < zs.length := by omega
        have hxz : zs[j]? = some zs[j] := List.getElem?_eq_getElem hjl
        generalize zs[j] = x at hxz
        have hxm := List.mem_of_getElem? hxz
        obtain ⟨ad2, had2, hld2⟩ := (((ho2'.keep ((hf17.trans' hfb).trans' hf59) (by simp)).reads fun _ => rfl).load elI hxz)
        refine ⟨⟨by omega, by omega⟩, ad2, had2, x.path, x.mode, x.data, by rw [Int.toNat_natCast]; exact hld2, fun w64 h64 => ?_⟩
        subst h64
        obtain ⟨w65, hw65⟩ : ∃ w65, w59.alloc (.cells (encI x).toArray T_modzip_Item) = w65 := ⟨_, rfl⟩
        have hfb65 : Fr (fun _ => False) w59 w65 := by rw [← hw65]; exact .alloc _ _ _
        have hbb65 : w65.heap[w59.heap.size]? = some (.cells (encI x).toArray T_modzip_Item (0, 0)) := by rw [← hw65]; exact alloc_new _ _
        have p0 : w65.cell? ⟨w59.heap.size, 0, none⟩ = some (.string x.path) := by rw [cell_blk hbb65]; rfl
        have p1 : w65.cell? ⟨w59.heap.size, 1, none⟩ = some (.int .i64 x.mode) := by rw [cell_blk hbb65]; rfl
        have e1 : IntKind.i64.wrap ((j : Int) + 1) = ((j + 1 : Nat) : Int) := by rw [wrap_i64 (by omega) (by omega)]; omega
        rw [e1]
        have hnext : (∃ j' : Nat, ((j + 1 : Nat) : Int) = j' ∧ j' ≤ zs.length ∧ Fr (fun _ => False) w22 w65) ∧ zs.length - ((j + 1 : Nat) : Int).toNat < zs.length - ((j : Int)).toNat := ⟨⟨j + 1, rfl, by omega, hf59.trans' hfb65⟩, by omega⟩
        refine ⟨w65, by rw [← hw65]; exact boxI_run w59 x, x.path, p0, by omega, ?_, fun hpe => ⟨x.mode, p1, fun hm => ?_, fun hm => ⟨x.mode, p1, fun hm2 => ?_, fun hm2 => hnext⟩⟩, fun hpe => hnext⟩
        · rw [ByteArray.size_append]
          show _ + 6 ≤ _
          omega
        · rw [bs_eq] at hpe
          have hm : x.mode = 33188 := by simpa using hm
          exact absurd (of_decide_eq_true hpe) (v3 x hxm (by unfold plainI; rw [decide_eq_true hm]; rfl))
        · rw [bs_eq] at hpe
          have hm2 : x.mode = 33261 := by simpa using hm2
          exact absurd (of_decide_eq_true hpe) (v3 x hxm (by unfold plainI; rw [decide_eq_true hm2, Bool.or_true]))
      · have e1 : IntKind.i64.wrap ((k : Int) + 1) = ((k + 1 : Nat) : Int) := by rw [wrap_i64 (by omega) (by omega)]; omega
        rw [e1]
        exact ⟨⟨k + 1, rfl, by omega, (hf17.trans' hfb).trans' hf50⟩, by dsimp only; omega⟩
  · have hge := of_decide_eq_false hge
    refine (awake24_spec (hml.keep (hf5'.trans' hf17))).mono ?_
    rintro e w70 ⟨rfl, hf70⟩
    refine ⟨true, rfl, fun _ => ?_, fun h => (by cases h)⟩
    have ho70 := ho5.keep (hf17.trans' hf70) (by simp)
    refine (short09_spec (ho70.reads fun _ => rfl) ho70.1 ho70.cap 40 (by decide)).mono ?_
    rintro e w73 ⟨l74, rfl, ho73, hf73⟩
    refine ⟨l74, rfl, ?_, ((hf5'.trans' hf17).trans' hf70).trans' hf73⟩
    have h74 := ho73.len
    unfold shortF at h74
    rw [List.length_map, List.length_take] at h74
    congr 1
    have : ((l74.len : Int) == if 40 < (l6.len : Int) then 40 else (l6.len : Int)) = true := by
      rw [beq_iff_eq]
      split <;> omega
    exact this
end Go.Proofs.YtfoeooddnmppnaaDoor

/- Numbers as bytes, Adler's sum: in plain. No condition. -/
set_option linter.unusedVariables false
namespace SumM
/-- One byte more. -/
def adl1 (x : Nat × Nat) (c : UInt8) : Nat × Nat := ((x.1 + c.toNat) % 65521, (x.2 + (x.1 + c.toNat) % 65521) % 65521)
def adl (l : List UInt8) : Nat × Nat := l.foldl adl1 (1, 0)
/-- Adler's sum. -/
def adler (l : List UInt8) : Nat := 65536 * (adl l).2 + (adl l).1
theorem adl_snoc (l : List UInt8) (c : UInt8) : adl (l ++ [c]) = adl1 (adl l) c := by
  unfold adl; rw [List.foldl_append]; rfl
theorem adl_lt (l : List UInt8) : (adl l).1 < 65521 ∧ (adl l).2 < 65521 := by
  rcases List.eq_nil_or_concat l with rfl | ⟨r, c, rfl⟩
  · decide
  · rw [List.concat_eq_append, adl_snoc]
    exact ⟨Nat.mod_lt _ (by decide), Nat.mod_lt _ (by decide)⟩
theorem adler_lt (l : List UInt8) : adler l < 4294967296 := by
  have := adl_lt l
  unfold adler; omega
/-- The highest first, of n bytes. -/
def bigB (n x : Nat) : List UInt8 := (List.range n).map fun i => UInt8.ofNat (x / 256 ^ (n - 1 - i))
/-- The lowest first. -/
def littleB (n x : Nat) : List UInt8 := (List.range n).map fun i => UInt8.ofNat (x / 256 ^ i)
theorem bigB_length (n x : Nat) : (bigB n x).length = n := by simp [bigB]
theorem littleB_length (n x : Nat) : (littleB n x).length = n := by simp [littleB]
theorem littleB_succ (n x : Nat) : littleB (n + 1) x = littleB n x ++ [UInt8.ofNat (x / 256 ^ n)] := by
  unfold littleB; rw [List.range_succ, List.map_append]; rfl
theorem big_little (n x : Nat) : (littleB n x).reverse = bigB n x := by
  refine List.ext_getElem (by simp [bigB, littleB]) fun k h1 h2 => ?_
  rw [bigB_length] at h2
  simp only [List.getElem_reverse, littleB, bigB, List.getElem_map, List.getElem_range, List.length_map, List.length_range]
/-- The number of bytes, the highest first. -/
def num8 (l : List UInt8) : Nat := l.foldl (fun x c => 256 * x + c.toNat) 0
theorem num8_snoc (l : List UInt8) (c : UInt8) : num8 (l ++ [c]) = 256 * num8 l + c.toNat := by
  unfold num8; rw [List.foldl_append]; rfl
theorem num8_lt : ∀ (n : Nat) (l : List UInt8), l.length = n → num8 l < 256 ^ n
  | 0, l, h => by
    have : l = [] := List.length_eq_zero_iff.1 h
    subst this; decide
  | n + 1, l, h => by
    rcases List.eq_nil_or_concat l with rfl | ⟨r, c, rfl⟩
    · cases h
    · rw [List.concat_eq_append] at h ⊢
      rw [List.length_append, List.length_singleton] at h
      have h1 := num8_lt n r (by omega)
      have h2 := c.toNat_lt
      rw [num8_snoc, Nat.pow_succ]
      omega
theorem ofNat_eq {x y : Nat} (h : x % 256 = y % 256) : UInt8.ofNat x = UInt8.ofNat y := by
  rw [← UInt8.toNat_inj]; simpa using h
theorem bigB_succ (n x : Nat) : bigB (n + 1) x = bigB n (x / 256) ++ [UInt8.ofNat x] := by
  unfold bigB
  rw [List.range_succ, List.map_append]
  congr 1
  · refine List.map_congr_left fun i hi => ?_
    have hi := List.mem_range.1 hi
    rw [Nat.div_div_eq_div_mul, show n + 1 - 1 - i = (n - 1 - i) + 1 by omega, Nat.pow_succ, Nat.mul_comm]
  · simp
/-- A number of so many bytes says these bytes. -/
theorem bigB_num8 : ∀ (n : Nat) (l : List UInt8), l.length = n → bigB n (num8 l) = l
  | 0, l, h => by
    have : l = [] := List.length_eq_zero_iff.1 h
    subst this; rfl
  | n + 1, l, h => by
    rcases List.eq_nil_or_concat l with rfl | ⟨r, c, rfl⟩
    · cases h
    · rw [List.concat_eq_append] at h ⊢
      rw [List.length_append, List.length_singleton] at h
      have h2 := c.toNat_lt
      rw [num8_snoc, bigB_succ, show (256 * num8 r + c.toNat) / 256 = num8 r by omega, bigB_num8 n r (by omega)]
      congr 2
      rw [← UInt8.toNat_inj]
      simp
theorem num8_bigB : ∀ (n x : Nat), x < 256 ^ n → num8 (bigB n x) = x
  | 0, x, h => by have : x = 0 := by simpa using h
                  subst this; rfl
  | n + 1, x, h => by
    rw [Nat.pow_succ] at h
    rw [bigB_succ, num8_snoc, num8_bigB n (x / 256) (by omega)]
    simp; omega
end SumM
namespace Go.Proofs.YtfoeooddnmppnaaDoor
open Go Vc SumM Go.Proofs

theorem take_byt (s : ByteArray) {n : Nat} (h : n < s.size) : s.data.toList.take (n + 1) = s.data.toList.take n ++ [UInt8.ofNat (byt s n)] := by
  have hlt : n < s.data.toList.length := by simp only [Array.length_toList]; exact h
  have hb : byt s n = (s.data.toList[n]).toNat := by unfold byt; rw [List.getElem?_eq_getElem hlt]; rfl
  rw [List.take_succ_eq_append_getElem hlt, hb, UInt8.ofNat_toNat]
theorem take_size (s : ByteArray) : s.data.toList.take s.size = s.data.toList := List.take_of_length_le (by simp)
theorem toNat_byt (s : ByteArray) (n : Nat) : (UInt8.ofNat (byt s n)).toNat = byt s n := by
  have := byt_lt s n
  simp; omega
theorem byteV_wrap (l : List UInt8) (z : Int) (hz : 0 ≤ z) : byteV l ++ [.int .u8 (IntKind.u8.wrap z)] = byteV (l ++ [UInt8.ofNat z.toNat]) := by
  obtain ⟨x, rfl⟩ := Int.eq_ofNat_of_zero_le hz
  rw [wrap_u8_mod, show ((x : Int) % 256) = ((x % 256 : Nat) : Int) by omega, byteV_snoc l (x % 256) (Nat.mod_lt _ (by decide)), Int.toNat_natCast, ofNat_eq (Nat.mod_mod _ _)]
theorem shift_byte (x k : Nat) : Int.fdiv (x : Int) (2 ^ min (((8 * k : Nat) : Int)).toNat 64) = (if k ≤ 8 then ((x / 256 ^ k : Nat) : Int) else ((x / 2 ^ 64 : Nat) : Int)) := by
  have hc : ∀ j : Nat, (2 : Int) ^ j = ((2 ^ j : Nat) : Int) := fun j => by push_cast; rfl
  split
  · rw [show min (((8 * k : Nat) : Int)).toNat 64 = 8 * k by omega, hc, Int.fdiv_eq_ediv_of_nonneg _ (Int.natCast_nonneg _), ← Int.natCast_ediv, Nat.pow_mul]
  · rw [show min (((8 * k : Nat) : Int)).toNat 64 = 64 by omega, hc, Int.fdiv_eq_ediv_of_nonneg _ (Int.natCast_nonneg _), ← Int.natCast_ediv]
theorem bigB_get {n x i : Nat} (h : i < n) : (bigB n x).take (i + 1) = (bigB n x).take i ++ [UInt8.ofNat (x / 256 ^ (n - 1 - i))] := by
  rw [List.take_succ_eq_append_getElem (by rw [bigB_length]; exact h)]
  simp [bigB]
theorem pow_big {x k : Nat} (hx : x < 18446744073709551616) (h : 8 ≤ k) : x / 256 ^ k = 0 := by
  refine Nat.div_eq_of_lt ?_
  have : 256 ^ 8 ≤ 256 ^ k := Nat.pow_le_pow_right (by decide) h
  omega
theorem littleB_get {n x i : Nat} (h : i < n) : (littleB n x).take (i + 1) = (littleB n x).take i ++ [UInt8.ofNat (x / 256 ^ i)] := by
  rw [List.take_succ_eq_append_getElem (by rw [littleB_length]; exact h)]
  simp [littleB]
end Go.Proofs.YtfoeooddnmppnaaDoor

/- Formulas of 3 Go functions of this seat (written by a program of the author's, vcgen.py), and that each is enough for the call. No condition. -/
set_option linter.unusedVariables false
namespace Go.Proofs.YtfoeooddnmppnaaDoor
open Go Vc Go.Proofs
set_option maxRecDepth 100000
/-- (*sums.Crc).Write -/
def vc_sums_Crc_Write (x0 : Nat) (x1 : ByteArray) (w : World) (R : Value → World → Prop) : Prop :=
  ∃ n1 : Int, (World.cell? w (Addr.mk x0 0 none) = some (Value.int IntKind.u32 n1) ∧
   ∃ I2 : Int → Int → World → Prop, ∃ I3 : Int → Int → World → Nat, ((I2 (IntKind.wrap IntKind.u32 (↑(BitVec.toNat (BitVec.ofInt 32 (if IntKind.signed IntKind.u32 = true then -1 else Int.ofNat (2 ^ 32 - Nat.succ 0)) ^^^ BitVec.ofInt 32 n1)) : Int)) 0 w) ∧
    ∀ n4 : Int,
    ∀ n5 : Int,
    ∀ w6 : World,
    (I2 n4 n5 w6 →
      (((decide (n5 < (↑(ByteArray.size x1) : Int)) = true →
         ((0 ≤ n5 ∧
           n5 < (↑(ByteArray.size x1) : Int)) ∧
          ∃ I7 : Int → Int → World → Prop, ∃ I8 : Int → Int → World → Nat, (I7 (IntKind.wrap IntKind.u32 (↑(BitVec.toNat (BitVec.ofInt 32 n4 ^^^ BitVec.ofInt 32 (IntKind.wrap IntKind.u32 (byteAt x1 n5)))) : Int)) 0 w6 ∧
           ∀ n9 : Int,
           ∀ n10 : Int,
           ∀ w11 : World,
           (I7 n9 n10 w11 →
             (((decide (n10 < 8) = true →
                ((0 : Int) ≤ (1 : Int) ∧
                 (I7 (IntKind.wrap IntKind.u32 (↑(BitVec.toNat (BitVec.ofInt 32 (Int.fdiv n9 (2 ^ min (Int.toNat 1) 32)) ^^^ BitVec.ofInt 32 (IntKind.wrap IntKind.u32 (↑(BitVec.toNat (BitVec.ofInt 32 3988292384 &&& BitVec.ofInt 32 (IntKind.wrap IntKind.u32 (0 - IntKind.wrap IntKind.u32 (↑(BitVec.toNat (BitVec.ofInt 32 n9 &&& BitVec.ofInt 32 1)) : Int))))) : Int)))) : Int)) (IntKind.wrap IntKind.i64 (n10 + 1)) w11 ∧
                  I8 (IntKind.wrap IntKind.u32 (↑(BitVec.toNat (BitVec.ofInt 32 (Int.fdiv n9 (2 ^ min (Int.toNat 1) 32)) ^^^ BitVec.ofInt 32 (IntKind.wrap IntKind.u32 (↑(BitVec.toNat (BitVec.ofInt 32 3988292384 &&& BitVec.ofInt 32 (IntKind.wrap IntKind.u32 (0 - IntKind.wrap IntKind.u32 (↑(BitVec.toNat (BitVec.ofInt 32 n9 &&& BitVec.ofInt 32 1)) : Int))))) : Int)))) : Int)) (IntKind.wrap IntKind.i64 (n10 + 1)) w11 < I8 n9 n10 w11)))) ∧
              (decide (n10 < 8) = false →
                (I2 n9 (IntKind.wrap IntKind.i64 (n5 + 1)) w11 ∧
                 I3 n9 (IntKind.wrap IntKind.i64 (n5 + 1)) w11 < I3 n4 n5 w6)))))))) ∧
       (decide (n5 < (↑(ByteArray.size x1) : Int)) = false →
         (Wr w6 (Addr.mk x0 0 none) ∧
          ∀ w12 : World,
          ((w12 = World.setCell w6 (Addr.mk x0 0 none) (Value.int IntKind.u32 (IntKind.wrap IntKind.u32 (↑(BitVec.toNat (BitVec.ofInt 32 (if IntKind.signed IntKind.u32 = true then -1 else Int.ofNat (2 ^ 32 - Nat.succ 0)) ^^^ BitVec.ofInt 32 n4)) : Int)))) →
            R (Value.tuple (Array.mk [])) w12)))))))
theorem vc_sums_Crc_Write_ok {x0 : Nat} {x1 : ByteArray} {w : World} {R : Value → World → Prop} {R' : Ending → World → Prop} (h : vc_sums_Crc_Write x0 x1 w R) (hR : ∀ v w', R v w' → R' (.returned v) w') :
    Calls Tryd.prog 86 #[.pointer (some ⟨x0, 0, none⟩), .string x1] w R' :=
  calls_of_body (vs := [(.pointer (some ⟨x0, 0, none⟩), true), (.string x1, false)]) (ty := ty) (ann := ⟨[], [(2, [(4, .int .u32), (13, .int .i64)]), (6, [(4, .int .u32), (22, .int .i64)])], [], []⟩) (c := Tryd.f86.body.getD .skip) (by kernel_rfl) Tryd.func86 (by kernel_rfl) (by kernel_rfl) (Eq.mp (by kernel_rfl) h) hR
/-- (*sums.Crc).Sum -/
def vc_sums_Crc_Sum (x0 : Nat) (w : World) (R : Value → World → Prop) : Prop :=
  ∃ n1 : Int, (World.cell? w (Addr.mk x0 0 none) = some (Value.int IntKind.u32 n1) ∧
   R (Value.int IntKind.u32 n1) w)
theorem vc_sums_Crc_Sum_ok {x0 : Nat} {w : World} {R : Value → World → Prop} {R' : Ending → World → Prop} (h : vc_sums_Crc_Sum x0 w R) (hR : ∀ v w', R v w' → R' (.returned v) w') :
    Calls Tryd.prog 87 #[.pointer (some ⟨x0, 0, none⟩)] w R' :=
  calls_of_body (vs := [(.pointer (some ⟨x0, 0, none⟩), true)]) (ty := ty) (ann := ⟨[], [], [], []⟩) (c := Tryd.f87.body.getD .skip) (by kernel_rfl) Tryd.func87 (by kernel_rfl) (by kernel_rfl) (Eq.mp (by kernel_rfl) h) hR
/-- sums.Crc32 -/
def vc_sums_Crc32 (x0 : ByteArray) (w : World) (R : Value → World → Prop) : Prop :=
  ∀ w1 : World,
  (w1 = World.alloc w (Obj.cells (Array.mk [Value.int IntKind.u32 0]) 119) →
    Calls Tryd.prog (86 : Nat) (Array.mk [Value.pointer (some (Addr.mk (Array.size (World.heap w)) 0 none)), Value.string x0]) (w1) (fun e2 w3 =>
      (e2 = Ending.returned (Value.tuple (Array.mk [])) ∧
       Calls Tryd.prog (87 : Nat) (Array.mk [Value.pointer (some (Addr.mk (Array.size (World.heap w)) 0 none))]) (w3) (fun e4 w5 =>
         ∃ n6 : Int, (e4 = Ending.returned (Value.int IntKind.u32 n6) ∧
          R (Value.int IntKind.u32 n6) w5)))))
theorem vc_sums_Crc32_ok {x0 : ByteArray} {w : World} {R : Value → World → Prop} {R' : Ending → World → Prop} (h : vc_sums_Crc32 x0 w R) (hR : ∀ v w', R v w' → R' (.returned v) w') :
    Calls Tryd.prog 33 #[.string x0] w R' :=
  calls_of_body (vs := [(.string x0, false)]) (ty := ty) (ann := ⟨[], [], [], []⟩) (c := Tryd.f33.body.getD .skip) (by kernel_rfl) Tryd.func33 (by kernel_rfl) (by kernel_rfl) (Eq.mp (by kernel_rfl) h) hR
end Go.Proofs.YtfoeooddnmppnaaDoor

/- sums.Crc32, as a function on words. No condition. -/
set_option linter.unusedVariables false
namespace Go.Proofs.YtfoeooddnmppnaaDoor
open Go Vc Go.Proofs

def crcBit (c : BitVec 32) : BitVec 32 := (c >>> 1) ^^^ (3988292384#32 &&& (0 - (c &&& 1#32)))
def crcBits : Nat → BitVec 32 → BitVec 32
  | 0, c => c
  | n + 1, c => crcBit (crcBits n c)
def crcByte (c : BitVec 32) (b : UInt8) : BitVec 32 := crcBits 8 (c ^^^ BitVec.ofInt 32 ((b.toNat : Nat) : Int))
def crcRun (l : List UInt8) : BitVec 32 := l.foldl crcByte (BitVec.allOnes 32 ^^^ 0#32)
/-- The cyclic sum. -/
def crcW (l : List UInt8) : BitVec 32 := BitVec.allOnes 32 ^^^ crcRun l
theorem u_neg (x : BitVec 32) : IntKind.u32.wrap (0 - (x.toNat : Int)) = ((0 - x).toNat : Int) := by
  have := x.isLt
  rw [wrap_u32_mod, BitVec.toNat_sub]
  show (0 - (x.toNat : Int)) % 4294967296 = (((4294967296 - x.toNat + 0) % 4294967296 : Nat) : Int)
  omega
theorem crcBit_int (c : BitVec 32) : IntKind.u32.wrap (BitVec.toNat (BitVec.ofInt 32 (Int.fdiv (c.toNat : Int) (2 ^ min (Int.toNat 1) 32)) ^^^ BitVec.ofInt 32 (IntKind.u32.wrap (BitVec.toNat (BitVec.ofInt 32 3988292384 &&& BitVec.ofInt 32 (IntKind.u32.wrap (0 - IntKind.u32.wrap (BitVec.toNat (BitVec.ofInt 32 (c.toNat : Int) &&& BitVec.ofInt 32 1) : Int)))) : Int))) : Int) = ((crcBit c).toNat : Int) := by
  have h1 : Int.toNat 1 = 1 := rfl
  have e1 : BitVec.ofInt 32 1 = 1#32 := rfl
  have e2 : BitVec.ofInt 32 3988292384 = 3988292384#32 := rfl
  rw [h1, u_shr c 1 (by decide), u_of, u_of, e1, e2, u_wrap (c &&& 1#32), u_neg, u_of, u_wrap (3988292384#32 &&& (0 - (c &&& 1#32))), u_of, u_wrap]
  rfl
theorem ones_not : BitVec.ofInt 32 (if IntKind.signed IntKind.u32 = true then -1 else Int.ofNat (2 ^ 32 - Nat.succ 0)) = BitVec.allOnes 32 := by decide
theorem crcWrite_spec {w : World} {b : Nat} {T : TypeId} (hb : w.heap[b]? = some (.cells #[.int .u32 0] T (0, 0))) (s : ByteArray) (hs : s.size ≤ 140737488355328) : Calls Tryd.prog F_sums_Crc_Write #[.pointer (some ⟨b, 0, none⟩), .string s] w fun e w' =>
    e = .returned (.tuple #[]) ∧ w' = w.setCell ⟨b, 0, none⟩ (.int .u32 ((crcW s.data.toList).toNat : Int)) := by
  refine vc_sums_Crc_Write_ok (R := fun v w' => v = .tuple #[] ∧ w' = w.setCell ⟨b, 0, none⟩ (.int .u32 ((crcW s.data.toList).toNat : Int))) ?_ (fun v w' h => ⟨by rw [h.1], h.2⟩)
  obtain ⟨L, hL⟩ : ∃ L, s.data.toList = L := ⟨_, rfl⟩
  have hLl : L.length = s.size := by rw [← hL, bs_len]
  have e0 : BitVec.ofInt 32 0 = 0#32 := rfl
  refine ⟨0, by rw [cell_blk hb]; rfl, fun c i w' => ∃ k : Nat, i = k ∧ k ≤ L.length ∧ c = ((crcRun (L.take k)).toNat : Int) ∧ w' = w, fun _ i _ => L.length - i.toNat, ⟨0, rfl, Nat.zero_le _, by rw [ones_not, e0, u_wrap]; rfl, rfl⟩, ?_⟩
  rintro c i w6 ⟨k, rfl, hk, rfl, hw⟩
  subst hw
  refine ⟨fun hlt => ?_, fun hge => ?_⟩
  · have hlt := of_decide_eq_true hlt
    have hkl : k < L.length := by omega
    have htk : L.take (k + 1) = L.take k ++ [L[k]] := (List.take_append_getElem hkl).symm
    have hbk : byteAt s (k : Int) = (((L[k]).toNat : Nat) : Int) := by
      rw [byteAt_nat, bs_byt (by omega)]
      have : s.data.toList[k]? = some L[k] := by rw [hL]; exact List.getElem?_eq_getElem hkl
      rw [List.getElem?_eq_getElem (by rw [bs_len]; omega)] at this
      rw [Option.some.inj this]
    generalize L[k] = x at htk hbk
    have hx := UInt8.toNat_lt x
    have e1 : IntKind.i64.wrap ((k : Int) + 1) = ((k + 1 : Nat) : Int) := by rw [wrap_i64 (by omega) (by omega)]; omega
    rw [hbk, e1, wrap_u32 (x := ((x.toNat : Nat) : Int)) (by omega) (by omega), u_of, u_wrap]
    refine ⟨⟨by omega, by omega⟩, fun c j w' => ∃ q : Nat, j = q ∧ q ≤ 8 ∧ c = ((crcBits q (crcRun (L.take k) ^^^ BitVec.ofInt 32 ((x.toNat : Nat) : Int))).toNat : Int) ∧ w' = w6, fun _ j _ => 8 - j.toNat, ⟨0, rfl, by decide, rfl, rfl⟩, ?_⟩
    rintro c j w11 ⟨q, rfl, hq, rfl, hw⟩
    subst hw
    have e2 : IntKind.i64.wrap ((q : Int) + 1) = ((q + 1 : Nat) : Int) := by rw [wrap_i64 (by omega) (by omega)]; omega
    rw [crcBit_int, e2]
    refine ⟨fun hlt8 => ⟨by decide, ⟨q + 1, rfl, by have := of_decide_eq_true hlt8; omega, rfl, rfl⟩, by have := of_decide_eq_true hlt8; dsimp only; omega⟩, fun hge8 => ?_⟩
    have hq8 : q = 8 := by have := of_decide_eq_false hge8; omega
    subst hq8
    refine ⟨⟨k + 1, rfl, by omega, ?_, rfl⟩, by dsimp only; omega⟩
    rw [htk]
    unfold crcRun
    rw [List.foldl_append]
    rfl
  · have hge := of_decide_eq_false hge
    have hk' : k = L.length := by omega
    rw [hk', List.take_length]
    refine ⟨wr_blk hb (by simp), fun w12 h12 => ⟨rfl, ?_⟩⟩
    rw [ones_not, u_of, u_wrap] at h12
    rw [h12, hL]; rfl
theorem crc32_spec (s : ByteArray) (hs : s.size ≤ 140737488355328) (w : World) : Calls Tryd.prog F_sums_Crc32 #[.string s] w fun e w' => e = .returned (.int .u32 ((crcW s.data.toList).toNat : Int)) ∧ Fr (fun _ => False) w w' := by
  refine vc_sums_Crc32_ok (R := fun v w' => v = .int .u32 ((crcW s.data.toList).toNat : Int) ∧ Fr (fun _ => False) w w') ?_ (fun v w' h => ⟨by rw [h.1], h.2⟩)
  intro w1 h1
  have hf1 : Fr (fun _ => False) w w1 := by rw [h1]; exact .alloc _ _ _
  have hb1 : w1.heap[w.heap.size]? = some (.cells #[.int .u32 0] T_sums_Crc (0, 0)) := by rw [h1]; exact alloc_new _ _
  refine (crcWrite_spec hb1 s hs).mono ?_
  rintro e w3 ⟨rfl, rfl⟩
  refine ⟨rfl, ?_⟩
  have hb3 := set_blk hb1 0 (.int .u32 ((crcW s.data.toList).toNat : Int))
  have hf3 : Fr (fun _ => False) w (w1.setCell ⟨w.heap.size, 0, none⟩ (.int .u32 ((crcW s.data.toList).toNat : Int))) := hf1.trans (Fr.set (· = w.heap.size) _ _ rfl) fun q hq e => by omega
  refine Calls.mono (R := fun e w' => e = .returned (.int .u32 ((crcW s.data.toList).toNat : Int)) ∧ w' = w1.setCell ⟨w.heap.size, 0, none⟩ (.int .u32 ((crcW s.data.toList).toNat : Int))) (vc_sums_Crc_Sum_ok (R := fun v w' => v = .int .u32 ((crcW s.data.toList).toNat : Int) ∧ w' = w1.setCell ⟨w.heap.size, 0, none⟩ (.int .u32 ((crcW s.data.toList).toNat : Int))) ?_ (fun v w' h => ⟨by rw [h.1], h.2⟩)) ?_
  · exact ⟨_, by rw [cell_blk hb3]; rfl, rfl, rfl⟩
  · rintro e w5 ⟨rfl, rfl⟩
    exact ⟨_, rfl, rfl, hf3⟩
end Go.Proofs.YtfoeooddnmppnaaDoor

/- An archive of stored files, in plain. No condition. -/
set_option linter.unusedVariables false
namespace Go.Proofs.YtfoeooddnmppnaaDoor
open Go Vc SumM Go.Proofs

/-- Is a file right behind the one ahead of it? -/
def okZ (ys : List FileE) (i : Nat) : Bool := match ys[i]? with
  | some y => cleanB y.path && (decide (i = 0) || match ys[i - 1]? with
    | some x => decide (x.path.data.toList < y.path.data.toList)
    | none => true)
  | none => true
def zchk (ys : List FileE) : Int := if 600 < ys.length ∨ 1048576 < totalF ys then 2 else if (List.range ys.length).all (okZ ys) = true then 0 else 4
/-- What local and central head say alike. -/
def factsL (method crc packed size name : Nat) : List UInt8 := littleB 2 20 ++ (littleB 2 0 ++ (littleB 2 method ++ (littleB 2 0 ++ (littleB 2 0 ++ (littleB 4 crc ++ (littleB 4 packed ++ (littleB 4 size ++ (littleB 2 name ++ littleB 2 0))))))))
theorem factsL_len (a b c d e : Nat) : (factsL a b c d e).length = 26 := by
  unfold factsL
  simp only [List.length_append, littleB_length]
def factF (f : FileE) : List UInt8 := factsL 0 (crcW f.data.data.toList).toNat f.data.size f.data.size f.path.size
def locL (f : FileE) : List UInt8 := [80, 75, 3, 4] ++ (factF f ++ (f.path.data.toList ++ f.data.data.toList))
def cenL (f : FileE) (off : Nat) : List UInt8 := [80, 75, 1, 2] ++ (littleB 2 20 ++ (factF f ++ (littleB 2 0 ++ (littleB 2 0 ++ (littleB 2 0 ++ (littleB 4 0 ++ (littleB 4 off ++ f.path.data.toList)))))))
def outL (ys : List FileE) : List UInt8 := ys.flatMap locL
def idxL : Nat → List FileE → List UInt8
  | _, [] => []
  | off, f :: r => cenL f off ++ idxL (off + (locL f).length) r
def endL (n ni no : Nat) : List UInt8 := [80, 75, 5, 6] ++ (littleB 2 0 ++ (littleB 2 0 ++ (littleB 2 n ++ (littleB 2 n ++ (littleB 4 ni ++ (littleB 4 no ++ littleB 2 0))))))
def zipL (ys : List FileE) : List UInt8 := outL ys ++ (idxL 0 ys ++ endL ys.length (idxL 0 ys).length (outL ys).length)
theorem locL_len (f : FileE) : (locL f).length = 30 + f.path.size + f.data.size := by
  unfold locL factF
  simp only [List.length_append, factsL_len, bs_len, List.length_cons, List.length_nil]; omega
theorem cenL_len (f : FileE) (off : Nat) : (cenL f off).length = 46 + f.path.size := by
  unfold cenL factF
  simp only [List.length_append, factsL_len, littleB_length, bs_len, List.length_cons, List.length_nil]; omega
theorem outL_snoc (ys : List FileE) (f : FileE) : outL (ys ++ [f]) = outL ys ++ locL f := by unfold outL; rw [List.flatMap_append]; simp
theorem idxL_snoc (f : FileE) : ∀ (off : Nat) (ys : List FileE), idxL off (ys ++ [f]) = idxL off ys ++ cenL f (off + (outL ys).length)
  | off, [] => by simp [idxL, outL]
  | off, y :: r => by
    rw [List.cons_append, idxL, idxL, idxL_snoc f _ r]
    unfold outL
    rw [List.flatMap_cons, List.length_append, ← List.append_assoc, Nat.add_assoc]
theorem outL_len {B : Nat} : ∀ ys : List FileE, (∀ y ∈ ys, y.path.size ≤ B) → (outL ys).length ≤ ys.length * (30 + B) + totalF ys
  | [], _ => Nat.zero_le _
  | y :: r, h => by
    have ih := outL_len r fun z hz => h z (List.mem_cons_of_mem _ hz)
    have h1 := h y List.mem_cons_self
    unfold outL totalF at *
    rw [List.flatMap_cons, List.length_append, locL_len, List.length_cons, Nat.succ_mul, List.map_cons, List.sum_cons]; omega
theorem idxL_len {B : Nat} : ∀ (off : Nat) (ys : List FileE), (∀ y ∈ ys, y.path.size ≤ B) → (idxL off ys).length ≤ ys.length * (46 + B)
  | _, [], _ => Nat.zero_le _
  | off, y :: r, h => by
    have ih := idxL_len (off + (locL y).length) r fun z hz => h z (List.mem_cons_of_mem _ hz)
    have h1 := h y List.mem_cons_self
    rw [idxL, List.length_append, cenL_len, List.length_cons, Nat.succ_mul]; omega
theorem zchk_ok {ys : List FileE} (h : zchk ys = 0) : ys.length ≤ 600 ∧ totalF ys ≤ 1048576 ∧ (∀ y ∈ ys, cleanB y.path = true) := by
  unfold zchk at h
  split at h
  · cases h
  · next h1 =>
    split at h
    · next h2 =>
      refine ⟨by omega, by omega, fun y hy => ?_⟩
      obtain ⟨i, hi, e⟩ := List.getElem_of_mem hy
      have := List.all_eq_true.1 h2 i (List.mem_range.2 hi)
      unfold okZ at this
      rw [List.getElem?_eq_getElem hi, e] at this
      simp only [Bool.and_eq_true] at this
      exact this.1
    · cases h
end Go.Proofs.YtfoeooddnmppnaaDoor

/- Formulas of 1 Go functions of this seat (written by a program of the author's, vcgen.py), and that each is enough for the call. No condition. -/
set_option linter.unusedVariables false
namespace Go.Proofs.YtfoeooddnmppnaaDoor
open Go Vc Go.Proofs
set_option maxRecDepth 100000
/-- sums.Little -/
def vc_sums_Little (x0 : Int) (x1 : Int) (w : World) (R : Value → World → Prop) : Prop :=
  ∃ I1 : Sl → Int → World → Prop, ∃ I2 : Sl → Int → World → Nat, (I1 (Sl.mk none 0 0) 0 w ∧
   ∀ l3 : Sl,
   ∀ n4 : Int,
   ∀ w5 : World,
   (I1 l3 n4 w5 →
     ((((decide (n4 < if 0 > x1 then 0 else x1) = true) →
        (((decide (n4 ≥ 8) = true →
           ∀ w6 : World,
           (w6 = World.alloc w5 (Obj.cells (Array.mk [Value.int IntKind.u8 0]) 5) →
             ∃ w7 : World, ∃ l8 : Sl, (Sem.run Tryd.prog (Builtin.append_ (Array.mk [35, 35]) 35 (Array.mk [Value.slice l3.1 l3.2 l3.3, Value.slice (some (Addr.mk (Array.size (World.heap w5)) 0 none)) 1 1])) w6 = Result.ok (Value.slice l8.1 l8.2 l8.3) w7 ∧
              (I1 (Sl.mk l8.1 l8.2 l8.3) (IntKind.wrap IntKind.i64 (n4 + 1)) w7 ∧
               I2 (Sl.mk l8.1 l8.2 l8.3) (IntKind.wrap IntKind.i64 (n4 + 1)) w7 < I2 l3 n4 w5))))) ∧
         (decide (n4 ≥ 8) = false →
           (0 ≤ IntKind.wrap IntKind.i64 (8 * n4) ∧
            ∀ w9 : World,
            (w9 = World.alloc w5 (Obj.cells (Array.mk [Value.int IntKind.u8 (IntKind.wrap IntKind.u8 (Int.fdiv x0 (2 ^ min (Int.toNat (IntKind.wrap IntKind.i64 (8 * n4))) 64)))]) 5) →
              ∃ w10 : World, ∃ l11 : Sl, (Sem.run Tryd.prog (Builtin.append_ (Array.mk [35, 35]) 35 (Array.mk [Value.slice l3.1 l3.2 l3.3, Value.slice (some (Addr.mk (Array.size (World.heap w5)) 0 none)) 1 1])) w9 = Result.ok (Value.slice l11.1 l11.2 l11.3) w10 ∧
               (I1 (Sl.mk l11.1 l11.2 l11.3) (IntKind.wrap IntKind.i64 (n4 + 1)) w10 ∧
                I2 (Sl.mk l11.1 l11.2 l11.3) (IntKind.wrap IntKind.i64 (n4 + 1)) w10 < I2 l3 n4 w5)))))))) ∧
      ((decide (n4 < if 0 > x1 then 0 else x1) = false) →
        ∃ w12 : World, ∃ s13 : ByteArray, (Sem.run Tryd.prog (convert 35 9 (Value.slice l3.1 l3.2 l3.3)) w5 = Result.ok (Value.string s13) w12 ∧
         R (Value.string s13) w12)))))
theorem vc_sums_Little_ok {x0 : Int} {x1 : Int} {w : World} {R : Value → World → Prop} {R' : Ending → World → Prop} (h : vc_sums_Little x0 x1 w R) (hR : ∀ v w', R v w' → R' (.returned v) w') :
    Calls Tryd.prog 88 #[.int .u64 x0, .int .i64 x1] w R' :=
  calls_of_body (vs := [(.int .u64 x0, false), (.int .i64 x1, false)]) (ty := ty) (ann := ⟨[], [(3, [(5, .slice), (9, .int .i64)])], [], []⟩) (c := Tryd.f88.body.getD .skip) (by kernel_rfl) Tryd.func88 (by kernel_rfl) (by kernel_rfl) (Eq.mp (by kernel_rfl) h) hR
end Go.Proofs.YtfoeooddnmppnaaDoor

/- Little. Conditions: the numbers are within their kinds. -/
set_option linter.unusedVariables false
namespace Go.Proofs.YtfoeooddnmppnaaDoor
open Go Vc SumM Go.Proofs

/-- 'Little'. -/
theorem littleS_spec (x n : Nat) (hx : x < 18446744073709551616) (hn : n ≤ 1000) (w : World) :
    Calls Tryd.prog F_sums_Little #[.int .u64 (x : Int), .int .i64 (n : Int)] w fun e w' => e = .returned (.string ⟨(littleB n x).toArray⟩) ∧ Fr (fun _ => False) w w' := by
  refine vc_sums_Little_ok (R := fun v w' => v = .string ⟨(littleB n x).toArray⟩ ∧ Fr (fun _ => False) w w') ?_ (fun v w' h => ⟨by rw [h.1], h.2⟩)
  have hlim : (if (0 : Int) > (n : Int) then 0 else (n : Int)) = (n : Int) := by rw [if_neg (by omega)]
  refine ⟨fun l i w' => ∃ k : Nat, i = (k : Int) ∧ k ≤ n ∧ Vc.Own w' w.heap.size T_uint8 l (byteV ((littleB n x).take k)) ∧ Fr (fun _ => False) w w', fun l i w' => n - i.toNat, ⟨0, rfl, Nat.zero_le _, .nil _ _ _, .refl _ _⟩, ?_⟩
  rintro l3 i w5 ⟨k, rfl, hk, ho, hf⟩
  rw [hlim]
  have e3 : IntKind.i64.wrap ((k : Int) + 1) = ((k + 1 : Nat) : Int) := by rw [wrap_i64 (by omega) (by omega)]; omega
  rw [e3]
  have hln : (byteV ((littleB n x).take k)).length = k := by simp [byteV, littleB_length]; omega
  refine ⟨fun hlt => ?_, fun hge => ?_⟩
  · have hlt := of_decide_eq_true hlt
    have step : ∀ z : Int, byteV ((littleB n x).take k) ++ [.int .u8 z] = byteV ((littleB n x).take (k + 1)) → ∀ w6, w6 = w5.alloc (.cells #[.int .u8 z] T_uint8) → ∃ w7 l8, (Builtin.append_ #[T_S_uint8, T_S_uint8] T_S_uint8 #[.slice l3.a l3.len l3.cap, .slice (some ⟨w5.heap.size, 0, none⟩) 1 1]).run Tryd.prog w6 = .ok (.slice l8.a l8.len l8.cap) w7 ∧
        ((∃ j : Nat, ((k + 1 : Nat) : Int) = (j : Int) ∧ j ≤ n ∧ Vc.Own w7 w.heap.size T_uint8 l8 (byteV ((littleB n x).take j)) ∧ Fr (fun _ => False) w w7) ∧ n - ((k + 1 : Nat) : Int).toNat < n - ((k : Int)).toNat) := fun z hz w6 h6 => by
      obtain ⟨w7, l8, hr, ho7, hf7, _⟩ := append_one' elByte ho (v := .int .u8 z) rfl (by rw [hln]; unfold maxLen; omega) (by rw [hln]; omega) hf.size h6
      rw [hz] at ho7
      exact ⟨w7, l8, hr, ⟨k + 1, rfl, by omega, ho7, hf.trans hf7 fun q hq ⟨y, hy, e⟩ => by have := (ho.blk hy).1; omega⟩, by omega⟩
    refine ⟨fun h8 => step 0 ?_, fun h8 => ?_⟩
    · have h8 := of_decide_eq_true h8
      rw [littleB_get (by omega), pow_big hx (by omega)]
      exact byteV_snoc _ 0 (by decide)
    · have h8 := of_decide_eq_false h8
      have e4 : IntKind.i64.wrap (8 * (k : Int)) = ((8 * k : Nat) : Int) := by rw [wrap_i64 (by omega) (by omega)]; omega
      rw [e4, shift_byte, if_pos (by omega)]
      refine ⟨by omega, step _ ?_⟩
      rw [byteV_wrap _ _ (Int.natCast_nonneg _), Int.toNat_natCast, littleB_get (by omega)]
  · have hge := of_decide_eq_false hge
    have : k = n := by omega
    subst this
    rw [List.take_of_length_le (by rw [littleB_length]; omega)] at ho
    exact ⟨_, _, bytes_str (e := T_uint8) (by kernel_rfl) (by kernel_rfl) (by kernel_rfl) l3.cap ho.reads (by rw [ho.len]; simp [byteV]), rfl, hf⟩
end Go.Proofs.YtfoeooddnmppnaaDoor

/- Formulas of 5 Go functions of this seat (written by a program of the author's, vcgen.py), and that each is enough for the call. No condition. -/
set_option linter.unusedVariables false
namespace Go.Proofs.YtfoeooddnmppnaaDoor
open Go Vc Go.Proofs
set_option maxRecDepth 100000
/-- zip.Check -/
def vc_zip_Check (x0a : Option Addr) (x0n : Nat) (x0c : Nat) (w : World) (R : Value → World → Prop) : Prop :=
  ∃ I1 : Int → Int → World → Prop, ∃ I2 : Int → Int → World → Nat, (I1 0 0 w ∧
   ∀ n3 : Int,
   ∀ n4 : Int,
   ∀ w5 : World,
   (I1 n3 n4 w5 →
     (((decide (n4 < (↑x0n : Int)) = true →
        ((0 ≤ n4 ∧
          n4 < (↑x0n : Int)) ∧
         ∃ a6 : Addr, (x0a = some a6 ∧
          ∃ s7 : ByteArray, ∃ s8 : ByteArray, (Sem.run Tryd.prog (loadVar 37 (Addr.add a6 (Int.toNat n4 * 2))) w5 = Result.ok (Value.agg (Array.mk [Value.string s7, Value.string s8])) w5 ∧
           ∀ w9 : World,
           (w9 = World.alloc w5 (Obj.cells (Array.mk [Value.string (ByteArray.mk (Array.mk [])), Value.string (ByteArray.mk (Array.mk []))]) 37) →
             ∃ w10 : World, (Sem.run Tryd.prog (storeVar 37 (Addr.mk (Array.size (World.heap w5)) 0 none) (Value.agg (Array.mk [Value.string s7, Value.string s8]))) w9 = Result.ok PUnit.unit w10 ∧
              ∃ s11 : ByteArray, (World.cell? w10 (Addr.mk (Array.size (World.heap w5)) 1 none) = some (Value.string s11) ∧
               (I1 (IntKind.wrap IntKind.i64 (n3 + (↑(ByteArray.size s11) : Int))) (IntKind.wrap IntKind.i64 (n4 + 1)) w10 ∧
                I2 (IntKind.wrap IntKind.i64 (n3 + (↑(ByteArray.size s11) : Int))) (IntKind.wrap IntKind.i64 (n4 + 1)) w10 < I2 n3 n4 w5))))))))) ∧
      (decide (n4 < (↑x0n : Int)) = false →
        (((decide ((↑x0n : Int) > 600) = true →
           R (Value.int IntKind.i64 2) w5)) ∧
         (decide ((↑x0n : Int) > 600) = false →
           (((decide (n3 > 1048576) = true →
              R (Value.int IntKind.i64 2) w5)) ∧
            (decide (n3 > 1048576) = false →
              ∃ I12 : Int → World → Prop, ∃ I13 : Int → World → Nat, (I12 0 w5 ∧
               ∀ n14 : Int,
               ∀ w15 : World,
               (I12 n14 w15 →
                 (((decide (n14 < (↑x0n : Int)) = true →
                    ((0 ≤ n14 ∧
                      n14 < (↑x0n : Int)) ∧
                     ∃ a16 : Addr, (x0a = some a16 ∧
                      ∃ s17 : ByteArray, ∃ s18 : ByteArray, (Sem.run Tryd.prog (loadVar 37 (Addr.add a16 (Int.toNat n14 * 2))) w15 = Result.ok (Value.agg (Array.mk [Value.string s17, Value.string s18])) w15 ∧
                       ∀ w19 : World,
                       (w19 = World.alloc w15 (Obj.cells (Array.mk [Value.string (ByteArray.mk (Array.mk [])), Value.string (ByteArray.mk (Array.mk []))]) 37) →
                         ∃ w20 : World, (Sem.run Tryd.prog (storeVar 37 (Addr.mk (Array.size (World.heap w15)) 0 none) (Value.agg (Array.mk [Value.string s17, Value.string s18]))) w19 = Result.ok PUnit.unit w20 ∧
                          ∀ w21 : World,
                          (Drew w20 w21 →
                            ∃ I22 : World → Prop, (I22 w21 ∧
                             ∃ s23 : ByteArray, ((∀ w24 : World,
                              (I22 w24 →
                                World.cell? w24 (Addr.mk (Array.size (World.heap w15)) 0 none) = some (Value.string s23))) ∧
                              Calls Tryd.prog (37 : Nat) (Array.mk [Value.string s23]) (w21) (fun e25 w26 =>
                                ∃ b27 : Bool, (e25 = Ending.returned (Value.bool b27) ∧
                                 (I22 w26 ∧
                                  ((((!b27) = true →
                                     R (Value.int IntKind.i64 4) w26)) ∧
                                   ((!b27) = false →
                                     (((decide (n14 > 0) = true →
                                        ((0 ≤ IntKind.wrap IntKind.i64 (n14 - 1) ∧
                                          IntKind.wrap IntKind.i64 (n14 - 1) < (↑x0n : Int)) ∧
                                         ∃ a28 : Addr, (x0a = some a28 ∧
                                          ∃ s29 : ByteArray, ((∀ w30 : World,
                                           (I22 w30 →
                                             World.cell? w30 (Addr.add a28 (Int.toNat (IntKind.wrap IntKind.i64 (n14 - 1)) * 2)) = some (Value.string s29))) ∧
                                           ∃ s31 : ByteArray, ((∀ w32 : World,
                                            (I22 w32 →
                                              World.cell? w32 (Addr.mk (Array.size (World.heap w15)) 0 none) = some (Value.string s31))) ∧
                                            ((((!Op.bytesLess (ByteArray.toList s29) (ByteArray.toList s31)) = true →
                                               R (Value.int IntKind.i64 4) w26)) ∧
                                             ((!Op.bytesLess (ByteArray.toList s29) (ByteArray.toList s31)) = false →
                                               (I12 (IntKind.wrap IntKind.i64 (n14 + 1)) w26 ∧
                                                I13 (IntKind.wrap IntKind.i64 (n14 + 1)) w26 < I13 n14 w15))))))))) ∧
                                      (decide (n14 > 0) = false →
                                        (I12 (IntKind.wrap IntKind.i64 (n14 + 1)) w26 ∧
                                         I13 (IntKind.wrap IntKind.i64 (n14 + 1)) w26 < I13 n14 w15)))))))))))))))))) ∧
                  (decide (n14 < (↑x0n : Int)) = false →
                    R (Value.int IntKind.i64 0) w15))))))))))))
theorem vc_zip_Check_ok {x0a : Option Addr} {x0n : Nat} {x0c : Nat} {w : World} {R : Value → World → Prop} {R' : Ending → World → Prop} (h : vc_zip_Check x0a x0n x0c w R) (hR : ∀ v w', R v w' → R' (.returned v) w') :
    Calls Tryd.prog 16 #[.slice x0a x0n x0c] w R' :=
  calls_of_body (vs := [(.slice x0a x0n x0c, false)]) (ty := ty) (ann := ⟨[], [(3, [(3, .int .i64), (10, .int .i64)]), (10, [(29, .int .i64)])], [(12, .held [(0, true), (1, true), (2, false), (3, true), (4, true), (5, true), (6, true), (7, true), (8, true), (9, true), (10, true), (11, true), (12, true), (13, true), (14, true), (15, true), (16, true), (17, true), (18, true)])], []⟩) (c := Tryd.f16.body.getD .skip) (by kernel_rfl) Tryd.func16 (by kernel_rfl) (by kernel_rfl) (Eq.mp (by kernel_rfl) h) hR
/-- zip.two -/
def vc_zip_two (x0 : Int) (w : World) (R : Value → World → Prop) : Prop :=
  Calls Tryd.prog (88 : Nat) (Array.mk [Value.int IntKind.u64 (IntKind.wrap IntKind.u64 x0), Value.int IntKind.i64 2]) (w) (fun e1 w2 =>
    ∃ s3 : ByteArray, (e1 = Ending.returned (Value.string s3) ∧
     R (Value.string s3) w2))
theorem vc_zip_two_ok {x0 : Int} {w : World} {R : Value → World → Prop} {R' : Ending → World → Prop} (h : vc_zip_two x0 w R) (hR : ∀ v w', R v w' → R' (.returned v) w') :
    Calls Tryd.prog 34 #[.int .i64 x0] w R' :=
  calls_of_body (vs := [(.int .i64 x0, false)]) (ty := ty) (ann := ⟨[], [], [], []⟩) (c := Tryd.f34.body.getD .skip) (by kernel_rfl) Tryd.func34 (by kernel_rfl) (by kernel_rfl) (Eq.mp (by kernel_rfl) h) hR
/-- zip.four -/
def vc_zip_four (x0 : Int) (w : World) (R : Value → World → Prop) : Prop :=
  Calls Tryd.prog (88 : Nat) (Array.mk [Value.int IntKind.u64 (IntKind.wrap IntKind.u64 x0), Value.int IntKind.i64 4]) (w) (fun e1 w2 =>
    ∃ s3 : ByteArray, (e1 = Ending.returned (Value.string s3) ∧
     R (Value.string s3) w2))
theorem vc_zip_four_ok {x0 : Int} {w : World} {R : Value → World → Prop} {R' : Ending → World → Prop} (h : vc_zip_four x0 w R) (hR : ∀ v w', R v w' → R' (.returned v) w') :
    Calls Tryd.prog 35 #[.int .i64 x0] w R' :=
  calls_of_body (vs := [(.int .i64 x0, false)]) (ty := ty) (ann := ⟨[], [], [], []⟩) (c := Tryd.f35.body.getD .skip) (by kernel_rfl) Tryd.func35 (by kernel_rfl) (by kernel_rfl) (Eq.mp (by kernel_rfl) h) hR
/-- zip.facts -/
def vc_zip_facts (x0 : Int) (x1 : Int) (x2 : Int) (x3 : Int) (x4 : ByteArray) (w : World) (R : Value → World → Prop) : Prop :=
  Calls Tryd.prog (34 : Nat) (Array.mk [Value.int IntKind.i64 (20 : Int)]) (w) (fun e1 w2 =>
    ∃ s3 : ByteArray, (e1 = Ending.returned (Value.string s3) ∧
     Calls Tryd.prog (34 : Nat) (Array.mk [Value.int IntKind.i64 (0 : Int)]) (w2) (fun e4 w5 =>
       ∃ s6 : ByteArray, (e4 = Ending.returned (Value.string s6) ∧
        (ByteArray.size s3 + ByteArray.size s6 ≤ 9223372036854775807 ∧
         Calls Tryd.prog (34 : Nat) (Array.mk [Value.int IntKind.i64 x0]) (w5) (fun e7 w8 =>
           ∃ s9 : ByteArray, (e7 = Ending.returned (Value.string s9) ∧
            (ByteArray.size (s3 ++ s6) + ByteArray.size s9 ≤ 9223372036854775807 ∧
             Calls Tryd.prog (34 : Nat) (Array.mk [Value.int IntKind.i64 (0 : Int)]) (w8) (fun e10 w11 =>
               ∃ s12 : ByteArray, (e10 = Ending.returned (Value.string s12) ∧
                (ByteArray.size (s3 ++ s6 ++ s9) + ByteArray.size s12 ≤ 9223372036854775807 ∧
                 Calls Tryd.prog (34 : Nat) (Array.mk [Value.int IntKind.i64 (0 : Int)]) (w11) (fun e13 w14 =>
                   ∃ s15 : ByteArray, (e13 = Ending.returned (Value.string s15) ∧
                    (ByteArray.size (s3 ++ s6 ++ s9 ++ s12) + ByteArray.size s15 ≤ 9223372036854775807 ∧
                     Calls Tryd.prog (35 : Nat) (Array.mk [Value.int IntKind.i64 (IntKind.wrap IntKind.i64 x1)]) (w14) (fun e16 w17 =>
                       ∃ s18 : ByteArray, (e16 = Ending.returned (Value.string s18) ∧
                        (ByteArray.size (s3 ++ s6 ++ s9 ++ s12 ++ s15) + ByteArray.size s18 ≤ 9223372036854775807 ∧
                         Calls Tryd.prog (35 : Nat) (Array.mk [Value.int IntKind.i64 x2]) (w17) (fun e19 w20 =>
                           ∃ s21 : ByteArray, (e19 = Ending.returned (Value.string s21) ∧
                            (ByteArray.size (s3 ++ s6 ++ s9 ++ s12 ++ s15 ++ s18) + ByteArray.size s21 ≤ 9223372036854775807 ∧
                             Calls Tryd.prog (35 : Nat) (Array.mk [Value.int IntKind.i64 x3]) (w20) (fun e22 w23 =>
                               ∃ s24 : ByteArray, (e22 = Ending.returned (Value.string s24) ∧
                                (ByteArray.size (s3 ++ s6 ++ s9 ++ s12 ++ s15 ++ s18 ++ s21) + ByteArray.size s24 ≤ 9223372036854775807 ∧
                                 Calls Tryd.prog (34 : Nat) (Array.mk [Value.int IntKind.i64 (↑(ByteArray.size x4) : Int)]) (w23) (fun e25 w26 =>
                                   ∃ s27 : ByteArray, (e25 = Ending.returned (Value.string s27) ∧
                                    (ByteArray.size (s3 ++ s6 ++ s9 ++ s12 ++ s15 ++ s18 ++ s21 ++ s24) + ByteArray.size s27 ≤ 9223372036854775807 ∧
                                     Calls Tryd.prog (34 : Nat) (Array.mk [Value.int IntKind.i64 (0 : Int)]) (w26) (fun e28 w29 =>
                                       ∃ s30 : ByteArray, (e28 = Ending.returned (Value.string s30) ∧
                                        (ByteArray.size (s3 ++ s6 ++ s9 ++ s12 ++ s15 ++ s18 ++ s21 ++ s24 ++ s27) + ByteArray.size s30 ≤ 9223372036854775807 ∧
                                         R (Value.string (s3 ++ s6 ++ s9 ++ s12 ++ s15 ++ s18 ++ s21 ++ s24 ++ s27 ++ s30)) w29)))))))))))))))))))))))))))))
theorem vc_zip_facts_ok {x0 : Int} {x1 : Int} {x2 : Int} {x3 : Int} {x4 : ByteArray} {w : World} {R : Value → World → Prop} {R' : Ending → World → Prop} (h : vc_zip_facts x0 x1 x2 x3 x4 w R) (hR : ∀ v w', R v w' → R' (.returned v) w') :
    Calls Tryd.prog 32 #[.int .i64 x0, .int .u32 x1, .int .i64 x2, .int .i64 x3, .string x4] w R' :=
  calls_of_body (vs := [(.int .i64 x0, false), (.int .u32 x1, false), (.int .i64 x2, false), (.int .i64 x3, false), (.string x4, false)]) (ty := ty) (ann := ⟨[], [], [], []⟩) (c := Tryd.f32.body.getD .skip) (by kernel_rfl) Tryd.func32 (by kernel_rfl) (by kernel_rfl) (Eq.mp (by kernel_rfl) h) hR
/-- zip.Write -/
def vc_zip_Write (x0a : Option Addr) (x0n : Nat) (x0c : Nat) (w : World) (R : Value → World → Prop) : Prop :=
  Calls Tryd.prog (16 : Nat) (Array.mk [Value.slice x0a x0n x0c]) (w) (fun e1 w2 =>
    ∃ n3 : Int, (e1 = Ending.returned (Value.int IntKind.i64 n3) ∧
     ((((n3 != 0) = true →
        R (Value.tuple (Array.mk [Value.string (ByteArray.mk (Array.mk [])), Value.int IntKind.i64 n3])) w2)) ∧
      ((n3 != 0) = false →
        ∀ w4 : World,
        (w4 = World.alloc w2 (Obj.cells (Array.mk []) 5) →
          ∀ w5 : World,
          (w5 = World.alloc w4 (Obj.cells (Array.mk []) 5) →
            ∃ I6 : Sl → Sl → Int → World → Prop, ∃ I7 : Sl → Sl → Int → World → Nat, (I6 (Sl.mk (some (Addr.mk (Array.size (World.heap w2)) 0 none)) 0 0) (Sl.mk (some (Addr.mk (Array.size (World.heap w4)) 0 none)) 0 0) 0 w5 ∧
             ∀ l8 : Sl,
             ∀ l9 : Sl,
             ∀ n10 : Int,
             ∀ w11 : World,
             (I6 l8 l9 n10 w11 →
               (((decide (n10 < (↑x0n : Int)) = true →
                  ((0 ≤ n10 ∧
                    n10 < (↑x0n : Int)) ∧
                   ∃ a12 : Addr, (x0a = some a12 ∧
                    ∃ s13 : ByteArray, ∃ s14 : ByteArray, (Sem.run Tryd.prog (loadVar 37 (Addr.add a12 (Int.toNat n10 * 2))) w11 = Result.ok (Value.agg (Array.mk [Value.string s13, Value.string s14])) w11 ∧
                     ∀ w15 : World,
                     (w15 = World.alloc w11 (Obj.cells (Array.mk [Value.string (ByteArray.mk (Array.mk [])), Value.string (ByteArray.mk (Array.mk []))]) 37) →
                       ∃ w16 : World, (Sem.run Tryd.prog (storeVar 37 (Addr.mk (Array.size (World.heap w11)) 0 none) (Value.agg (Array.mk [Value.string s13, Value.string s14]))) w15 = Result.ok PUnit.unit w16 ∧
                        ∀ w17 : World,
                        (Drew w16 w17 →
                          ∃ I18 : World → Prop, (I18 w17 ∧
                           ∃ s19 : ByteArray, ((∀ w20 : World,
                            (I18 w20 →
                              World.cell? w20 (Addr.mk (Array.size (World.heap w11)) 1 none) = some (Value.string s19))) ∧
                            ∃ s21 : ByteArray, ((∀ w22 : World,
                             (I18 w22 →
                               World.cell? w22 (Addr.mk (Array.size (World.heap w11)) 1 none) = some (Value.string s21))) ∧
                             ∃ s23 : ByteArray, ((∀ w24 : World,
                              (I18 w24 →
                                World.cell? w24 (Addr.mk (Array.size (World.heap w11)) 1 none) = some (Value.string s23))) ∧
                              ∃ s25 : ByteArray, ((∀ w26 : World,
                               (I18 w26 →
                                 World.cell? w26 (Addr.mk (Array.size (World.heap w11)) 0 none) = some (Value.string s25))) ∧
                               Calls Tryd.prog (33 : Nat) (Array.mk [Value.string s19]) (w17) (fun e27 w28 =>
                                 ∃ n29 : Int, (e27 = Ending.returned (Value.int IntKind.u32 n29) ∧
                                  (I18 w28 ∧
                                   Calls Tryd.prog (32 : Nat) (Array.mk [Value.int IntKind.i64 0, Value.int IntKind.u32 n29, Value.int IntKind.i64 (↑(ByteArray.size s21) : Int), Value.int IntKind.i64 (↑(ByteArray.size s23) : Int), Value.string s25]) (w28) (fun e30 w31 =>
                                     ∃ s32 : ByteArray, (e30 = Ending.returned (Value.string s32) ∧
                                      (I18 w31 ∧
                                       ∀ w33 : World,
                                       (Drew w31 w33 →
                                         ∃ I34 : World → Prop, (I34 w33 ∧
                                          ∃ s35 : ByteArray, ((∀ w36 : World,
                                           (I34 w36 →
                                             World.cell? w36 (Addr.mk (Array.size (World.heap w11)) 0 none) = some (Value.string s35))) ∧
                                           Calls Tryd.prog (34 : Nat) (Array.mk [Value.int IntKind.i64 (20 : Int)]) (w33) (fun e37 w38 =>
                                             ∃ s39 : ByteArray, (e37 = Ending.returned (Value.string s39) ∧
                                              (I34 w38 ∧
                                               (ByteArray.size (ByteArray.mk (Array.mk [80, 75, 1, 2])) + ByteArray.size s39 ≤ 9223372036854775807 ∧
                                                (ByteArray.size (ByteArray.mk (Array.mk [80, 75, 1, 2]) ++ s39) + ByteArray.size s32 ≤ 9223372036854775807 ∧
                                                 Calls Tryd.prog (34 : Nat) (Array.mk [Value.int IntKind.i64 (0 : Int)]) (w38) (fun e40 w41 =>
                                                   ∃ s42 : ByteArray, (e40 = Ending.returned (Value.string s42) ∧
                                                    (I34 w41 ∧
                                                     (ByteArray.size (ByteArray.mk (Array.mk [80, 75, 1, 2]) ++ s39 ++ s32) + ByteArray.size s42 ≤ 9223372036854775807 ∧
                                                      Calls Tryd.prog (34 : Nat) (Array.mk [Value.int IntKind.i64 (0 : Int)]) (w41) (fun e43 w44 =>
                                                        ∃ s45 : ByteArray, (e43 = Ending.returned (Value.string s45) ∧
                                                         (I34 w44 ∧
                                                          (ByteArray.size (ByteArray.mk (Array.mk [80, 75, 1, 2]) ++ s39 ++ s32 ++ s42) + ByteArray.size s45 ≤ 9223372036854775807 ∧
                                                           Calls Tryd.prog (34 : Nat) (Array.mk [Value.int IntKind.i64 (0 : Int)]) (w44) (fun e46 w47 =>
                                                             ∃ s48 : ByteArray, (e46 = Ending.returned (Value.string s48) ∧
                                                              (I34 w47 ∧
                                                               (ByteArray.size (ByteArray.mk (Array.mk [80, 75, 1, 2]) ++ s39 ++ s32 ++ s42 ++ s45) + ByteArray.size s48 ≤ 9223372036854775807 ∧
                                                                Calls Tryd.prog (35 : Nat) (Array.mk [Value.int IntKind.i64 (0 : Int)]) (w47) (fun e49 w50 =>
                                                                  ∃ s51 : ByteArray, (e49 = Ending.returned (Value.string s51) ∧
                                                                   (I34 w50 ∧
                                                                    (ByteArray.size (ByteArray.mk (Array.mk [80, 75, 1, 2]) ++ s39 ++ s32 ++ s42 ++ s45 ++ s48) + ByteArray.size s51 ≤ 9223372036854775807 ∧
                                                                     Calls Tryd.prog (35 : Nat) (Array.mk [Value.int IntKind.i64 (↑l8.2 : Int)]) (w50) (fun e52 w53 =>
                                                                       ∃ s54 : ByteArray, (e52 = Ending.returned (Value.string s54) ∧
                                                                        (I34 w53 ∧
                                                                         (ByteArray.size (ByteArray.mk (Array.mk [80, 75, 1, 2]) ++ s39 ++ s32 ++ s42 ++ s45 ++ s48 ++ s51) + ByteArray.size s54 ≤ 9223372036854775807 ∧
                                                                          (ByteArray.size (ByteArray.mk (Array.mk [80, 75, 1, 2]) ++ s39 ++ s32 ++ s42 ++ s45 ++ s48 ++ s51 ++ s54) + ByteArray.size s35 ≤ 9223372036854775807 ∧
                                                                           ∃ w55 : World, ∃ l56 : Sl, (Sem.run Tryd.prog (Builtin.append_ (Array.mk [35, 9]) 35 (Array.mk [Value.slice l9.1 l9.2 l9.3, Value.string (ByteArray.mk (Array.mk [80, 75, 1, 2]) ++ s39 ++ s32 ++ s42 ++ s45 ++ s48 ++ s51 ++ s54 ++ s35)])) w53 = Result.ok (Value.slice l56.1 l56.2 l56.3) w55 ∧
                                                                            (I34 w55 ∧
                                                                             (ByteArray.size (ByteArray.mk (Array.mk [80, 75, 3, 4])) + ByteArray.size s32 ≤ 9223372036854775807 ∧
                                                                              ∃ s57 : ByteArray, (World.cell? w55 (Addr.mk (Array.size (World.heap w11)) 0 none) = some (Value.string s57) ∧
                                                                               (ByteArray.size (ByteArray.mk (Array.mk [80, 75, 3, 4]) ++ s32) + ByteArray.size s57 ≤ 9223372036854775807 ∧
                                                                                ∃ s58 : ByteArray, (World.cell? w55 (Addr.mk (Array.size (World.heap w11)) 1 none) = some (Value.string s58) ∧
                                                                                 (ByteArray.size (ByteArray.mk (Array.mk [80, 75, 3, 4]) ++ s32 ++ s57) + ByteArray.size s58 ≤ 9223372036854775807 ∧
                                                                                  ∃ w59 : World, ∃ l60 : Sl, (Sem.run Tryd.prog (Builtin.append_ (Array.mk [35, 9]) 35 (Array.mk [Value.slice l8.1 l8.2 l8.3, Value.string (ByteArray.mk (Array.mk [80, 75, 3, 4]) ++ s32 ++ s57 ++ s58)])) w55 = Result.ok (Value.slice l60.1 l60.2 l60.3) w59 ∧
                                                                                   (I6 (Sl.mk l60.1 l60.2 l60.3) (Sl.mk l56.1 l56.2 l56.3) (IntKind.wrap IntKind.i64 (n10 + 1)) w59 ∧
                                                                                    I7 (Sl.mk l60.1 l60.2 l60.3) (Sl.mk l56.1 l56.2 l56.3) (IntKind.wrap IntKind.i64 (n10 + 1)) w59 < I7 l8 l9 n10 w11))))))))))))))))))))))))))))))))))))))))))))))))))))))))) ∧
                (decide (n10 < (↑x0n : Int)) = false →
                  Calls Tryd.prog (34 : Nat) (Array.mk [Value.int IntKind.i64 (↑x0n : Int)]) (w11) (fun e61 w62 =>
                    ∃ s63 : ByteArray, (e61 = Ending.returned (Value.string s63) ∧
                     Calls Tryd.prog (34 : Nat) (Array.mk [Value.int IntKind.i64 (0 : Int)]) (w62) (fun e64 w65 =>
                       ∃ s66 : ByteArray, (e64 = Ending.returned (Value.string s66) ∧
                        (ByteArray.size (ByteArray.mk (Array.mk [80, 75, 5, 6])) + ByteArray.size s66 ≤ 9223372036854775807 ∧
                         Calls Tryd.prog (34 : Nat) (Array.mk [Value.int IntKind.i64 (0 : Int)]) (w65) (fun e67 w68 =>
                           ∃ s69 : ByteArray, (e67 = Ending.returned (Value.string s69) ∧
                            (ByteArray.size (ByteArray.mk (Array.mk [80, 75, 5, 6]) ++ s66) + ByteArray.size s69 ≤ 9223372036854775807 ∧
                             (ByteArray.size (ByteArray.mk (Array.mk [80, 75, 5, 6]) ++ s66 ++ s69) + ByteArray.size s63 ≤ 9223372036854775807 ∧
                              (ByteArray.size (ByteArray.mk (Array.mk [80, 75, 5, 6]) ++ s66 ++ s69 ++ s63) + ByteArray.size s63 ≤ 9223372036854775807 ∧
                               Calls Tryd.prog (35 : Nat) (Array.mk [Value.int IntKind.i64 (↑l9.2 : Int)]) (w68) (fun e70 w71 =>
                                 ∃ s72 : ByteArray, (e70 = Ending.returned (Value.string s72) ∧
                                  (ByteArray.size (ByteArray.mk (Array.mk [80, 75, 5, 6]) ++ s66 ++ s69 ++ s63 ++ s63) + ByteArray.size s72 ≤ 9223372036854775807 ∧
                                   Calls Tryd.prog (35 : Nat) (Array.mk [Value.int IntKind.i64 (↑l8.2 : Int)]) (w71) (fun e73 w74 =>
                                     ∃ s75 : ByteArray, (e73 = Ending.returned (Value.string s75) ∧
                                      (ByteArray.size (ByteArray.mk (Array.mk [80, 75, 5, 6]) ++ s66 ++ s69 ++ s63 ++ s63 ++ s72) + ByteArray.size s75 ≤ 9223372036854775807 ∧
                                       Calls Tryd.prog (34 : Nat) (Array.mk [Value.int IntKind.i64 (0 : Int)]) (w74) (fun e76 w77 =>
                                         ∃ s78 : ByteArray, (e76 = Ending.returned (Value.string s78) ∧
                                          (ByteArray.size (ByteArray.mk (Array.mk [80, 75, 5, 6]) ++ s66 ++ s69 ++ s63 ++ s63 ++ s72 ++ s75) + ByteArray.size s78 ≤ 9223372036854775807 ∧
                                           ∃ w79 : World, ∃ l80 : Sl, (Sem.run Tryd.prog (Builtin.append_ (Array.mk [35, 35]) 35 (Array.mk [Value.slice l8.1 l8.2 l8.3, Value.slice l9.1 l9.2 l9.3])) w77 = Result.ok (Value.slice l80.1 l80.2 l80.3) w79 ∧
                                            ∃ w81 : World, ∃ l82 : Sl, (Sem.run Tryd.prog (Builtin.append_ (Array.mk [35, 9]) 35 (Array.mk [Value.slice l80.1 l80.2 l80.3, Value.string (ByteArray.mk (Array.mk [80, 75, 5, 6]) ++ s66 ++ s69 ++ s63 ++ s63 ++ s72 ++ s75 ++ s78)])) w79 = Result.ok (Value.slice l82.1 l82.2 l82.3) w81 ∧
                                             ∃ w83 : World, ∃ s84 : ByteArray, (Sem.run Tryd.prog (convert 35 9 (Value.slice l82.1 l82.2 l82.3)) w81 = Result.ok (Value.string s84) w83 ∧
                                              R (Value.tuple (Array.mk [Value.string s84, Value.int IntKind.i64 0])) w83))))))))))))))))))))))))))))))))
theorem vc_zip_Write_ok {x0a : Option Addr} {x0n : Nat} {x0c : Nat} {w : World} {R : Value → World → Prop} {R' : Ending → World → Prop} (h : vc_zip_Write x0a x0n x0c w R) (hR : ∀ v w', R v w' → R' (.returned v) w') :
    Calls Tryd.prog 13 #[.slice x0a x0n x0c] w R' :=
  calls_of_body (vs := [(.slice x0a x0n x0c, false)]) (ty := ty) (ann := ⟨[], [(6, [(5, .slice), (6, .slice), (21, .int .i64)])], [(8, .held [(0, true), (1, true), (3, true), (4, true), (5, true), (6, true), (7, true), (8, true), (9, true), (10, true), (2, false), (11, false), (12, true)]), (9, .held [(0, true), (3, true), (13, true), (14, true), (17, true), (18, true), (1, false), (2, true), (4, true), (5, false), (6, true), (7, false), (8, true), (9, false), (10, true), (11, false), (12, true), (15, false), (16, true), (19, true), (20, false), (21, true)])], []⟩) (c := Tryd.f13.body.getD .skip) (by kernel_rfl) Tryd.func13 (by kernel_rfl) (by kernel_rfl) (Eq.mp (by kernel_rfl) h) hR
end Go.Proofs.YtfoeooddnmppnaaDoor

/- The package zip's writer: Check, two, four, facts, Write. Conditions: at most a hundred thousand files, texts no longer than memory. -/
set_option linter.unusedVariables false
namespace Go.Proofs.YtfoeooddnmppnaaDoor
open Go Vc SumM Go.Proofs

theorem zcheck_spec {w : World} {a : Option Addr} {n c : Nat} {ys : List FileE} (hr : ReadsK encF 2 w a ys) (hn : ys.length = n) (hl : n ≤ 100000) (hp : ∀ y ∈ ys, y.path.size ≤ 140737488355328) (ht : totalF ys ≤ 4611686018427387904) :
    Calls Tryd.prog F_zip_Check #[.slice a n c] w fun e w' => e = .returned (.int .i64 (zchk ys)) ∧ Fr (fun _ => False) w w' := by
  refine vc_zip_Check_ok (R := fun v w' => v = .int .i64 (zchk ys) ∧ Fr (fun _ => False) w w') ?_ (fun v w' h => ⟨by rw [h.1], h.2⟩)
  refine ⟨fun z i w' => ∃ k : Nat, i = k ∧ k ≤ ys.length ∧ z = (totalF (ys.take k) : Int) ∧ Fr (fun _ => False) w w', fun z i _ => ys.length - i.toNat, ⟨0, rfl, Nat.zero_le _, rfl, .refl _ _⟩, ?_⟩
  rintro z i w5 ⟨k, rfl, hk, rfl, hf⟩
  have hT := totalF_le ys k
  refine ⟨fun hlt => ?_, fun hge => ?_⟩
  · have hlt := of_decide_eq_true hlt
    have hkl : k < ys.length := by omega
    have hx : ys[k]? = some ys[k] := List.getElem?_eq_getElem hkl
    generalize ys[k] = x at hx
    obtain ⟨ad, had, hld⟩ := ((hr.keep hf (by simp)).load elF hx)
    refine ⟨⟨by omega, by omega⟩, ad, had, x.path, x.data, by rw [Int.toNat_natCast]; exact hld, fun w10 h10 => ?_⟩
    subst h10
    have hT2 := totalF_take hx
    have hT3 := totalF_le ys (k + 1)
    have e1 : IntKind.i64.wrap ((k : Int) + 1) = ((k + 1 : Nat) : Int) := by rw [wrap_i64 (by omega) (by omega)]; omega
    have e2 : IntKind.i64.wrap ((totalF (ys.take k) : Int) + (x.data.size : Int)) = (totalF (ys.take (k + 1)) : Int) := by rw [wrap_i64 (by omega) (by omega)]; omega
    refine ⟨_, boxF_run w5 x, x.data, boxF_cell w5 x (X := fun _ => False) (.refl _ _) (by simp) (j := 1) rfl, ?_⟩
    rw [e1, e2]
    exact ⟨⟨k + 1, rfl, by omega, rfl, hf.trans' (.alloc _ _ _)⟩, by dsimp only; omega⟩
  · have hge := of_decide_eq_false hge
    have hk' : k = ys.length := by omega
    subst hk'
    rw [List.take_length]
    refine ⟨fun h => ⟨?_, hf⟩, fun h1 => ⟨fun h => ⟨?_, hf⟩, fun h2 => ?_⟩⟩
    · have h := of_decide_eq_true h
      unfold zchk; rw [if_pos (.inl (by omega))]
    · have h := of_decide_eq_true h
      unfold zchk; rw [if_pos (.inr (by omega))]
    have h1 := of_decide_eq_false h1
    have h2 := of_decide_eq_false h2
    have hc2 : ¬ (600 < ys.length ∨ 1048576 < totalF ys) := by omega
    refine ⟨fun i w' => ∃ k : Nat, i = k ∧ k ≤ ys.length ∧ (∀ j, j < k → okZ ys j = true) ∧ Fr (fun _ => False) w w', fun i _ => ys.length - i.toNat, ⟨0, rfl, Nat.zero_le _, fun j hj => by omega, hf⟩, ?_⟩
    clear hf
    rintro i w15 ⟨k, rfl, hk, hok, hf⟩
    refine ⟨fun hlt => ?_, fun hge => ⟨?_, hf⟩⟩
    · have hlt := of_decide_eq_true hlt
      have hkl : k < ys.length := by omega
      have hx : ys[k]? = some ys[k] := List.getElem?_eq_getElem hkl
      generalize ys[k] = x at hx
      have hxm := List.mem_of_getElem? hx
      obtain ⟨ad, had, hld⟩ := ((hr.keep hf (by simp)).load elF hx)
      refine ⟨⟨by omega, by omega⟩, ad, had, x.path, x.data, by rw [Int.toNat_natCast]; exact hld, fun w19 h19 => ?_⟩
      subst h19
      obtain ⟨w20, hw20⟩ : ∃ w20, w15.alloc (.cells (encF x).toArray T_api_File) = w20 := ⟨_, rfl⟩
      have hfb : Fr (fun _ => False) w15 w20 := by rw [← hw20]; exact .alloc _ _ _
      have hcell : ∀ w', Fr (fun _ => False) w20 w' → w'.cell? ⟨w15.heap.size, 0, none⟩ = some (.string x.path) := fun w' hw' => by
        rw [← hw20] at hw'; exact boxF_cell w15 x hw' (by simp) (j := 0) rfl
      refine ⟨w20, by rw [← hw20]; exact boxF_run w15 x, fun w21 d21 => ⟨fun w' => Fr (fun _ => False) w21 w', .refl _ _, x.path, fun w' hw' => hcell w' (.trans' (.drew _ d21) hw'), (clean_spec x.path (hp x hxm) w21).mono ?_⟩⟩
      rintro e w26 ⟨rfl, hf26⟩
      have hfw : Fr (fun _ => False) w w26 := ((hf.trans' hfb).trans' (.drew _ d21)).trans' hf26
      have hbad : okZ ys k = false → zchk ys = 4 := fun h => by
        unfold zchk
        rw [if_neg hc2, if_neg]
        intro ha
        rw [List.all_eq_true.1 ha k (List.mem_range.2 hkl)] at h
        cases h
      have e1 : IntKind.i64.wrap ((k : Int) + 1) = ((k + 1 : Nat) : Int) := by rw [wrap_i64 (by omega) (by omega)]; omega
      rw [e1]
      have hnext : okZ ys k = true → (∃ k' : Nat, ((k + 1 : Nat) : Int) = k' ∧ k' ≤ ys.length ∧ (∀ j, j < k' → okZ ys j = true) ∧ Fr (fun _ => False) w w26) ∧ ys.length - ((k + 1 : Nat) : Int).toNat < ys.length - ((k : Int)).toNat := fun h => by
        refine ⟨⟨k + 1, rfl, by omega, fun j hj => ?_, hfw⟩, by omega⟩
        by_cases hjk : j = k
        · rw [hjk]; exact h
        · exact hok j (by omega)
      refine ⟨_, rfl, hf26, fun h => ⟨?_, hfw⟩, fun h => ⟨fun hpos => ?_, fun hpos => hnext ?_⟩⟩
      · have h : cleanB x.path = false := by simpa using h
        rw [hbad (by unfold okZ; rw [hx]; simp only [h, Bool.false_and])]
      · have h : cleanB x.path = true := by simpa using h
        have hpos := of_decide_eq_true hpos
        have hx1 : ys[k - 1]? = some ys[k - 1] := List.getElem?_eq_getElem (by omega)
        generalize ys[k - 1] = y at hx1
        have e2 : IntKind.i64.wrap ((k : Int) - 1) = ((k - 1 : Nat) : Int) := by rw [wrap_i64 (by omega) (by omega)]; omega
        rw [e2]
        have hk0 : decide (k = 0) = false := decide_eq_false (by omega)
        have hrd : ∀ w', Fr (fun _ => False) w21 w' → ∃ ad', a = some ad' ∧ w'.cell? (ad'.add ((k - 1) * 2)) = some (.string y.path) := fun w' hw' => by
          obtain ⟨ad', had', hrd⟩ := (hr.keep (((hf.trans' hfb).trans' (.drew _ d21)).trans' hw') (by simp)) (k - 1) y hx1
          have hz0 : ∀ q : Addr, q.add 0 = q := fun q => by cases q; rfl
          have h0 := hrd 0 (.string y.path) rfl
          rw [hz0] at h0
          exact ⟨ad', had', h0⟩
        refine ⟨⟨by omega, by omega⟩, ad, had, y.path, fun w' hw' => ?_, x.path, fun w' hw' => hcell w' (.trans' (.drew _ d21) hw'), fun hl => ⟨?_, hfw⟩, fun hl => hnext ?_⟩
        · obtain ⟨ad', had', h0⟩ := hrd w' hw'
          rw [had] at had'; cases had'
          rw [Int.toNat_natCast]; exact h0
        · rw [ByteArray.toList_eq, ByteArray.toList_eq, Proofs.bytesLess_eq] at hl
          have hl : decide (y.path.data.toList < x.path.data.toList) = false := by simpa using hl
          rw [hbad (by unfold okZ; rw [hx, hx1]; simp only [hl, hk0, Bool.false_or, Bool.and_false])]
        · rw [ByteArray.toList_eq, ByteArray.toList_eq, Proofs.bytesLess_eq] at hl
          have hl : decide (y.path.data.toList < x.path.data.toList) = true := by simpa using hl
          unfold okZ; rw [hx, hx1]; simp only [hl, h, Bool.or_true, Bool.and_true]
      · have h : cleanB x.path = true := by simpa using h
        have hpos := of_decide_eq_false hpos
        have hk0 : k = 0 := by omega
        unfold okZ; rw [hx]; simp only [h, decide_eq_true hk0, Bool.true_or, Bool.and_true]
    · have hge := of_decide_eq_false hge
      have hk' : k = ys.length := by omega
      unfold zchk
      rw [if_neg hc2, if_pos]
      exact List.all_eq_true.2 fun j hj => hok j (by rw [hk']; exact List.mem_range.1 hj)
theorem two_spec (n : Nat) (hn : n < 9223372036854775808) (w : World) : Calls Tryd.prog F_zip_two #[.int .i64 (n : Int)] w fun e w' => e = .returned (.string ⟨(littleB 2 n).toArray⟩) ∧ Fr (fun _ => False) w w' := by
  refine vc_zip_two_ok (R := fun v w' => v = .string ⟨(littleB 2 n).toArray⟩ ∧ Fr (fun _ => False) w w') ?_ (fun v w' h => ⟨by rw [h.1], h.2⟩)
  unfold vc_zip_two
  rw [wrap_u64 (by omega) (by omega)]
  refine (littleS_spec n 2 (by omega) (by decide) w).mono ?_
  rintro e w2 ⟨rfl, hf⟩
  exact ⟨_, rfl, rfl, hf⟩
theorem four_spec (n : Nat) (hn : n < 9223372036854775808) (w : World) : Calls Tryd.prog F_zip_four #[.int .i64 (n : Int)] w fun e w' => e = .returned (.string ⟨(littleB 4 n).toArray⟩) ∧ Fr (fun _ => False) w w' := by
  refine vc_zip_four_ok (R := fun v w' => v = .string ⟨(littleB 4 n).toArray⟩ ∧ Fr (fun _ => False) w w') ?_ (fun v w' h => ⟨by rw [h.1], h.2⟩)
  unfold vc_zip_four
  rw [wrap_u64 (by omega) (by omega)]
  refine (littleS_spec n 4 (by omega) (by decide) w).mono ?_
  rintro e w2 ⟨rfl, hf⟩
  exact ⟨_, rfl, rfl, hf⟩
theorem le_size (n x : Nat) : (ByteArray.mk (littleB n x).toArray).size = n := by rw [bs_mksize, littleB_length]
theorem facts_spec (m crc p sz : Nat) (hm : m < 65536) (hc : crc < 4294967296) (hp : p < 4294967296) (hs : sz < 4294967296) (name : ByteArray) (hn : name.size < 9223372036854775808) (w : World) :
    Calls Tryd.prog F_zip_facts #[.int .i64 (m : Int), .int .u32 (crc : Int), .int .i64 (p : Int), .int .i64 (sz : Int), .string name] w fun e w' => e = .returned (.string ⟨(factsL m crc p sz name.size).toArray⟩) ∧ Fr (fun _ => False) w w' := by
  refine vc_zip_facts_ok (R := fun v w' => v = .string ⟨(factsL m crc p sz name.size).toArray⟩ ∧ Fr (fun _ => False) w w') ?_ (fun v w' h => ⟨by rw [h.1], h.2⟩)
  unfold vc_zip_facts
  rw [wrap_i64 (x := (crc : Int)) (by omega) (by omega)]
  refine (two_spec 20 (by decide) w).mono ?_
  rintro e w2 ⟨rfl, f2⟩
  refine ⟨_, rfl, (two_spec 0 (by decide) w2).mono ?_⟩
  rintro e w5 ⟨rfl, f5⟩
  refine ⟨_, rfl, by simp only [le_size]; omega, (two_spec m (by omega) w5).mono ?_⟩
  rintro e w8 ⟨rfl, f8⟩
  refine ⟨_, rfl, by simp only [ByteArray.size_append, le_size]; omega, (two_spec 0 (by decide) w8).mono ?_⟩
  rintro e w11 ⟨rfl, f11⟩
  refine ⟨_, rfl, by simp only [ByteArray.size_append, le_size]; omega, (two_spec 0 (by decide) w11).mono ?_⟩
  rintro e w14 ⟨rfl, f14⟩
  refine ⟨_, rfl, by simp only [ByteArray.size_append, le_size]; omega, (four_spec crc (by omega) w14).mono ?_⟩
  rintro e w17 ⟨rfl, f17⟩
  refine ⟨_, rfl, by simp only [ByteArray.size_append, le_size]; omega, (four_spec p (by omega) w17).mono ?_⟩
  rintro e w20 ⟨rfl, f20⟩
  refine ⟨_, rfl, by simp only [ByteArray.size_append, le_size]; omega, (four_spec sz (by omega) w20).mono ?_⟩
  rintro e w23 ⟨rfl, f23⟩
  refine ⟨_, rfl, by simp only [ByteArray.size_append, le_size]; omega, (two_spec name.size hn w23).mono ?_⟩
  rintro e w26 ⟨rfl, f26⟩
  refine ⟨_, rfl, by simp only [ByteArray.size_append, le_size]; omega, (two_spec 0 (by decide) w26).mono ?_⟩
  rintro e w29 ⟨rfl, f29⟩
  refine ⟨_, rfl, by simp only [ByteArray.size_append, le_size]; omega, ?_, (((((((((f2.trans' f5).trans' f8).trans' f11).trans' f14).trans' f17).trans' f20).trans' f23).trans' f26).trans' f29)⟩
  congr 1
end Go.Proofs.YtfoeooddnmppnaaDoor

/- zip.Write: the archive of stored files, or the error. Conditions: at most a hundred thousand files, texts no longer than memory. -/
set_option linter.unusedVariables false
namespace Go.Proofs.YtfoeooddnmppnaaDoor
open Go Vc SumM Go.Proofs

def zipE (ys : List FileE) : ByteArray := if zchk ys = 0 then ⟨(zipL ys).toArray⟩ else ⟨#[]⟩
set_option maxHeartbeats 1600000 in
theorem zwrite_spec {w : World} {a : Option Addr} {n c : Nat} {ys : List FileE} (hr : ReadsK encF 2 w a ys) (hn : ys.length = n) (hl : n ≤ 100000) (hp : ∀ y ∈ ys, y.path.size ≤ 140737488355328) (ht : totalF ys ≤ 4611686018427387904) :
    Calls Tryd.prog F_zip_Write #[.slice a n c] w fun e w' => e = .returned (.tuple #[.string (zipE ys), .int .i64 (zchk ys)]) ∧ Fr (fun _ => False) w w' := by
  refine vc_zip_Write_ok (R := fun v w' => v = .tuple #[.string (zipE ys), .int .i64 (zchk ys)] ∧ Fr (fun _ => False) w w') ?_ (fun v w' h => ⟨by rw [h.1], h.2⟩)
  refine (zcheck_spec hr hn hl hp ht).mono ?_
  rintro e w2 ⟨rfl, hf2⟩
  refine ⟨_, rfl, fun h => ⟨?_, hf2⟩, fun h => ?_⟩
  · unfold zipE; rw [if_neg (by simpa using h)]
  have h0 : zchk ys = 0 := by simpa using h
  obtain ⟨hy600, hytot, hycl⟩ := zchk_ok h0
  have hy200 : ∀ y ∈ ys, y.path.size ≤ 200 := fun y hy => by
    have := hycl y hy
    unfold cleanB at this
    simp only [Bool.and_eq_true, decide_eq_true_eq] at this
    omega
  have hyd : ∀ y ∈ ys, y.data.size ≤ 1048576 := fun y hy => by
    have : ∀ zs : List FileE, y ∈ zs → y.data.size ≤ totalF zs := fun zs => by
      induction zs with
      | nil => intro h; simp at h
      | cons z r ih =>
        intro h
        unfold totalF at *
        rw [List.map_cons, List.sum_cons]
        rcases List.mem_cons.1 h with rfl | h
        · omega
        · have := ih h; omega
    have := this ys hy
    omega
  have hout : ∀ k, (outL (ys.take k)).length ≤ 1200000 := fun k => by
    have h1 := outL_len (B := 200) (ys.take k) fun y hy => hy200 y (List.mem_of_mem_take hy)
    have h2 := totalF_le ys k
    rw [List.length_take] at h1
    have h3 : min k ys.length * (30 + 200) ≤ 600 * 230 := Nat.mul_le_mul (by omega) (by omega)
    omega
  have hidx : ∀ k, (idxL 0 (ys.take k)).length ≤ 200000 := fun k => by
    have h1 := idxL_len (B := 200) 0 (ys.take k) fun y hy => hy200 y (List.mem_of_mem_take hy)
    rw [List.length_take] at h1
    have h3 : min k ys.length * (46 + 200) ≤ 600 * 246 := Nat.mul_le_mul (by omega) (by omega)
    omega
  intro w4 h4 w5 h5
  have hf4 : Fr (fun _ => False) w2 w4 := by rw [h4]; exact .alloc _ _ _
  have hf5 : Fr (fun _ => False) w4 w5 := by rw [h5]; exact .alloc _ _ _
  have hs4 : w4.heap.size = w2.heap.size + 1 := by rw [h4]; simp
  have ho8 : Vc.Own w5 w.heap.size T_uint8 ⟨some ⟨w2.heap.size, 0, none⟩, 0, 0⟩ (byteV []) := ((by rw [h4]; exact own_empty w2 T_uint8 : Vc.Own w4 w2.heap.size T_uint8 ⟨some ⟨w2.heap.size, 0, none⟩, 0, 0⟩ []).keep hf5 (by simp)).mono hf2.size
  have ho9 : Vc.Own w5 w.heap.size T_uint8 ⟨some ⟨w4.heap.size, 0, none⟩, 0, 0⟩ (byteV []) := (by rw [h5]; exact own_empty w4 T_uint8 : Vc.Own w5 w4.heap.size T_uint8 ⟨some ⟨w4.heap.size, 0, none⟩, 0, 0⟩ []).mono (by have := hf2.size; omega)
  have hf5' : Fr (fun _ => False) w w5 := (hf2.trans' hf4).trans' hf5
  refine ⟨fun l8 l9 i w' => ∃ k : Nat, i = k ∧ k ≤ ys.length ∧ Vc.Own w' w.heap.size T_uint8 l8 (byteV (outL (ys.take k))) ∧ Vc.Own w' w.heap.size T_uint8 l9 (byteV (idxL 0 (ys.take k))) ∧ (∀ p q, l8.a = some p → l9.a = some q → p.block ≠ q.block) ∧ Fr (fun _ => False) w w', fun _ _ i _ => ys.length - i.toNat,
    ⟨0, rfl, Nat.zero_le _, ho8, ho9, fun p q hp hq => by cases hp; cases hq; simp only; omega, hf5'⟩, ?_⟩
  clear ho8 ho9 hf5 hf4 h4 h5
  rintro l8 l9 i w11 ⟨k, rfl, hk, ho8, ho9, hdis, hf⟩
  have hl8 : l8.len = (outL (ys.take k)).length := by rw [ho8.len, bv_len]
  have hl9 : l9.len = (idxL 0 (ys.take k)).length := by rw [ho9.len, bv_len]
  have hok8 := hout k
  have hok9 := hidx k
  refine ⟨fun hlt => ?_, fun hge => ?_⟩
  · have hlt := of_decide_eq_true hlt
    have hkl : k < ys.length := by omega
    have hx : ys[k]? = some ys[k] := List.getElem?_eq_getElem hkl
    have htk : ys.take (k + 1) = ys.take k ++ [ys[k]] := (List.take_append_getElem hkl).symm
    generalize ys[k] = x at hx htk
    have hxm := List.mem_of_getElem? hx
    have hxp := hy200 x hxm
    have hxd := hyd x hxm
    obtain ⟨ad, had, hld⟩ := ((hr.keep hf (by simp)).load elF hx)
    refine ⟨⟨by omega, by omega⟩, ad, had, x.path, x.data, by rw [Int.toNat_natCast]; exact hld, fun w15 h15 => ?_⟩
    subst h15
    obtain ⟨w16, hw16⟩ : ∃ w16, w11.alloc (.cells (encF x).toArray T_api_File) = w16 := ⟨_, rfl⟩
    have hfb : Fr (fun _ => False) w11 w16 := by rw [← hw16]; exact .alloc _ _ _
    have hbx : w16.heap[w11.heap.size]? = some (.cells (encF x).toArray T_api_File (0, 0)) := by rw [← hw16]; exact alloc_new _ _
    have hp0 : ∀ w' : World, w'.heap[w11.heap.size]? = some (.cells (encF x).toArray T_api_File (0, 0)) → w'.cell? ⟨w11.heap.size, 0, none⟩ = some (.string x.path) := fun w' h => by rw [cell_blk h]; rfl
    have hp1 : ∀ w' : World, w'.heap[w11.heap.size]? = some (.cells (encF x).toArray T_api_File (0, 0)) → w'.cell? ⟨w11.heap.size, 1, none⟩ = some (.string x.data) := fun w' h => by rw [cell_blk h]; rfl
    have hkeep : ∀ {v v' : World}, v.heap[w11.heap.size]? = some (.cells (encF x).toArray T_api_File (0, 0)) → Fr (fun _ => False) v v' → v'.heap[w11.heap.size]? = some (.cells (encF x).toArray T_api_File (0, 0)) := fun h hf => hf.keep h (by simp)
    refine ⟨w16, by rw [← hw16]; exact boxF_run w11 x, fun w17 d17 => ?_⟩
    have hb17 := hkeep hbx (.drew _ d17)
    have hf17 : Fr (fun _ => False) w11 w17 := hfb.trans' (.drew _ d17)
    refine ⟨fun w' => w'.heap[w11.heap.size]? = some (.cells (encF x).toArray T_api_File (0, 0)), hb17, x.data, hp1, x.data, hp1, x.data, hp1, x.path, hp0, (crc32_spec x.data (by omega) w17).mono ?_⟩
    rintro e w28 ⟨rfl, hf28⟩
    have hcrc := (crcW x.data.data.toList).isLt
    refine ⟨_, rfl, hkeep hb17 hf28, (facts_spec 0 (crcW x.data.data.toList).toNat x.data.size x.data.size (by decide) hcrc (by omega) (by omega) x.path (by omega) w28).mono ?_⟩
    rintro e w31 ⟨rfl, hf31⟩
    have hb31 := hkeep (hkeep hb17 hf28) hf31
    have hF : ByteArray.mk (factsL 0 (crcW x.data.data.toList).toNat x.data.size x.data.size x.path.size).toArray = ⟨(factF x).toArray⟩ := rfl
    have hFs : (ByteArray.mk (factF x).toArray).size = 26 := by rw [bs_mksize]; exact factsL_len _ _ _ _ _
    have c4 : ∀ u v p q : UInt8, (ByteArray.mk #[u, v, p, q]).size = 4 := fun _ _ _ _ => rfl
    refine ⟨_, rfl, hb31, fun w33 d33 => ?_⟩
    rw [hF]
    have hb33 := hkeep hb31 (.drew _ d33)
    have hf33 : Fr (fun _ => False) w11 w33 := ((hf17.trans' hf28).trans' hf31).trans' (.drew _ d33)
    refine ⟨fun w' => w'.heap[w11.heap.size]? = some (.cells (encF x).toArray T_api_File (0, 0)), hb33, x.path, hp0, (two_spec 20 (by decide) w33).mono ?_⟩
    rintro e w38 ⟨rfl, f38⟩
    have b38 := hkeep hb33 f38
    refine ⟨_, rfl, b38, by simp only [le_size, c4]; omega, by simp only [ByteArray.size_append, le_size, c4, hFs]; omega, (two_spec 0 (by decide) w38).mono ?_⟩
    rintro e w41 ⟨rfl, f41⟩
    have b41 := hkeep b38 f41
    refine ⟨_, rfl, b41, by simp only [ByteArray.size_append, le_size, c4, hFs]; omega, (two_spec 0 (by decide) w41).mono ?_⟩
    rintro e w44 ⟨rfl, f44⟩
    have b44 := hkeep b41 f44
    refine ⟨_, rfl, b44, by simp only [ByteArray.size_append, le_size, c4, hFs]; omega, (two_spec 0 (by decide) w44).mono ?_⟩
    rintro e w47 ⟨rfl, f47⟩
    have b47 := hkeep b44 f47
    refine ⟨_, rfl, b47, by simp only [ByteArray.size_append, le_size, c4, hFs]; omega, (four_spec 0 (by decide) w47).mono ?_⟩
    rintro e w50 ⟨rfl, f50⟩
    have b50 := hkeep b47 f50
    refine ⟨_, rfl, b50, by simp only [ByteArray.size_append, le_size, c4, hFs]; omega, (four_spec l8.len (by omega) w50).mono ?_⟩
    rintro e w53 ⟨rfl, f53⟩
    have b53 := hkeep b50 f53
    have hf53 : Fr (fun _ => False) w11 w53 := (((((hf33.trans' f38).trans' f41).trans' f44).trans' f47).trans' f50).trans' f53
    have hs53 := hf53.size
    have hws := hf.size
    have ho8' := ho8.keep hf53 (by simp)
    have ho9' := ho9.keep hf53 (by simp)
    obtain ⟨Z, hZ⟩ : ∃ Z : ByteArray, ⟨#[80, 75, 1, 2]⟩ ++ ⟨(littleB 2 20).toArray⟩ ++ ⟨(factF x).toArray⟩ ++ ⟨(littleB 2 0).toArray⟩ ++ ⟨(littleB 2 0).toArray⟩ ++ ⟨(littleB 2 0).toArray⟩ ++ ⟨(littleB 4 0).toArray⟩ ++ ⟨(littleB 4 l8.len).toArray⟩ ++ x.path = Z := ⟨_, rfl⟩
    have hZl : Z.data.toList = cenL x l8.len := by
      rw [← hZ]
      simp only [bs_app, List.append_assoc]
      rfl
    have hZs : Z.size = 46 + x.path.size := by rw [← bs_len, hZl, cenL_len]
    refine ⟨_, rfl, b53, by simp only [ByteArray.size_append, le_size, c4, hFs]; omega, by simp only [ByteArray.size_append, le_size, c4, hFs]; omega, ?_⟩
    rw [hZ]
    obtain ⟨w55, l56, hr55, ho55, hf55, hs55⟩ := append_str (P := Tryd.prog) (t := T_S_uint8) (u := T_string) elByte (by kernel_rfl) ho9' Z (by rw [bv_len]; omega) (by omega)
    have b55 : w55.heap[w11.heap.size]? = some (.cells (encF x).toArray T_api_File (0, 0)) := hf55.keep b53 fun ⟨y, hy, e⟩ => by have := (ho9.blk hy).2; omega
    refine ⟨w55, l56, hr55, b55, by simp only [c4, hFs]; omega, x.path, hp0 _ b55, by simp only [ByteArray.size_append, c4, hFs]; omega, x.data, hp1 _ b55, by simp only [ByteArray.size_append, c4, hFs]; omega, ?_⟩
    obtain ⟨V, hV⟩ : ∃ V : ByteArray, ⟨#[80, 75, 3, 4]⟩ ++ ⟨(factF x).toArray⟩ ++ x.path ++ x.data = V := ⟨_, rfl⟩
    have hVl : V.data.toList = locL x := by
      rw [← hV]
      simp only [bs_app, List.append_assoc]
      rfl
    have hVs : V.size = 30 + x.path.size + x.data.size := by rw [← bs_len, hVl, locL_len]
    rw [hV]
    have ho8'' := ho8'.keep hf55 fun p hp' ⟨q, hq, e⟩ => hdis p q hp' hq e
    have hs55' := hf55.size
    obtain ⟨w59, l60, hr59, ho59, hf59, hs59⟩ := append_str (P := Tryd.prog) (t := T_S_uint8) (u := T_string) elByte (by kernel_rfl) ho8'' V (by rw [bv_len]; omega) (by omega)
    have e1 : IntKind.i64.wrap ((k : Int) + 1) = ((k + 1 : Nat) : Int) := by rw [wrap_i64 (by omega) (by omega)]; omega
    rw [e1]
    have happ : ∀ A B : List UInt8, byteV A ++ byteV B = byteV (A ++ B) := fun A B => by unfold byteV; rw [List.map_append]
    have hne56 : ∀ p q, l8.a = some p → l56.a = some q → p.block ≠ q.block := fun p q hp' hq => by
      rcases hs55 q hq with ⟨z, hz, e⟩ | h
      · rw [← e]; exact hdis p z hp' hz
      · have := (ho8'.blk hp').2; omega
    refine ⟨w59, l60, hr59, ⟨k + 1, rfl, by omega, ?_, ?_, fun p q hp' hq => ?_, ((hf.trans' hf53).trans hf55 fun q hq ⟨y, hy, e⟩ => by have := (ho9.blk hy).1; omega).trans hf59 fun q hq ⟨y, hy, e⟩ => by have := (ho8.blk hy).1; omega⟩, by dsimp only; omega⟩
    · rw [htk, outL_snoc, ← happ, ← hVl]; exact ho59
    · rw [htk, idxL_snoc, ← happ, Nat.zero_add, ← hl8, ← hZl]
      exact ho55.keep hf59 fun q hq ⟨y, hy, e⟩ => hne56 y q hy hq e.symm
    · rcases hs59 p hp' with ⟨z, hz, e⟩ | h
      · rw [← e]; exact hne56 z q hz hq
      · have := (ho55.blk hq).2; omega
  · have hge := of_decide_eq_false hge
    have hk' : k = ys.length := by omega
    rw [hk', List.take_length] at ho8 ho9 hl8 hl9 hok8 hok9
    have hn600 : n ≤ 600 := by omega
    have c4 : ∀ u v p q : UInt8, (ByteArray.mk #[u, v, p, q]).size = 4 := fun _ _ _ _ => rfl
    refine (two_spec n (by omega) w11).mono ?_
    rintro e w62 ⟨rfl, f62⟩
    refine ⟨_, rfl, (two_spec 0 (by decide) w62).mono ?_⟩
    rintro e w65 ⟨rfl, f65⟩
    refine ⟨_, rfl, by simp only [le_size, c4]; omega, (two_spec 0 (by decide) w65).mono ?_⟩
    rintro e w68 ⟨rfl, f68⟩
    refine ⟨_, rfl, by simp only [ByteArray.size_append, le_size, c4]; omega, by simp only [ByteArray.size_append, le_size, c4]; omega, by simp only [ByteArray.size_append, le_size, c4]; omega, (four_spec l9.len (by omega) w68).mono ?_⟩
    rintro e w71 ⟨rfl, f71⟩
    refine ⟨_, rfl, by simp only [ByteArray.size_append, le_size, c4]; omega, (four_spec l8.len (by omega) w71).mono ?_⟩
    rintro e w74 ⟨rfl, f74⟩
    refine ⟨_, rfl, by simp only [ByteArray.size_append, le_size, c4]; omega, (two_spec 0 (by decide) w74).mono ?_⟩
    rintro e w77 ⟨rfl, f77⟩
    have hf77 : Fr (fun _ => False) w11 w77 := ((((f62.trans' f65).trans' f68).trans' f71).trans' f74).trans' f77
    have hs77 := hf77.size
    have hws := hf.size
    have ho8' := ho8.keep hf77 (by simp)
    have ho9' := ho9.keep hf77 (by simp)
    refine ⟨_, rfl, by simp only [ByteArray.size_append, le_size, c4]; omega, ?_⟩
    obtain ⟨w79, l80, hr79, ho79, hf79, _⟩ := append_all' (P := Tryd.prog) (t := T_S_uint8) elByte ho8' l9.cap ho9'.reads (bv_one _) (by rw [bv_len, bv_len]; unfold maxLen; omega) (by rw [bv_len, bv_len]; omega) (by omega) (m := l9.len) (by rw [bv_len, hl9])
    refine ⟨w79, l80, hr79, ?_⟩
    obtain ⟨Z, hZ⟩ : ∃ Z : ByteArray, ⟨#[80, 75, 5, 6]⟩ ++ ⟨(littleB 2 0).toArray⟩ ++ ⟨(littleB 2 0).toArray⟩ ++ ⟨(littleB 2 n).toArray⟩ ++ ⟨(littleB 2 n).toArray⟩ ++ ⟨(littleB 4 l9.len).toArray⟩ ++ ⟨(littleB 4 l8.len).toArray⟩ ++ ⟨(littleB 2 0).toArray⟩ = Z := ⟨_, rfl⟩
    have hZl : Z.data.toList = endL n l9.len l8.len := by
      rw [← hZ]
      simp only [bs_app, List.append_assoc]
      rfl
    have hZs : Z.size = 22 := by rw [← hZ]; simp only [ByteArray.size_append, le_size, c4]
    rw [hZ]
    have hs79 := hf79.size
    obtain ⟨w81, l82, hr81, ho81, hf81, _⟩ := append_str (P := Tryd.prog) (t := T_S_uint8) (u := T_string) elByte (by kernel_rfl) ho79 Z (by rw [List.length_append, bv_len, bv_len]; omega) (by omega)
    have happ : ∀ A B : List UInt8, byteV A ++ byteV B = byteV (A ++ B) := fun A B => by unfold byteV; rw [List.map_append]
    rw [happ, happ] at ho81
    refine ⟨w81, l82, hr81, w81, _, bytes_str (P := Tryd.prog) (t := T_S_uint8) (d := T_string) elByte.sl (by kernel_rfl) (by kernel_rfl) l82.cap ho81.reads (by rw [ho81.len, bv_len]), ?_, ((hf.trans' hf77).trans hf79 fun q hq ⟨y, hy, e⟩ => by have := (ho8.blk hy).1; omega).trans hf81 fun q hq ⟨y, hy, e⟩ => by have := (ho79.blk hy).1; omega⟩
    unfold zipE zipL
    rw [if_pos h0, h0, hZl, hn, hl8, hl9, List.append_assoc]
end Go.Proofs.YtfoeooddnmppnaaDoor

/- ModzipTurns: the order of a commit's files shows neither in the module's files, nor in its archive, nor in its hash. Condition: paths are of at most a megabyte. -/
set_option linter.unusedVariables false
namespace Go.Proofs.YtfoeooddnmppnaaDoor
open Go Vc ShaM HexM StabM B64M Go.Proofs

/-- One element in a new block. -/
theorem ownK_one {α : Type} {enc : α → List Value} {k : Nat} (hk : ∀ x, (enc x).length = k) (w : World) (e : TypeId) (x : α) : OwnK enc k (w.alloc (.cells (enc x).toArray e)) w.heap.size e ⟨some ⟨w.heap.size, 0, none⟩, 1, 1⟩ [x] :=
  ⟨rfl, by simp [hk], .inr ⟨w.heap.size, 1, (enc x).toArray, rfl, Nat.le_refl _, alloc_new _ _, Nat.le_refl _, by unfold maxLen; omega, by simp [hk], by simp [hk, List.take_of_length_le]⟩⟩
def packE (m v : ByteArray) (ys : List FileE) : Value := if chkE ys = 0 then .tuple #[.string (zipE (ys.map (preF (frontE m v)))), .int .i64 (zchk (ys.map (preF (frontE m v))))] else .tuple #[.string ⟨#[]⟩, .int .i64 (chkE ys)]
theorem pack_spec {w : World} {a : Option Addr} {n c : Nat} {ys : List FileE} (hr : ReadsK encF 2 w a ys) (hn : ys.length = n) (hl : n ≤ 100000) (m v : ByteArray) (hmv : m.size + v.size ≤ 1000000) (hp : ∀ y ∈ ys, y.path.size ≤ 4294967000) (ht : totalF ys ≤ 4611686018427387904) :
    Calls Tryd.prog F_modzip_Pack #[.string m, .string v, .slice a n c] w fun e w' => e = .returned (packE m v ys) ∧ Fr (fun _ => False) w w' := by
  refine vc_modzip_Pack_ok (R := fun u w' => u = packE m v ys ∧ Fr (fun _ => False) w w') ?_ (fun u w' h => ⟨by rw [h.1], h.2⟩)
  have hfs := front_size m v
  refine (check_spec hr hn hl (fun y hy => Nat.le_trans (hp y hy) (by decide)) ht).mono ?_
  rintro e w2 ⟨rfl, hf2⟩
  refine ⟨_, rfl, fun h => ⟨?_, hf2⟩, fun h => ?_⟩
  · unfold packE; rw [if_neg (by simpa using h)]
  have h0 : chkE ys = 0 := by simpa using h
  refine (front_spec m v (by omega) w2).mono ?_
  rintro e w5 ⟨rfl, hw⟩
  replace hw := hw.symm
  subst hw
  refine ⟨_, rfl, (prefixed_spec (hr.keep hf2 (by simp)) hn (by omega) (frontE m v) fun x hx => by have := hp x hx; omega).mono ?_⟩
  rintro e w8 ⟨l9, rfl, ho8, hf8⟩
  have hl9 := ho8.len
  rw [List.length_map] at hl9
  have htm : totalF (ys.map (preF (frontE m v))) = totalF ys := by
    unfold totalF; rw [List.map_map]; rfl
  refine ⟨l9, rfl, (zwrite_spec (ho8.reads fun _ => rfl) ho8.1 (by omega) (fun y hy => ?_) (by rw [htm]; exact ht)).mono ?_⟩
  · obtain ⟨x, hx, rfl⟩ := List.mem_map.1 hy
    have := hp x hx
    unfold preF; rw [ByteArray.size_append]; omega
  rintro e w11 ⟨rfl, hf11⟩
  refine ⟨_, _, rfl, ?_, (hf2.trans' hf8).trans' hf11⟩
  unfold packE; rw [if_pos h0]
theorem packE_pair (m v : ByteArray) (ys : List FileE) : ∃ (s : ByteArray) (z : Int), packE m v ys = .tuple #[.string s, .int .i64 z] := by
  unfold packE; split
  · exact ⟨_, _, rfl⟩
  · exact ⟨_, _, rfl⟩
theorem srt_ge {zs : List FileE} (h : Srt ltP zs) : zs.Pairwise fun x y => ¬ y.path.data.toList < x.path.data.toList := h.imp fun h => of_decide_eq_false h
theorem pre_nodup {front : ByteArray} {ys : List FileE} (h : (ys.map (·.path)).Nodup) : ((ys.map (preF front)).map (·.path)).Nodup := by
  rw [List.map_map]
  have e : ((fun x : FileE => x.path) ∘ preF front) = (fun s : ByteArray => front ++ s) ∘ (fun x : FileE => x.path) := rfl
  rw [e, ← List.map_map]
  refine List.Pairwise.map _ (fun a b hab he => hab ?_) h
  refine bs_ext ?_
  have := congrArg (fun s : ByteArray => s.data.toList) he
  simp only [bs_app] at this
  exact List.append_cancel_left this
set_option maxHeartbeats 1600000 in
theorem turns_walk {a : Option Addr} {n c : Nat} {W : World} {xs : List ItE} (hr : ReadsK encI 3 W a xs) (hn : xs.length = n) (hb : ∀ x ∈ xs, x.path.size ≤ 1048576) (dir : ByteArray) (hdir : dir.size ≤ reachBytes) (hml : MaxL W) :
    Calls Tryd.prog F_cartularylaw24_ModzipTurns #[.slice a n c, .string dir] W fun e w' => e = .returned (.bool true) ∧ RowKit.Below W.heap.size W w' := by
  refine vc_cartularylaw24_ModzipTurns_ok (R := fun u w' => u = .bool true ∧ Fr (fun _ => False) W w') ?_ (fun u w' h => ⟨by rw [h.1], (h.2.mono fun _ _ h => h.elim : Fr (fun k => W.heap.size ≤ k) W w').below (Nat.le_refl _)⟩)
  have hrb : reachBytes ≤ 140737488355328 := by decide
  refine (short24_spec hr hn 40 (by decide)).mono ?_
  rintro e w2 ⟨l3, rfl, ho2, hf2⟩
  obtain ⟨hl40, hz⟩ := shortI_facts (xs := xs) 40
  have hzp : ∀ x ∈ shortI xs 40, x.path.size ≤ 1048576 := fun x hx => by obtain ⟨y, hy, e⟩ := (hz x hx).2; rw [e]; exact hb y hy
  have hzd : ∀ x ∈ shortI xs 40, x.data.size ≤ 400 := fun x hx => (hz x hx).1
  generalize shortI xs 40 = zs at *
  have hl3 := ho2.len
  have hcap3 := ho2.cap
  have hawake : ∀ w', Fr (fun _ => False) W w' → Calls Tryd.prog F_cartularylaw24_awake #[] w' fun e8 w9 => ∃ b10 : Bool, e8 = .returned (.bool b10) ∧ ((.bool b10 : Value) = .bool true ∧ Fr (fun _ => False) W w9) := fun w' hw' => by
    refine (awake24_spec (hml.keep hw')).mono ?_
    rintro e w9 ⟨rfl, hf9⟩
    exact ⟨true, rfl, rfl, hw'.trans' hf9⟩
  refine ⟨l3, rfl, fun w4 h4 => ?_⟩
  have hf4 : Fr (fun _ => False) w2 w4 := by rw [h4]; exact .alloc _ _ _
  have ho4 : OwnK encI 3 w4 w2.heap.size T_modzip_Item ⟨some ⟨w2.heap.size, 0, none⟩, 0, 0⟩ [] := by rw [h4]; exact .empty w2 T_modzip_Item
  refine ⟨fun l i w' => ∃ k : Nat, i = k ∧ k ≤ zs.length ∧ OwnK encI 3 w' w2.heap.size T_modzip_Item l (zs.take k).reverse ∧ ((zs.take k).map (·.path)).Nodup ∧ Fr (fun _ => False) w2 w', fun _ i _ => zs.length - i.toNat, ⟨0, rfl, Nat.zero_le _, ho4, by simp, hf4⟩, ?_⟩
  clear ho4 hf4 h4
  rintro l7 i w9 ⟨k, rfl, hk, ho9, hnd, hf9⟩
  have ho2_9 := ho2.keep hf9 (by simp)
  refine ⟨fun hlt => ?_, fun hge => ?_⟩
  · have hlt := of_decide_eq_true hlt
    have hkl : k < zs.length := by omega
    have hx : zs[k]? = some zs[k] := List.getElem?_eq_getElem hkl
    have htk : zs.take (k + 1) = zs.take k ++ [zs[k]] := (List.take_append_getElem hkl).symm
    generalize zs[k] = x at hx htk
    obtain ⟨ad, had, hld⟩ := ((ho2_9.reads fun _ => rfl).load elI hx)
    refine ⟨⟨by omega, by omega⟩, ad, had, x.path, x.mode, x.data, by rw [Int.toNat_natCast]; exact hld, fun w14 h14 => ?_⟩
    subst h14
    obtain ⟨w15, hw15⟩ : ∃ w15, w9.alloc (.cells (encI x).toArray T_modzip_Item) = w15 := ⟨_, rfl⟩
    have hfb : Fr (fun _ => False) w9 w15 := by rw [← hw15]; exact .alloc _ _ _
    have hbx : ∀ w', Fr (fun _ => False) w15 w' → w'.heap[w9.heap.size]? = some (.cells (encI x).toArray T_modzip_Item (0, 0)) := fun w' hw' => hw'.keep (by rw [← hw15]; exact alloc_new _ _) (by simp)
    have hpx : ∀ w', Fr (fun _ => False) w15 w' → w'.cell? ⟨w9.heap.size, 0, none⟩ = some (.string x.path) := fun w' hw' => by rw [cell_blk (hbx w' hw')]; rfl
    refine ⟨w15, by rw [← hw15]; exact boxI_run w9 x, ⟨by omega, by omega⟩, fun i w' => ∃ j : Nat, i = j ∧ j ≤ k ∧ (∀ y ∈ zs.take j, x.path ≠ y.path) ∧ Fr (fun _ => False) w15 w', fun i _ => k - i.toNat, ⟨0, rfl, Nat.zero_le _, fun y hy => by simp at hy, .refl _ _⟩, ?_⟩
    rintro i w19 ⟨j, rfl, hj, hno, hf19⟩
    rw [Int.toNat_natCast]
    refine ⟨fun hlt2 => ?_, fun hge2 => ?_⟩
    · have hlt2 := of_decide_eq_true hlt2
      have hjl : j < zs.length := by omega
      have hy : zs[j]? = some zs[j] := List.getElem?_eq_getElem hjl
      have htj : zs.take (j + 1) = zs.take j ++ [zs[j]] := (List.take_append_getElem hjl).symm
      generalize zs[j] = y at hy htj
      have hsub := ((ho2_9.keep (hfb.trans' hf19) (by simp)).reads fun _ => rfl).sub (cap := l3.cap) (by omega) 0
      rw [List.drop_zero] at hsub
      obtain ⟨ad2, had2, hld2⟩ := hsub.load elI hy
      refine ⟨⟨by omega, by omega⟩, ad2, had2, y.path, y.mode, y.data, by rw [Int.toNat_natCast]; exact hld2, fun w24 h24 => ?_⟩
      subst h24
      obtain ⟨w25, hw25⟩ : ∃ w25, w19.alloc (.cells (encI y).toArray T_modzip_Item) = w25 := ⟨_, rfl⟩
      have hfb25 : Fr (fun _ => False) w19 w25 := by rw [← hw25]; exact .alloc _ _ _
      have hby : w25.heap[w19.heap.size]? = some (.cells (encI y).toArray T_modzip_Item (0, 0)) := by rw [← hw25]; exact alloc_new _ _
      have hf25 := hf19.trans' hfb25
      have e1 : IntKind.i64.wrap ((j : Int) + 1) = ((j + 1 : Nat) : Int) := by rw [wrap_i64 (by omega) (by omega)]; omega
      rw [e1]
      refine ⟨w25, by rw [← hw25]; exact boxI_run w19 y, x.path, hpx _ hf25, y.path, by rw [cell_blk hby]; rfl, fun heq => hawake _ (((hf2.trans' hf9).trans' hfb).trans' hf25), fun hne => ⟨⟨j + 1, rfl, by omega, fun u hu => ?_, hf25⟩, by dsimp only; omega⟩⟩
      rw [htj] at hu
      rcases List.mem_append.1 hu with hu | hu
      · exact hno u hu
      · rw [List.mem_singleton] at hu
        rw [bs_eq] at hne
        rw [hu]; exact of_decide_eq_false hne
    · have hge2 := of_decide_eq_false hge2
      have hjk : j = k := by omega
      subst hjk
      refine ⟨x.path, x.mode, x.data, boxI_load (hbx _ hf19), fun w34 h34 => ?_⟩
      have hone : OwnK encI 3 w34 w19.heap.size T_modzip_Item ⟨some ⟨w19.heap.size, 0, none⟩, 1, 1⟩ [x] := by rw [h34]; exact ownK_one (fun _ => rfl) w19 T_modzip_Item x
      have hf34 : Fr (fun _ => False) w9 w34 := (hfb.trans' hf19).trans' (by rw [h34]; exact .alloc _ _ _)
      have hs34 : w19.heap.size ≤ w34.heap.size := by rw [h34]; simp
      have hrl : (zs.take j).reverse.length ≤ 40 := by rw [List.length_reverse, List.length_take]; omega
      obtain ⟨w35, l36, hr35, ho35, hf35⟩ := append_allK elI hone l7.cap (((ho9.keep hf34 (by simp))).reads fun _ => rfl) (by simp only [List.length_cons, List.length_nil]; unfold maxLen; omega) (by simp only [List.length_cons, List.length_nil]; omega) hs34 (m := l7.len) ho9.1
      have e1 : IntKind.i64.wrap ((j : Int) + 1) = ((j + 1 : Nat) : Int) := by rw [wrap_i64 (by omega) (by omega)]; omega
      rw [e1]
      have hs2 : w2.heap.size ≤ w19.heap.size := by have h1 := hf9.size; have h2 := hfb.size; have h3 := hf19.size; omega
      refine ⟨w35, l36, hr35, ⟨j + 1, rfl, by omega, ?_, ?_, (hf9.trans' hf34).trans hf35 fun q hq ⟨y, hy, e⟩ => by cases hy; simp only at e; omega⟩, by dsimp only; omega⟩
      · rw [htk, List.reverse_append]
        exact ho35.mono hs2
      · rw [htk, List.map_append, List.nodup_append]
        refine ⟨hnd, by simp, fun p hp q hq he => ?_⟩
        obtain ⟨u, hu, rfl⟩ := List.mem_map.1 hp
        rw [List.map_cons, List.map_nil, List.mem_singleton] at hq
        exact hno u hu (by rw [he, hq])
  · have hge := of_decide_eq_false hge
    have hk' : k = zs.length := by omega
    rw [hk', List.take_length] at hnd ho9
    have hrev : zs.Perm zs.reverse := (List.reverse_perm zs).symm
    have hl7 := ho9.1
    rw [List.length_reverse] at hl7
    have hf9W := hf2.trans' hf9
    refine (select_spec (ho2_9.reads fun _ => rfl) ho2_9.1 (by omega) (dir := dir) (fun x hx => Nat.le_trans (hzp x hx) (by decide)) (fun x hx => Nat.le_trans (hzd x hx) (by decide)) (by omega) (hml.keep hf9W)).mono ?_
    rintro e w38 ⟨v, rfl, hf38, hcase⟩
    have ho38 := ho9.keep hf38 (by simp)
    have hsel2 := select_spec (c := l7.cap) (ho38.reads fun _ => rfl) ho38.1 (by omega) (dir := dir) (fun x hx => Nat.le_trans (hzp x (hrev.symm.subset hx)) (by decide)) (fun x hx => Nat.le_trans (hzd x (hrev.symm.subset hx)) (by decide)) (by omega) (hml.keep (hf9W.trans' hf38))
    have hf38W := hf9W.trans' hf38
    have hcan : ∃ (l39 : Sl) (z : Int) (rs : List FileE), v = .tuple #[.slice l39.a l39.len l39.cap, .int .i64 z] ∧ OwnK encF 2 w38 w9.heap.size T_api_File l39 rs ∧
        (∀ v2 w42, SelR w38 zs.reverse dir v2 w42 → Fr (fun _ => False) w38 w42 ∧ ∃ l43 : Sl, v2 = .tuple #[.slice l43.a l43.len l43.cap, .int .i64 z] ∧ OwnK encF 2 w42 w38.heap.size T_api_File l43 rs) ∧
        (∀ x ∈ rs, x.path.size ≤ 1048576 ∧ x.data.size ≤ 400) ∧ rs.length ≤ 41 ∧ (rs.map (·.path)).Nodup := by
      rcases hcase with ⟨hd0, rfl⟩ | ⟨hok, ys, hp, hs, hc⟩
      · refine ⟨⟨none, 0, 0⟩, 4, [], rfl, .nil _ _ _, fun v2 w42 ⟨hfv, hcv⟩ => ⟨hfv, ⟨none, 0, 0⟩, ?_, .nil _ _ _⟩, fun x hx => by simp at hx, by simp, by simp⟩
        rcases hcv with ⟨_, rfl⟩ | ⟨h, _⟩
        · rfl
        · rw [hd0] at h; cases h
      · have hnds := sel_nodup hnd dir
        have hsame : ∀ ys2 : List FileE, ys2.Perm (selE zs.reverse dir) → Srt ltP ys2 → ys2 = ys := fun ys2 hp2 hs2 => by
          have hpp : ys2.Perm ys := (hp2.trans (sel_perm hrev hnd dir).symm).trans hp.symm
          have hn2 : (ys2.map (·.path)).Nodup := ((hpp.trans hp).map _).nodup_iff.2 hnds
          exact sorted_one hpp hn2 (srt_ge hs2) (srt_ge hs)
        rcases hc with ⟨hne, rfl⟩ | ⟨hc0, l, rfl, ho⟩
        · refine ⟨⟨none, 0, 0⟩, chkE ys, [], rfl, .nil _ _ _, fun v2 w42 ⟨hfv, hcv⟩ => ⟨hfv, ⟨none, 0, 0⟩, ?_, .nil _ _ _⟩, fun x hx => by simp at hx, by simp, by simp⟩
          rcases hcv with ⟨h, _⟩ | ⟨_, ys2, hp2, hs2, hc2⟩
          · rw [hok] at h; cases h
          rw [hsame ys2 hp2 hs2] at hc2
          rcases hc2 with ⟨_, rfl⟩ | ⟨h, _⟩
          · rfl
          · exact absurd h hne
        · refine ⟨l, 0, ys, rfl, ho, fun v2 w42 ⟨hfv, hcv⟩ => ⟨hfv, ?_⟩, fun x hx => sel_sizes (P := 1048576) (B := 400) (by decide) hzp hzd x (hp.subset hx), by have h1 := hp.length_eq; have h2 := sel_len zs dir; omega, ((hp.map _).nodup_iff.2 hnds)⟩
          rcases hcv with ⟨h, _⟩ | ⟨_, ys2, hp2, hs2, hc2⟩
          · rw [hok] at h; cases h
          rw [hsame ys2 hp2 hs2] at hc2
          rcases hc2 with ⟨h, _⟩ | ⟨_, l43, rfl, ho2⟩
          · exact absurd hc0 h
          · exact ⟨l43, rfl, ho2⟩
    clear hcase
    obtain ⟨l39, z, rs, rfl, ho39, hsec, hrs, hrl, hrn⟩ := hcan
    refine ⟨l39, z, rfl, hsel2.mono ?_⟩
    rintro e w42 ⟨v2, rfl, hR2⟩
    obtain ⟨hf42, l43, rfl, ho43⟩ := hsec v2 w42 hR2
    have ho39' := ho39.keep hf42 (by simp)
    have hl39 := ho39'.len
    have hl43 := ho43.len
    have hf42W := hf38W.trans' hf42
    refine ⟨l43, z, rfl, fun h => (by simp at h), fun _ => ⟨fun h => (by rw [hl39, hl43] at h; simp at h), fun _ w45 h45 => ?_⟩⟩
    have hf45 : Fr (fun _ => False) w42 w45 := by rw [h45]; exact .alloc _ _ _
    have ho45 : OwnK encF 2 w45 w42.heap.size T_api_File ⟨some ⟨w42.heap.size, 0, none⟩, 0, 0⟩ [] := by rw [h45]; exact .empty w42 T_api_File
    refine ⟨fun l i w' => ∃ k : Nat, i = k ∧ k ≤ rs.length ∧ OwnK encF 2 w' w42.heap.size T_api_File l (rs.take k).reverse ∧ Fr (fun _ => False) w42 w', fun _ i _ => rs.length - i.toNat, ⟨0, rfl, Nat.zero_le _, ho45, hf45⟩, ?_⟩
    clear ho45 hf45 h45
    rintro l48 i w50 ⟨k, rfl, hk, ho50, hf50⟩
    have hf50W := hf42W.trans' hf50
    refine ⟨fun hlt w51 d51 => ?_, fun hge => ?_⟩
    · have hlt := of_decide_eq_true hlt
      have hkl : k < rs.length := by omega
      have hx : rs[k]? = some rs[k] := List.getElem?_eq_getElem hkl
      have htk : rs.take (k + 1) = rs.take k ++ [rs[k]] := (List.take_append_getElem hkl).symm
      generalize rs[k] = x at hx htk
      have hf51 : Fr (fun _ => False) w42 w51 := hf50.trans' (.drew _ d51)
      obtain ⟨ad, had, hld⟩ := load_at (ho39'.keep hf51 (by simp)) hx
      obtain ⟨ad2, had2, hld2⟩ := load_at (ho43.keep hf51 (by simp)) hx
      refine ⟨fun w' => Fr (fun _ => False) w51 w', .refl _ _, ⟨by omega, by omega⟩, ad, had, ⟨by omega, by omega⟩, ad2, had2, x.path, x.data, by rw [Int.toNat_natCast]; exact hld, x.path, x.data, by rw [Int.toNat_natCast]; exact hld2, fun h => ?_, fun _ => ⟨⟨by omega, by omega⟩, ad, had, x.path, x.data, by rw [Int.toNat_natCast]; exact hld w51 (.refl _ _), fun w64 h64 => ?_⟩⟩
      · rw [bs_eq, bs_eq, decide_eq_true rfl, decide_eq_true rfl] at h
        cases h
      have hone : OwnK encF 2 w64 w51.heap.size T_api_File ⟨some ⟨w51.heap.size, 0, none⟩, 1, 1⟩ [x] := by rw [h64]; exact ownK_one (enc := encF) (k := 2) (fun _ => rfl) w51 T_api_File x
      have hf64 : Fr (fun _ => False) w51 w64 := by rw [h64]; exact .alloc _ _ _
      have hrl2 : (rs.take k).reverse.length ≤ 41 := by rw [List.length_reverse, List.length_take]; omega
      have ho64 := (ho50.drew d51).keep hf64 (by simp)
      obtain ⟨w65, l66, hr65, ho65, hf65⟩ := append_allK elF hone l48.cap (ho64.reads fun _ => rfl) (by simp only [List.length_cons, List.length_nil]; unfold maxLen; omega) (by simp only [List.length_cons, List.length_nil]; omega) hf64.size (m := l48.len) ho50.1
      have e1 : IntKind.i64.wrap ((k : Int) + 1) = ((k + 1 : Nat) : Int) := by rw [wrap_i64 (by omega) (by omega)]; omega
      rw [e1]
      have hs51 := hf51.size
      refine ⟨w65, l66, hr65, ⟨k + 1, rfl, by omega, ?_, (hf51.trans' hf64).trans hf65 fun q hq ⟨y, hy, e⟩ => by cases hy; simp only at e; omega⟩, by dsimp only; omega⟩
      rw [htk, List.reverse_append]
      exact ho65.mono hs51
    · have hge := of_decide_eq_false hge
      have hk' : k = rs.length := by omega
      rw [hk', List.take_length] at ho50
      refine ⟨fun _ => hawake _ hf50W, fun _ => ?_⟩
      have ho39b := ho39'.keep hf50 (by simp)
      have ho43b := ho43.keep hf50 (by simp)
      have htot := totalF_bound (B := 400) rs fun f hf => (hrs f hf).2
      have hpb : ∀ x ∈ rs, x.path.size ≤ 4294967000 := fun x hx => Nat.le_trans (hrs x hx).1 (by decide)
      obtain ⟨m, hm⟩ : ∃ m : ByteArray, (⟨#[101, 120, 97, 109, 112, 108, 101, 46, 99, 111, 109, 47, 109]⟩ : ByteArray) = m := ⟨_, rfl⟩
      obtain ⟨ve, hve⟩ : ∃ ve : ByteArray, (⟨#[118, 49, 46, 48, 46, 48]⟩ : ByteArray) = ve := ⟨_, rfl⟩
      have hms : m.size + ve.size ≤ 1000000 := by rw [← hm, ← hve]; decide
      rw [hm, hve]
      obtain ⟨sP, zP, hP⟩ := packE_pair m ve rs
      refine (pack_spec (ho39b.reads fun _ => rfl) ho39b.1 (by omega) m ve hms hpb (by omega)).mono ?_
      rintro e w71 ⟨rfl, hf71⟩
      rw [hP]
      refine ⟨sP, zP, rfl, (pack_spec ((ho43b.keep hf71 (by simp)).reads fun _ => rfl) ho43b.1 (by omega) m ve hms hpb (by omega)).mono ?_⟩
      rintro e w75 ⟨rfl, hf75⟩
      rw [hP]
      refine ⟨sP, zP, rfl, (awake24_spec (hml.keep ((hf50W.trans' hf71).trans' hf75))).mono ?_⟩
      rintro e w79 ⟨rfl, hf79⟩
      have hf79' : Fr (fun _ => False) w50 w79 := (hf71.trans' hf75).trans' hf79
      refine ⟨true, rfl, fun _ => ⟨fun _ => ⟨fun _ => ?_, fun h => (by simp at h)⟩, fun h => (by rw [bs_eq, decide_eq_true rfl] at h; cases h)⟩, fun h => (by cases h)⟩
      have ho39c := ho39b.keep hf79' (by simp)
      have ho50c := ho50.keep hf79' (by simp)
      have h109 : (⟨#[109]⟩ : ByteArray).size + (⟨#[118]⟩ : ByteArray).size ≤ 4611686018427387904 := by
        show 1 + 1 ≤ 4611686018427387904
        omega
      have hfsz : (frontE ⟨#[109]⟩ ⟨#[118]⟩).size = 4 := rfl
      refine (hash_spec (ho39c.reads fun _ => rfl) ho39c.1 (by omega) ⟨#[109]⟩ ⟨#[118]⟩ (fun x hx => by have := (hrs x hx).1; omega) h109 (fun x hx => by have := (hrs x hx).2; omega)).mono ?_
      rintro e w82 ⟨p1, rfl, hp1, hs1, _, hf82⟩
      have hl48 : l48.len ≤ 41 := by rw [ho50c.len, List.length_reverse]; exact hrl
      refine ⟨_, rfl, (hash_spec ((ho50c.keep hf82 (by simp)).reads fun _ => rfl) ho50c.1 (by omega) ⟨#[109]⟩ ⟨#[118]⟩ (fun x hx => by have := (hrs x (List.mem_reverse.1 hx)).1; omega) h109 (fun x hx => by have := (hrs x (List.mem_reverse.1 hx)).2; omega)).mono ?_⟩
      rintro e w85 ⟨p2, rfl, hp2, hs2, _, hf85⟩
      have hpp : p1.Perm p2 := hp1.trans (((List.reverse_perm rs).symm.map _).trans hp2.symm)
      have hpn : (p1.map (·.path)).Nodup := (hp1.map _).nodup_iff.2 (pre_nodup hrn)
      rw [sorted_one hpp hpn (srt_ge hs1) (srt_ge hs2)]
      exact ⟨_, rfl, by rw [bs_eq, decide_eq_true rfl], ((hf50W.trans' hf79').trans' hf82).trans' hf85⟩
end Go.Proofs.YtfoeooddnmppnaaDoor

/- Slices of structs that came in, opened to cells. No condition: for all programs. -/
set_option linter.unusedVariables false
namespace Vc
open Go Go.ChangeShapes Go.WideShapes Go.Deep
section
variable {H : Type} {enc : TypeId × Value → H} {P : Program} {w : World} {base : Nat} {spare : Nat → Bool} {held : Bool}
/-- What the fields of an element say, its cells say. -/
def FieldsSay (enc : TypeId × Value → H) (P : Program) (w : World) (base : Nat) (spare : Nat → Bool) (held : Bool) (fs : Array Field) (Q : List Value → Prop) : Prop :=
  ∀ n (cs : List Value), cs.length = fs.size → (∀ (j : Nat) (f : Field) (v : Value), fs[j]? = some f → cs[j]? = some v → ∃ y, DataW.trod enc P w base spare held n f.type [v] = some y) → Q cs
theorem open_rows {t e : TypeId} {fs : Array Field} {fuel : Nat} {a : Option Addr} {len cap : Nat} {x : DataW H × List MemPlace} {Q : List Value → Prop} (ht : P.underlying t = some (.slice e)) (he : P.underlying e = some (.struct fs))
    (hone : oneCellFields P fs = true) (hC : P.cellsOf e = fs.size) (hQ : FieldsSay enc P w base spare held fs Q) (h : DataW.trod enc P w base spare held fuel t [.slice a len cap] = some x) : IsRows fs.size Q w a len := by
  intro i hi
  rcases open_slice ht h with ⟨h0, _⟩ | ⟨b, l, c, m, n, D, Pl, hcs, hb, hl, hm, hmm, hx, hi'⟩
  · simp only [List.cons.injEq, Value.slice.injEq] at h0; omega
  · simp only [List.cons.injEq, Value.slice.injEq, and_true] at hcs
    obtain ⟨rfl, rfl, rfl⟩ := hcs
    obtain ⟨cs, hc, htr⟩ := hi' i (by rw [hmm]; split <;> omega)
    obtain ⟨ys, n', _, _, hlen, hyl, hf⟩ := DataW.trod_struct he htr
    obtain ⟨_, hcl, hat⟩ := World.cells?_some hc
    rw [hC] at hcl hat
    refine ⟨b, cs, rfl, hcl, hQ n' cs hcl ?_, ?_⟩
    · intro j f v hj hv
      obtain ⟨ho, hk⟩ := hone_of hone j f hj
      have hjl : j < fs.size := (Array.getElem?_eq_some_iff.1 hj).1
      have h1 := hf j f hj
      have h2 : (cs.drop j).take 1 = [v] := by
        obtain ⟨hjl', hv'⟩ := List.getElem?_eq_some_iff.1 hv
        rw [List.drop_eq_getElem_cons hjl', hv']; rfl
      rw [ho, hk, h2, List.getElem?_eq_getElem (show j < ys.length by omega)] at h1
      exact ⟨_, h1⟩
    · intro j v hv
      have hjl := (List.getElem?_eq_some_iff.1 hv).1
      rw [← hv, ← hat j (by omega), add_add]
/-- As above, and what was read takes no more bytes than memory has. -/
def FieldsSayW (enc : TypeId × Value → H) (P : Program) (w : World) (base : Nat) (spare : Nat → Bool) (held : Bool) (fs : Array Field) (Q : List Value → Prop) : Prop :=
  ∀ n (cs : List Value), cs.length = fs.size → (∀ (j : Nat) (f : Field) (v : Value), fs[j]? = some f → cs[j]? = some v → ∃ y, DataW.trod enc P w base spare held n f.type [v] = some y ∧ (y.1.weights P f.type).all (· ≤ reachBytes) = true) → Q cs
theorem weightsAll_mem {e : TypeId} : ∀ {ds : List (DataW H)} {d : DataW H}, d ∈ ds → ∀ n ∈ d.weights P e, n ∈ DataW.weightsAll P e ds
  | d0 :: ds, d, h, n, hn => by
    simp only [DataW.weightsAll, List.mem_append]
    rcases List.mem_cons.1 h with rfl | h
    · exact .inl hn
    · exact .inr (weightsAll_mem h n hn)
theorem open_rowsW {t e : TypeId} {fs : Array Field} {fuel : Nat} {a : Option Addr} {len cap : Nat} {x : DataW H × List MemPlace} {Q : List Value → Prop} (ht : P.underlying t = some (.slice e)) (he : P.underlying e = some (.struct fs))
    (hone : oneCellFields P fs = true) (hC : P.cellsOf e = fs.size) (hsz : (x.1.weights P t).all (· ≤ reachBytes) = true) (hQ : FieldsSayW enc P w base spare held fs Q) (h : DataW.trod enc P w base spare held fuel t [.slice a len cap] = some x) : IsRows fs.size Q w a len ∧ len ≤ cap := by
  rcases open_slice ht h with ⟨h0, _⟩ | ⟨b, l, c, m, n, D, Pl, hcs, hb, hl, hm, hmm, hx, hi'⟩
  · simp only [List.cons.injEq, Value.slice.injEq, and_true] at h0
    exact ⟨fun i hi => by omega, by omega⟩
  · simp only [List.cons.injEq, Value.slice.injEq, and_true] at hcs
    obtain ⟨rfl, rfl, rfl⟩ := hcs
    refine ⟨fun i hi => ?_, hl⟩
    obtain ⟨cs, hc, htr⟩ := hi' i (by rw [hmm]; split <;> omega)
    have hwD : ((D i).weights P e).all (· ≤ reachBytes) = true := by
      rw [List.all_eq_true] at hsz ⊢
      intro q hq
      refine hsz q ?_
      rw [hx]
      simp only [DataW.weights, ht, List.mem_cons, List.mem_append]
      exact .inr (.inl (weightsAll_mem (List.mem_map.2 ⟨i, List.mem_range.2 hi, rfl⟩) q hq))
    obtain ⟨ys, n', _, hxe, hlen, hyl, hf⟩ := DataW.trod_struct he htr
    obtain ⟨_, hcl, hat⟩ := World.cells?_some hc
    rw [hC] at hcl hat
    refine ⟨b, cs, rfl, hcl, hQ n' cs hcl ?_, ?_⟩
    · intro j f v hj hv
      obtain ⟨ho, hk⟩ := hone_of hone j f hj
      have hjl : j < fs.size := (Array.getElem?_eq_some_iff.1 hj).1
      have h1 := hf j f hj
      have h2 : (cs.drop j).take 1 = [v] := by
        obtain ⟨hjl', hv'⟩ := List.getElem?_eq_some_iff.1 hv
        rw [List.drop_eq_getElem_cons hjl', hv']; rfl
      rw [ho, hk, h2, List.getElem?_eq_getElem (show j < ys.length by omega)] at h1
      refine ⟨_, h1, ?_⟩
      have hDe : D i = .agg (ys.map (·.1)) := by
        have := congrArg Prod.fst hxe
        simpa using this
      rw [hDe] at hwD
      simp only [DataW.weights, he] at hwD
      rw [List.all_eq_true] at hwD ⊢
      intro q hq
      refine hwD q (DataW.weights_mem_each (j := j) (t := f.type) (d := (ys[j]'(by omega)).1) ?_ ?_ q hq)
      · rw [List.getElem?_map, Array.getElem?_toList, hj]; rfl
      · rw [List.getElem?_map, List.getElem?_eq_getElem (show j < ys.length by omega)]; rfl
    · intro j v hv
      have hjl := (List.getElem?_eq_some_iff.1 hv).1
      rw [← hv, ← hat j (by omega), add_add]
/-- A slice of one-celled elements: what an element says, its cell says. -/
theorem open_cells {t e : TypeId} {fuel : Nat} {a : Option Addr} {len cap : Nat} {x : DataW H × List MemPlace} {Q : List Value → Prop} (ht : P.underlying t = some (.slice e)) (hC : P.cellsOf e = 1)
    (hQ : ∀ n v y, DataW.trod enc P w base spare held n e [v] = some y → Q [v]) (h : DataW.trod enc P w base spare held fuel t [.slice a len cap] = some x) : IsRows 1 Q w a len := by
  intro i hi
  rcases open_slice ht h with ⟨h0, _⟩ | ⟨b, l, c, m, n, D, Pl, hcs, hb, hl, hm, hmm, hx, hi'⟩
  · simp only [List.cons.injEq, Value.slice.injEq] at h0; omega
  · simp only [List.cons.injEq, Value.slice.injEq, and_true] at hcs
    obtain ⟨rfl, rfl, rfl⟩ := hcs
    obtain ⟨cs, hc, htr⟩ := hi' i (by rw [hmm]; split <;> omega)
    obtain ⟨_, hcl, hat⟩ := World.cells?_some hc
    rw [hC] at hcl hat
    obtain ⟨v, rfl⟩ : ∃ v, cs = [v] := List.length_eq_one_iff.1 hcl
    refine ⟨b, [v], rfl, rfl, hQ _ v _ htr, ?_⟩
    intro j u hu
    have hjl := (List.getElem?_eq_some_iff.1 hu).1
    rw [← hu, ← hat j hjl, add_add]
end
end Vc

/- The items that came in, as a list. No condition. -/
set_option linter.unusedVariables false
namespace Go.Proofs.YtfoeooddnmppnaaDoor
open Go Vc Go.Proofs Go.RowKit

theorem items_of {W : World} {a : Option Addr} {B : Nat} : ∀ (n : Nat), IsRows 3 (fun vs => ∃ x0 x1 x2, vs = [.string x0, .int .i64 x1, .string x2] ∧ x0.size ≤ B ∧ (Lit.int .i64 x1).wf = true ∧ x2.size ≤ B) W a n → ∃ xs : List ItE, xs.length = n ∧ ReadsK encI 3 W a xs ∧ (∀ x ∈ xs, x.path.size ≤ B)
  | 0, _ => ⟨[], rfl, .nil _ _, fun x hx => by simp at hx⟩
  | n + 1, h => by
    obtain ⟨xs, hE, hR, hB⟩ := items_of n fun i hi => h i (by omega)
    obtain ⟨ad, vs, had, hl, ⟨x0, x1, x2, rfl, h1, _, _⟩, hc⟩ := h n (by omega)
    refine ⟨xs ++ [⟨x0, x1, x2⟩], by rw [List.length_append, hE]; rfl, fun i x hx => ?_, fun x hx => ?_⟩
    · by_cases hi : i < xs.length
      · rw [List.getElem?_append_left hi] at hx
        exact hR i x hx
      · rw [List.getElem?_append_right (by omega)] at hx
        have hi0 : i - xs.length = 0 := by
          by_cases h : i - xs.length = 0
          · exact h
          · rw [List.getElem?_eq_none (by simp; omega)] at hx; cases hx
        rw [hi0] at hx
        simp only [List.getElem?_cons_zero, Option.some.injEq] at hx
        subst hx
        refine ⟨ad, had, fun j v hv => ?_⟩
        have := hc j v hv
        rw [add_add, show i = n by omega]
        exact this
    · rcases List.mem_append.1 hx with hx | hx
      · exact hB x hx
      · simp only [List.mem_cons, List.mem_nil_iff, or_false] at hx
        subst hx; exact h1
end Go.Proofs.YtfoeooddnmppnaaDoor

/- What the bound of the narrower form gives of the structs of a slice that came in. No condition. -/
set_option linter.unusedVariables false
namespace Go.Proofs.YtfoeooddnmppnaaDoor
open Go Vc Go.ChangeShapes Go.WideShapes Go.Deep
section
variable {H : Type}
theorem bulk_part {d : DataW H} {l : List (DataW H)} (h : d ∈ l) : Rows.uptoBulk d ≤ Rows.uptoBulkAll l := by
  induction l with
  | nil => cases h
  | cons x r ih =>
    simp only [Rows.uptoBulkAll]
    rcases List.mem_cons.1 h with rfl | e
    · omega
    · have := ih e; omega
theorem bulk_left (l r : List (DataW H)) : Rows.uptoBulkAll l ≤ Rows.uptoBulkAll (l ++ r) := by
  induction l with
  | nil => simp [Rows.uptoBulkAll]
  | cons x l ih => simp only [List.cons_append, Rows.uptoBulkAll]; omega
variable {enc : TypeId × Value → H} {P : Program} {w : World} {base : Nat} {spare : Nat → Bool} {held : Bool}
def FieldsSayU (enc : TypeId × Value → H) (P : Program) (w : World) (base : Nat) (spare : Nat → Bool) (held : Bool) (B : Nat) (fs : Array Field) (Q : List Value → Prop) : Prop :=
  ∀ n (cs : List Value), cs.length = fs.size → (∀ (j : Nat) (f : Field) (v : Value), fs[j]? = some f → cs[j]? = some v → ∃ y, DataW.trod enc P w base spare held n f.type [v] = some y ∧ Rows.uptoBulk y.1 ≤ B) → Q cs
theorem open_rowsU {B : Nat} {t e : TypeId} {fs : Array Field} {fuel : Nat} {a : Option Addr} {len cap : Nat} {x : DataW H × List MemPlace} {Q : List Value → Prop} (ht : P.underlying t = some (.slice e)) (he : P.underlying e = some (.struct fs))
    (hone : oneCellFields P fs = true) (hC : P.cellsOf e = fs.size) (hsz : Rows.uptoBulk x.1 ≤ B) (hQ : FieldsSayU enc P w base spare held B fs Q) (h : DataW.trod enc P w base spare held fuel t [.slice a len cap] = some x) : IsRows fs.size Q w a len ∧ len ≤ cap := by
  rcases open_slice ht h with ⟨h0, _⟩ | ⟨b, l, c, m, n, D, Pl, hcs, hb, hl, hm, hmm, hx, hi'⟩
  · simp only [List.cons.injEq, Value.slice.injEq, and_true] at h0
    exact ⟨fun i hi => by omega, by omega⟩
  · simp only [List.cons.injEq, Value.slice.injEq, and_true] at hcs
    obtain ⟨rfl, rfl, rfl⟩ := hcs
    refine ⟨fun i hi => ?_, hl⟩
    obtain ⟨cs, hc, htr⟩ := hi' i (by rw [hmm]; split <;> omega)
    have hwD : Rows.uptoBulk (D i) ≤ B := by
      refine Nat.le_trans ?_ hsz
      rw [hx]
      simp only [Rows.uptoBulk]
      have := bulk_part (List.mem_map.2 ⟨i, List.mem_range.2 hi, rfl⟩ : D i ∈ (List.range len).map D)
      omega
    obtain ⟨ys, n', _, hxe, hlen, hyl, hf⟩ := DataW.trod_struct he htr
    obtain ⟨_, hcl, hat⟩ := World.cells?_some hc
    rw [hC] at hcl hat
    refine ⟨b, cs, rfl, hcl, hQ n' cs hcl ?_, ?_⟩
    · intro j f v hj hv
      obtain ⟨ho, hk⟩ := hone_of hone j f hj
      have hjl : j < fs.size := (Array.getElem?_eq_some_iff.1 hj).1
      have h1 := hf j f hj
      have h2 : (cs.drop j).take 1 = [v] := by
        obtain ⟨hjl', hv'⟩ := List.getElem?_eq_some_iff.1 hv
        rw [List.drop_eq_getElem_cons hjl', hv']; rfl
      rw [ho, hk, h2, List.getElem?_eq_getElem (show j < ys.length by omega)] at h1
      refine ⟨_, h1, ?_⟩
      have hDe : D i = .agg (ys.map (·.1)) := by
        have := congrArg Prod.fst hxe
        simpa using this
      rw [hDe] at hwD
      simp only [Rows.uptoBulk] at hwD
      have := bulk_part (List.mem_map.2 ⟨ys[j]'(by omega), List.getElem_mem _, rfl⟩ : (ys[j]'(by omega)).1 ∈ ys.map (·.1))
      omega
    · intro j v hv
      have hjl := (List.getElem?_eq_some_iff.1 hv).1
      rw [← hv, ← hat j (by omega), Vc.add_add]
end
end Go.Proofs.YtfoeooddnmppnaaDoor

/- The statement ModzipTurnsSaid of this seat: for every input the law returns true and its arguments read as they did. No condition. -/
namespace Go.Proofs.YtfoeooddnmppnaaDoor.modzipTurns
open Go.ChangeShapes Go.WideShapes Go.ChangeAt Go.RowKit
open Go.ChangeMaps (open_string shut_string)
set_option linter.unusedVariables false

theorem own : ownKnob Tryd.prog.godebug = none := by kernel_rfl
theorem laidOut : laidOutB Tryd.prog = true := by kernel_rfl

set_option maxRecDepth 100000 in
theorem contract (H : Type) (enc : TypeId × Value → H) (W : World) (base : Nat) (args : Array Value) (ds gs : List (DataW H)) (before : List MemPlace)
    (hval0 : ∀ (j : Nat) t v, Tryd.f11.params[j]? = some t → args[j]? = some v → Value.okWide Tryd.prog W .any base t v)
    (hW : DataW.Whole enc Tryd.prog Tryd.f11.params.toList Rows.modzipTurnsSpec.vars false W args.toList ds gs before) (hcond0 : Rows.uptoBulkAll (ds ++ gs) ≤ 1048576)
    (hsz : (DataW.weightsEach Tryd.prog (Tryd.f11.params.toList ++ (Rows.OpenSpec.upto Rows.modzipTurnsSpec).bare.plain.varTypes Tryd.prog) (ds ++ gs)).all (· ≤ reachBytes) = true)
    (hL : laidMetH Tryd.prog Rows.modzipTurnsUptoRow.laid W) (hS : W.ShapedOpen Tryd.prog) :
    Calls Tryd.prog 11 args W fun e W' => ∃ v, e = .returned v ∧ Rows.modzipTurnsSpec.post enc Tryd.prog Tryd.f11 false true false false W args v W' := by
  have hcond := Nat.le_trans (bulk_left ds gs) hcond0
  have hval : ∀ (j : Nat) t v, Tryd.f11.params[j]? = some t → args[j]? = some v → Value.okWide Tryd.prog W .any base t v := hval0
  have hW' := hW
  obtain ⟨p, q, hA0, hV, rfl, hfz, hnd⟩ := hW
  have hA : DataW.TrodAll enc Tryd.prog W 0 (fun _ => true) true Tryd.f11.params.toList args.toList ds p := hA0
  rw [Tryd.params11] at hA hval
  obtain ⟨v0, vs0, d0, ds0, p0, q0, hargs, rfl, rfl, h0, r0⟩ := trodAll_cons hA
  obtain ⟨v1, vs1, d1, ds1, p1, q1, rfl, rfl, rfl, h1, r1⟩ := trodAll_cons r0
  obtain ⟨rfl, rfl, rfl⟩ := trodAll_nil r1
  obtain rfl : args = #[v0, v1] := by cases args; simp_all
  obtain ⟨rfl, rfl⟩ := trodVars_none hV
  obtain ⟨a0, len0, cap0, rfl⟩ := okWide_slice Tryd.underlying47 (hval 0 47 v0 rfl rfl)
  have k0 := h0
  have lt0 : ∀ x ∈ p0, x.block < W.heap.size := by obtain ⟨m, hm⟩ := k0; exact DataW.trod_lt m _ _ _ hm
  obtain ⟨w0, c0⟩ : Vc.IsRows 3 (fun vs => ∃ x0 x1 x2, vs = [.string x0, .int .i64 x1, .string x2] ∧ x0.size ≤ 1048576 ∧ (Lit.int .i64 x1).wf = true ∧ x2.size ≤ 1048576) W a0 len0 ∧ len0 ≤ cap0 := by
    obtain ⟨fuel, hf⟩ := h0
    refine open_rowsU (B := 1048576) Tryd.underlying47 Tryd.underlying51 (by kernel_rfl) (by kernel_rfl) (Nat.le_trans (bulk_part (by simp)) hcond) ?_ hf
    intro n cs hcs hall
    match cs, hcs with
    | [c0, c1, c2], _ =>
      obtain ⟨y0, g0, k0⟩ := hall 0 _ c0 rfl rfl
      obtain ⟨x0, e0, d0, f0⟩ := DataW.trod_string Tryd.underlying9 g0
      obtain rfl := (List.cons.inj e0).1
      have f0 : x0.size ≤ 1048576 := by
        have hk := k0
        rw [d0] at hk
        simp only [Rows.uptoBulk] at hk
        have e : x0.data.toList.length = x0.size := by simp
        have e2 : x0.toList.length = x0.size := by rw [Lib.toList_data]; exact e
        omega
      obtain ⟨y1, g1, k1⟩ := hall 1 _ c1 rfl rfl
      obtain ⟨x1, e1, d1, f1⟩ := DataW.trod_int Tryd.underlying3 g1
      obtain rfl := (List.cons.inj e1).1
      obtain ⟨y2, g2, k2⟩ := hall 2 _ c2 rfl rfl
      obtain ⟨x2, e2, d2, f2⟩ := DataW.trod_string Tryd.underlying9 g2
      obtain rfl := (List.cons.inj e2).1
      have f2 : x2.size ≤ 1048576 := by
        have hk := k2
        rw [d2] at hk
        simp only [Rows.uptoBulk] at hk
        have e : x2.data.toList.length = x2.size := by simp
        have e2 : x2.toList.length = x2.size := by rw [Lib.toList_data]; exact e
        omega
      exact ⟨x0, x1, x2, rfl, f0, f1, f2⟩
  obtain ⟨a1, rfl, rfl, rfl, w1⟩ := open_string Tryd.underlying9 (hval 1 9 v1 rfl rfl) h1
  have b1 : a1.size ≤ reachBytes := by have := sized_string hsz (j := 1) (t := 9) rfl rfl; simpa using this
  clear hA0 hval0
  refine ((items_of len0 w0).elim fun xs h => turns_walk h.2.1 h.1 h.2.2 a1 b1 (maxL_of hS)).mono fun e W' ⟨he, bel⟩ => ?_
  subst he
  exact ⟨_, rfl, _, _, _, [], _, [], hW', trodAll_mk1 (shut_bool Tryd.underlying4 _), (trodAll_cons_mk (Below.trod laidOut (by kernel_rfl) (of_decide_eq_true (by kernel_rfl)) k0 bel lt0) (trodAll_cons_mk (shut_string Tryd.underlying9 w1) trodAll_mk0)), rfl, bel.frame _, fun h => by cases h⟩

theorem reads (os : Os) {H : Type} (enc : TypeId × Value → H) : ∃ x : List (DataW H) × List (DataW H) × List MemPlace, DataW.whole enc Tryd.prog ((World.laidAll Tryd.prog os Rows.modzipTurnsUptoRow.laid).forCall (fun _ _ => 0) ⟨#[], #[.slice none 0 0, .string ByteArray.empty], []⟩).memory Tryd.f11.params.toList Rows.modzipTurnsSpec.vars false (#[.slice none 0 0, .string ByteArray.empty] : Array Value).toList 8 = some x ∧ Rows.uptoBulkAll (x.1 ++ x.2.1) ≤ 1048576 :=
  ⟨([.nil, .lit (.string [])], [], []), by kernel_rfl, of_decide_eq_true (by kernel_rfl)⟩
set_option maxRecDepth 100000 in
theorem lifted (os : Os) (started : os.Started) (H : Type) (enc : TypeId × Value → H) (F : Stop.Interp) :
    ReturnsInHanded {} Tryd.checked os 11 .any ((Rows.OpenSpec.upto Rows.modzipTurnsSpec).preRow enc Tryd.prog Tryd.f11 Rows.modzipTurnsUptoRow.domain false Rows.modzipTurnsUptoRow.laid) (((Rows.OpenSpec.upto Rows.modzipTurnsSpec).at F).post enc Tryd.prog Tryd.f11 false true false false) := by
  obtain ⟨x, hx, hb⟩ := reads os enc
  refine returnsInHanded_of_row (C := Tryd.checked) (s := Rows.OpenSpec.upto Rows.modzipTurnsSpec) own started (by kernel_rfl) Tryd.func11
    (witness_row_at (enc := enc) (C := Tryd.checked) false (World.laidAll Tryd.prog os Rows.modzipTurnsUptoRow.laid) #[.slice none 0 0, .string ByteArray.empty] (World.laidAll_os _ _ _) (by kernel_rfl) (by kernel_rfl) (by kernel_rfl)
      (OpenSpec.preRow_of_cond 8 hx (by rfl) (fun k hk => by cases hk; exact decide_eq_true hb) (by kernel_rfl) (by rw [MakeChecks.laidMetH_plain _ _ _ (by kernel_rfl)]; exact laidMet_laidAll _ (by kernel_rfl) (by kernel_rfl)))) ?_
  intro W base args ds gs before hval hW _ hk hsz hL hS _
  exact contract H enc W base args ds gs before hval hW (of_decide_eq_true (hk _ rfl)) hsz hL hS

theorem over : Rows.modzipTurnsUptoRow.holds Tryd.pinned (Rows.OpenSpec.upto Rows.modzipTurnsSpec) :=
  OpenClaim.holds_of_cond 11 Tryd.f11 rfl rfl rfl rfl rfl rfl rfl ⟨rfl, rfl, rfl, rfl, rfl⟩ rfl rfl rfl rfl rfl (by kernel_rfl) Tryd.func11 (by kernel_rfl)
    (of_decide_eq_true (by kernel_rfl)) (by unfold Func.isWrapper; first | (rw [if_pos (by decide +kernel)]; kernel_rfl) | (rw [if_neg (by decide +kernel)]; exact ⟨rfl, rfl⟩))
    (fun os started H enc _ F => by rw [OpenClaim.pre_eq_preRow]; exact lifted os started H enc F)

/-- The statement. -/
theorem proved : Rows.ModzipTurnsUptoCardSaid :=
  Claim7.holds_tied_plain_at .later [] [.data, .pinned] true (true, "0eb27af101e4e04535c639a375fc4637eed6172aaaeb719e4b37c29ceb5b9f04") true over (fun _ h => by cases h) (by kernel_rfl) (fun _ h => by cases h) modzipTurnsUpto_row_tie rfl ⟨rfl, rfl⟩ (by kernel_rfl) rfl
    (fun f fn hf hfn => by
      obtain rfl : f = 11 := Option.some.inj ((show Tryd.prog.funcNamed "cartulary/cartularylaw24.ModzipTurns" = some 11 by kernel_rfl).symm.trans hf) |>.symm
      obtain rfl : fn = Tryd.f11 := (Option.some.inj (Tryd.func11.symm.trans hfn)).symm
      exact ⟨by kernel_rfl, fun j t ht => by
        rw [Tryd.params11] at ht
        have hm : t ∈ [47, 9] := by simpa using Array.mem_of_getElem? ht
        have hall : ([47, 9].all fun u => !Tryd.prog.wantsStandIn u) = true := by kernel_rfl
        exact (show Tryd.prog.wantsStandIn t = false by simpa using List.all_eq_true.1 hall t hm)⟩)
    (by kernel_rfl)
#print axioms proved
end Go.Proofs.YtfoeooddnmppnaaDoor.modzipTurns

/- Formulas of 1 Go functions of this seat (written by a program of the author's, vcgen.py), and that each is enough for the call. No condition. -/
import Derived.Test.YtoagdpjickippaaTy
import Derived.Test.YtoagdpjickippaaProg
set_option linter.unusedVariables false
namespace Go.Proofs.Ytoagdpjickippaa
open Go Vc Go.Proofs
set_option maxRecDepth 100000
/-- cartularylaw12.PackidxFinds -/
def vc_cartularylaw12_PackidxFinds (x0a : Option Addr) (x0n : Nat) (x0c : Nat) (x1 : ByteArray) (x2 : Int) (w : World) (R : Value → World → Prop) : Prop :=
  ∃ I1 : Sl → World → Prop, ((((decide ((↑x0n : Int) > 30) = true →
      (((0 : Int) ≤ (30 : Int) ∧
        30 ≤ (↑x0c : Int)) ∧
       I1 (Sl.mk (subA x0a x0c 0 3) (Int.toNat 30) x0c) w))) ∧
    (decide ((↑x0n : Int) > 30) = false →
      I1 (Sl.mk x0a x0n x0c) w)) ∧
   ∀ l2 : Sl,
   ∀ w3 : World,
   (I1 l2 w3 →
     Calls Try.prog (6 : Nat) (Array.mk [Value.slice l2.1 l2.2 l2.3, Value.string x1, Value.int IntKind.i64 2147483648]) (w3) (fun e4 w5 =>
       ∃ s6 : ByteArray, ∃ n7 : Int, (e4 = Ending.returned (Value.tuple (Array.mk [Value.string s6, Value.int IntKind.i64 n7])) ∧
        ((((n7 != 0) = true →
           Calls Try.prog (7 : Nat) (Array.mk []) (w5) (fun e8 w9 =>
             ∃ b10 : Bool, (e8 = Ending.returned (Value.bool b10) ∧
              (((b10 = true →
                 R (Value.bool (ByteArray.toList s6 == ByteArray.toList (ByteArray.mk (Array.mk [])))) w9)) ∧
               (b10 = false →
                 R (Value.bool false) w9)))))) ∧
         ((n7 != 0) = false →
           Calls Try.prog (8 : Nat) (Array.mk [Value.string s6]) (w5) (fun e11 w12 =>
             ∃ p13 : Option Addr, ∃ n14 : Int, (e11 = Ending.returned (Value.tuple (Array.mk [Value.pointer p13, Value.int IntKind.i64 n14])) ∧
              ((((n14 != 0) = true →
                 R (Value.bool false) w12)) ∧
               ((n14 != 0) = false →
                 (((Option.isNone p13 = true →
                    R (Value.bool false) w12)) ∧
                  (Option.isNone p13 = false →
                    ∃ I15 : Int → World → Prop, ∃ I16 : Int → World → Nat, (I15 0 w12 ∧
                     ∀ n17 : Int,
                     ∀ w18 : World,
                     (I15 n17 w18 →
                       (((decide (n17 < (↑l2.2 : Int)) = true →
                          ((0 ≤ n17 ∧
                            n17 < (↑l2.2 : Int)) ∧
                           ∃ a19 : Addr, (l2.1 = some a19 ∧
                            ∃ s20 : ByteArray, ∃ n21 : Int, ∃ n22 : Int, (Sem.run Try.prog (loadVar 32 (Addr.add a19 (Int.toNat n17 * 3))) w18 = Result.ok (Value.agg (Array.mk [Value.string s20, Value.int IntKind.i64 n21, Value.int IntKind.u32 n22])) w18 ∧
                             ∀ w23 : World,
                             (w23 = World.alloc w18 (Obj.cells (Array.mk [Value.string (ByteArray.mk (Array.mk [])), Value.int IntKind.i64 0, Value.int IntKind.u32 0]) 32) →
                               ∃ w24 : World, (Sem.run Try.prog (storeVar 32 (Addr.mk (Array.size (World.heap w18)) 0 none) (Value.agg (Array.mk [Value.string s20, Value.int IntKind.i64 n21, Value.int IntKind.u32 n22]))) w23 = Result.ok PUnit.unit w24 ∧
                                ∃ s25 : ByteArray, (World.cell? w24 (Addr.mk (Array.size (World.heap w18)) 0 none) = some (Value.string s25) ∧
                                 Calls Try.prog (9 : Nat) (Array.mk [Value.pointer p13, Value.string s25]) (w24) (fun e26 w27 =>
                                   ∃ s28 : ByteArray, ∃ n29 : Int, ∃ n30 : Int, ∃ n31 : Int, (e26 = Ending.returned (Value.tuple (Array.mk [Value.agg (Array.mk [Value.string s28, Value.int IntKind.i64 n29, Value.int IntKind.u32 n30]), Value.int IntKind.i64 n31])) ∧
                                    ∀ w32 : World,
                                    (w32 = World.alloc w27 (Obj.cells (Array.mk [Value.string (ByteArray.mk (Array.mk [])), Value.int IntKind.i64 0, Value.int IntKind.u32 0]) 32) →
                                      ∃ w33 : World, (Sem.run Try.prog (storeVar 32 (Addr.mk (Array.size (World.heap w27)) 0 none) (Value.agg (Array.mk [Value.string s28, Value.int IntKind.i64 n29, Value.int IntKind.u32 n30]))) w32 = Result.ok PUnit.unit w33 ∧
                                       ∃ s34 : ByteArray, (World.cell? w33 (Addr.mk (Array.size (World.heap w18)) 0 none) = some (Value.string s34) ∧
                                        (((0 ≤ if (if 40 < x2 then 40 else x2) > 0 then if 40 < x2 then 40 else x2 else 0) ∧
                                          ((if (if 40 < x2 then 40 else x2) > 0 then if 40 < x2 then 40 else x2 else 0) ≤ (↑(ByteArray.size s34) : Int))) ∧
                                         Calls Try.prog (10 : Nat) ((Array.mk [Value.pointer p13, Value.string (ByteArray.extract s34 0 (Int.toNat (if (if 40 < x2 then 40 else x2) > 0 then if 40 < x2 then 40 else x2 else 0)))])) (w33) (fun e35 w36 =>
                                           ∃ l37 : Sl, (e35 = Ending.returned (Value.slice l37.1 l37.2 l37.3) ∧
                                            ∃ I38 : Bool → Int → World → Prop, ∃ I39 : Bool → Int → World → Nat, (I38 false 0 w36 ∧
                                             ∀ b40 : Bool,
                                             ∀ n41 : Int,
                                             ∀ w42 : World,
                                             (I38 b40 n41 w42 →
                                               (((decide (n41 < (↑l37.2 : Int)) = true →
                                                  ((0 ≤ n41 ∧
                                                    n41 < (↑l37.2 : Int)) ∧
                                                   ∃ a43 : Addr, (l37.1 = some a43 ∧
                                                    ∃ s44 : ByteArray, (World.cell? w42 (Addr.add a43 (Int.toNat n41 * 1)) = some (Value.string s44) ∧
                                                     ∃ I45 : Bool → World → Prop, ((((b40 = true →
                                                         I45 true w42)) ∧
                                                       (b40 = false →
                                                         ∃ s46 : ByteArray, (World.cell? w42 (Addr.mk (Array.size (World.heap w18)) 0 none) = some (Value.string s46) ∧
                                                          I45 (ByteArray.toList s44 == ByteArray.toList s46) w42))) ∧
                                                      ∀ b47 : Bool,
                                                      ∀ w48 : World,
                                                      (I45 b47 w48 →
                                                        (((decide (n41 > 0) = true →
                                                           ((0 ≤ IntKind.wrap IntKind.i64 (n41 - 1) ∧
                                                             IntKind.wrap IntKind.i64 (n41 - 1) < (↑l37.2 : Int)) ∧
                                                            ∃ a49 : Addr, (l37.1 = some a49 ∧
                                                             ∃ s50 : ByteArray, (World.cell? w48 (Addr.add a49 (Int.toNat (IntKind.wrap IntKind.i64 (n41 - 1)) * 1)) = some (Value.string s50) ∧
                                                              ((((!Op.bytesLess (ByteArray.toList s50) (ByteArray.toList s44)) = true →
                                                                 R (Value.bool false) w48)) ∧
                                                               ((!Op.bytesLess (ByteArray.toList s50) (ByteArray.toList s44)) = false →
                                                                 (I38 b47 (IntKind.wrap IntKind.i64 (n41 + 1)) w48 ∧
                                                                  I39 b47 (IntKind.wrap IntKind.i64 (n41 + 1)) w48 < I39 b40 n41 w42)))))))) ∧
                                                         (decide (n41 > 0) = false →
                                                           (I38 b47 (IntKind.wrap IntKind.i64 (n41 + 1)) w48 ∧
                                                            I39 b47 (IntKind.wrap IntKind.i64 (n41 + 1)) w48 < I39 b40 n41 w42)))))))))) ∧
                                                (decide (n41 < (↑l37.2 : Int)) = false →
                                                  ((((n31 != 0) = true →
                                                     R (Value.bool false) w42)) ∧
                                                   ((n31 != 0) = false →
                                                     ∃ s51 : ByteArray, ∃ n52 : Int, ∃ n53 : Int, (Sem.run Try.prog (loadVar 32 (Addr.mk (Array.size (World.heap w27)) 0 none)) w42 = Result.ok (Value.agg (Array.mk [Value.string s51, Value.int IntKind.i64 n52, Value.int IntKind.u32 n53])) w42 ∧
                                                      ∃ s54 : ByteArray, ∃ n55 : Int, ∃ n56 : Int, (Sem.run Try.prog (loadVar 32 (Addr.mk (Array.size (World.heap w18)) 0 none)) w42 = Result.ok (Value.agg (Array.mk [Value.string s54, Value.int IntKind.i64 n55, Value.int IntKind.u32 n56])) w42 ∧
                                                       ((((!(ByteArray.toList s51 == ByteArray.toList s54 && (n52 == n55 && n53 == n56))) = true →
                                                          R (Value.bool false) w42)) ∧
                                                        ((!(ByteArray.toList s51 == ByteArray.toList s54 && (n52 == n55 && n53 == n56))) = false →
                                                          ((((!b40) = true →
                                                             R (Value.bool false) w42)) ∧
                                                           ((!b40) = false →
                                                             (I15 (IntKind.wrap IntKind.i64 (n17 + 1)) w42 ∧
                                                              I16 (IntKind.wrap IntKind.i64 (n17 + 1)) w42 < I16 n17 w18))))))))))))))))))))))))))))) ∧
                        (decide (n17 < (↑l2.2 : Int)) = false →
                          Calls Try.prog (7 : Nat) (Array.mk []) (w18) (fun e57 w58 =>
                            ∃ b59 : Bool, (e57 = Ending.returned (Value.bool b59) ∧
                             (((b59 = true →
                                Calls Try.prog (10 : Nat) (Array.mk [Value.pointer p13, Value.string (ByteArray.mk (Array.mk [103]))]) (w58) (fun e60 w61 =>
                                  ∃ l62 : Sl, (e60 = Ending.returned (Value.slice l62.1 l62.2 l62.3) ∧
                                   (((((↑l62.2 : Int) == 0) = true →
                                      Calls Try.prog (10 : Nat) (Array.mk [Value.pointer p13, Value.string (ByteArray.mk (Array.mk []))]) (w61) (fun e63 w64 =>
                                        ∃ l65 : Sl, (e63 = Ending.returned (Value.slice l65.1 l65.2 l65.3) ∧
                                         R (Value.bool ((↑l65.2 : Int) == (↑l2.2 : Int))) w64)))) ∧
                                    (((↑l62.2 : Int) == 0) = false →
                                      R (Value.bool false) w61)))))) ∧
                              (b59 = false →
                                R (Value.bool false) w58))))))))))))))))))))
theorem vc_cartularylaw12_PackidxFinds_ok {x0a : Option Addr} {x0n : Nat} {x0c : Nat} {x1 : ByteArray} {x2 : Int} {w : World} {R : Value → World → Prop} {R' : Ending → World → Prop} (h : vc_cartularylaw12_PackidxFinds x0a x0n x0c x1 x2 w R) (hR : ∀ v w', R v w' → R' (.returned v) w') :
    Calls Try.prog 3 #[.slice x0a x0n x0c, .string x1, .int .i64 x2] w R' :=
  calls_of_body (vs := [(.slice x0a x0n x0c, false), (.string x1, false), (.int .i64 x2, false)]) (ty := ty) (ann := ⟨[(3, [(0, .slice)]), (19, [(16, .bool)])], [(10, [(50, .int .i64)]), (16, [(16, .bool), (71, .int .i64)])], [], []⟩) (c := Try.f3.body.getD .skip) (by kernel_rfl) Try.func3 (by kernel_rfl) (by kernel_rfl) (Eq.mp (by kernel_rfl) h) hR
end Go.Proofs.Ytoagdpjickippaa

/- Formulas of 3 Go functions of this seat (written by a program of the author's, vcgen.py), and that each is enough for the call. No condition. -/
import Derived.Test.YtoagdpjickippaaTy
import Derived.Test.YtoagdpjickippaaProg
set_option linter.unusedVariables false
namespace Go.Proofs.Ytoagdpjickippaa
open Go Vc Go.Proofs
set_option maxRecDepth 100000
/-- packidx.Build -/
def vc_packidx_Build (x0a : Option Addr) (x0n : Nat) (x0c : Nat) (x1 : ByteArray) (x2 : Int) (w : World) (R : Value → World → Prop) : Prop :=
  (((decide ((↑x0n : Int) > 1000) = true →
     R (Value.tuple (Array.mk [Value.string (ByteArray.mk (Array.mk [])), Value.int IntKind.i64 2])) w)) ∧
   (decide ((↑x0n : Int) > 1000) = false →
     Calls Try.prog (17 : Nat) (Array.mk [Value.slice x0a x0n x0c]) (w) (fun e1 w2 =>
       ∃ l3 : Sl, (e1 = Ending.returned (Value.slice l3.1 l3.2 l3.3) ∧
        Calls Try.prog (18 : Nat) (Array.mk [Value.slice l3.1 l3.2 l3.3, Value.func (Fn.func 19) (Array.mk []) (Array.mk [])]) (w2) (fun e4 w5 =>
          (e4 = Ending.returned (Value.tuple (Array.mk [])) ∧
           ∃ I6 : Int → World → Prop, ∃ I7 : Int → World → Nat, (I6 0 w5 ∧
            ∀ n8 : Int,
            ∀ w9 : World,
            (I6 n8 w9 →
              (((decide (n8 < (↑l3.2 : Int)) = true →
                 ((0 ≤ n8 ∧
                   n8 < (↑l3.2 : Int)) ∧
                  ∃ a10 : Addr, (l3.1 = some a10 ∧
                   ∃ s11 : ByteArray, ∃ n12 : Int, ∃ n13 : Int, (Sem.run Try.prog (loadVar 32 (Addr.add a10 (Int.toNat n8 * 3))) w9 = Result.ok (Value.agg (Array.mk [Value.string s11, Value.int IntKind.i64 n12, Value.int IntKind.u32 n13])) w9 ∧
                    ∀ w14 : World,
                    (w14 = World.alloc w9 (Obj.cells (Array.mk [Value.string (ByteArray.mk (Array.mk [])), Value.int IntKind.i64 0, Value.int IntKind.u32 0]) 32) →
                      ∃ w15 : World, (Sem.run Try.prog (storeVar 32 (Addr.mk (Array.size (World.heap w9)) 0 none) (Value.agg (Array.mk [Value.string s11, Value.int IntKind.i64 n12, Value.int IntKind.u32 n13]))) w14 = Result.ok PUnit.unit w15 ∧
                       ∀ w16 : World,
                       (Drew w15 w16 →
                         ∃ I17 : World → Prop, (I17 w16 ∧
                          ∃ s18 : ByteArray, ((∀ w19 : World,
                           (I17 w19 →
                             World.cell? w19 (Addr.mk (Array.size (World.heap w9)) 0 none) = some (Value.string s18))) ∧
                           Calls Try.prog (21 : Nat) (Array.mk [Value.string s18]) (w16) (fun e20 w21 =>
                             ∃ b22 : Bool, (e20 = Ending.returned (Value.bool b22) ∧
                              (I17 w21 ∧
                               ((((!b22) = true →
                                  R (Value.tuple (Array.mk [Value.string (ByteArray.mk (Array.mk [])), Value.int IntKind.i64 4])) w21)) ∧
                                ((!b22) = false →
                                  (((decide (n8 > 0) = true →
                                     ((0 ≤ IntKind.wrap IntKind.i64 (n8 - 1) ∧
                                       IntKind.wrap IntKind.i64 (n8 - 1) < (↑l3.2 : Int)) ∧
                                      ∃ a23 : Addr, (l3.1 = some a23 ∧
                                       ∃ s24 : ByteArray, ((∀ w25 : World,
                                        (I17 w25 →
                                          World.cell? w25 (Addr.add a23 (Int.toNat (IntKind.wrap IntKind.i64 (n8 - 1)) * 3)) = some (Value.string s24))) ∧
                                        ∃ s26 : ByteArray, ((∀ w27 : World,
                                         (I17 w27 →
                                           World.cell? w27 (Addr.mk (Array.size (World.heap w9)) 0 none) = some (Value.string s26))) ∧
                                         ((((ByteArray.toList s24 == ByteArray.toList s26) = true →
                                            R (Value.tuple (Array.mk [Value.string (ByteArray.mk (Array.mk [])), Value.int IntKind.i64 4])) w21)) ∧
                                          ((ByteArray.toList s24 == ByteArray.toList s26) = false →
                                            ∃ n28 : Int, ((∀ w29 : World,
                                             (I17 w29 →
                                               World.cell? w29 (Addr.mk (Array.size (World.heap w9)) 1 none) = some (Value.int IntKind.i64 n28))) ∧
                                             (((decide (n28 < 0) = true →
                                                R (Value.tuple (Array.mk [Value.string (ByteArray.mk (Array.mk [])), Value.int IntKind.i64 4])) w21)) ∧
                                              (decide (n28 < 0) = false →
                                                ∃ n30 : Int, ((∀ w31 : World,
                                                 (I17 w31 →
                                                   World.cell? w31 (Addr.mk (Array.size (World.heap w9)) 1 none) = some (Value.int IntKind.i64 n30))) ∧
                                                 (((decide (n30 > 1099511627776) = true →
                                                    R (Value.tuple (Array.mk [Value.string (ByteArray.mk (Array.mk [])), Value.int IntKind.i64 4])) w21)) ∧
                                                  (decide (n30 > 1099511627776) = false →
                                                    (I6 (IntKind.wrap IntKind.i64 (n8 + 1)) w21 ∧
                                                     I7 (IntKind.wrap IntKind.i64 (n8 + 1)) w21 < I7 n8 w9))))))))))))))) ∧
                                   (decide (n8 > 0) = false →
                                     ∃ n32 : Int, ((∀ w33 : World,
                                      (I17 w33 →
                                        World.cell? w33 (Addr.mk (Array.size (World.heap w9)) 1 none) = some (Value.int IntKind.i64 n32))) ∧
                                      (((decide (n32 < 0) = true →
                                         R (Value.tuple (Array.mk [Value.string (ByteArray.mk (Array.mk [])), Value.int IntKind.i64 4])) w21)) ∧
                                       (decide (n32 < 0) = false →
                                         ∃ n34 : Int, ((∀ w35 : World,
                                          (I17 w35 →
                                            World.cell? w35 (Addr.mk (Array.size (World.heap w9)) 1 none) = some (Value.int IntKind.i64 n34))) ∧
                                          (((decide (n34 > 1099511627776) = true →
                                             R (Value.tuple (Array.mk [Value.string (ByteArray.mk (Array.mk [])), Value.int IntKind.i64 4])) w21)) ∧
                                           (decide (n34 > 1099511627776) = false →
                                             (I6 (IntKind.wrap IntKind.i64 (n8 + 1)) w21 ∧
                                              I7 (IntKind.wrap IntKind.i64 (n8 + 1)) w21 < I7 n8 w9)))))))))))))))))))))))) ∧
               (decide (n8 < (↑l3.2 : Int)) = false →
                 Calls Try.prog (22 : Nat) (Array.mk [Value.string x1]) (w9) (fun e36 w37 =>
                   ∃ s38 : ByteArray, ∃ b39 : Bool, (e36 = Ending.returned (Value.tuple (Array.mk [Value.string s38, Value.bool b39])) ∧
                    ((((!b39) = true →
                       R (Value.tuple (Array.mk [Value.string (ByteArray.mk (Array.mk [])), Value.int IntKind.i64 4])) w37)) ∧
                     ((!b39) = false →
                       (((((↑(ByteArray.size s38) : Int) != 20) = true →
                          R (Value.tuple (Array.mk [Value.string (ByteArray.mk (Array.mk [])), Value.int IntKind.i64 4])) w37)) ∧
                        (((↑(ByteArray.size s38) : Int) != 20) = false →
                          ∀ w40 : World,
                          (w40 = World.alloc w37 (Obj.cells (Array.mk [Value.int IntKind.i64 0, Value.int IntKind.i64 0, Value.int IntKind.i64 0, Value.int IntKind.i64 0, Value.int IntKind.i64 0, Value.int IntKind.i64 0, Value.int IntKind.i64 0, Value.int IntKind.i64 0, Value.int IntKind.i64 0, Value.int IntKind.i64 0, Value.int IntKind.i64 0, Value.int IntKind.i64 0, Value.int IntKind.i64 0, Value.int IntKind.i64 0, Value.int IntKind.i64 0, Value.int IntKind.i64 0, Value.int IntKind.i64 0, Value.int IntKind.i64 0, Value.int IntKind.i64 0, Value.int IntKind.i64 0, Value.int IntKind.i64 0, Value.int IntKind.i64 0, Value.int IntKind.i64 0, Value.int IntKind.i64 0, Value.int IntKind.i64 0, Value.int IntKind.i64 0, Value.int IntKind.i64 0, Value.int IntKind.i64 0, Value.int IntKind.i64 0, Value.int IntKind.i64 0, Value.int IntKind.i64 0, Value.int IntKind.i64 0, Value.int IntKind.i64 0, Value.int IntKind.i64 0, Value.int IntKind.i64 0, Value.int IntKind.i64 0, Value.int IntKind.i64 0, Value.int IntKind.i64 0, Value.int IntKind.i64 0, Value.int IntKind.i64 0, Value.int IntKind.i64 0, Value.int IntKind.i64 0, Value.int IntKind.i64 0, Value.int IntKind.i64 0, Value.int IntKind.i64 0, Value.int IntKind.i64 0, Value.int IntKind.i64 0, Value.int IntKind.i64 0, Value.int IntKind.i64 0, Value.int IntKind.i64 0, Value.int IntKind.i64 0, Value.int IntKind.i64 0, Value.int IntKind.i64 0, Value.int IntKind.i64 0, Value.int IntKind.i64 0, Value.int IntKind.i64 0, Value.int IntKind.i64 0, Value.int IntKind.i64 0, Value.int IntKind.i64 0, Value.int IntKind.i64 0, Value.int IntKind.i64 0, Value.int IntKind.i64 0, Value.int IntKind.i64 0, Value.int IntKind.i64 0, Value.int IntKind.i64 0, Value.int IntKind.i64 0, Value.int IntKind.i64 0, Value.int IntKind.i64 0, Value.int IntKind.i64 0, Value.int IntKind.i64 0, Value.int IntKind.i64 0, Value.int IntKind.i64 0, Value.int IntKind.i64 0, Value.int IntKind.i64 0, Value.int IntKind.i64 0, Value.int IntKind.i64 0, Value.int IntKind.i64 0, Value.int IntKind.i64 0, Value.int IntKind.i64 0, Value.int IntKind.i64 0, Value.int IntKind.i64 0, Value.int IntKind.i64 0, Value.int IntKind.i64 0, Value.int IntKind.i64 0, Value.int IntKind.i64 0, Value.int IntKind.i64 0, Value.int IntKind.i64 0, Value.int IntKind.i64 0, Value.int IntKind.i64 0, Value.int IntKind.i64 0, Value.int IntKind.i64 0, Value.int IntKind.i64 0, Value.int IntKind.i64 0, Value.int IntKind.i64 0, Value.int IntKind.i64 0, Value.int IntKind.i64 0, Value.int IntKind.i64 0, Value.int IntKind.i64 0, Value.int IntKind.i64 0, Value.int IntKind.i64 0, Value.int IntKind.i64 0, Value.int IntKind.i64 0, Value.int IntKind.i64 0, Value.int IntKind.i64 0, Value.int IntKind.i64 0, Value.int IntKind.i64 0, Value.int IntKind.i64 0, Value.int IntKind.i64 0, Value.int IntKind.i64 0, Value.int IntKind.i64 0, Value.int IntKind.i64 0, Value.int IntKind.i64 0, Value.int IntKind.i64 0, Value.int IntKind.i64 0, Value.int IntKind.i64 0, Value.int IntKind.i64 0, Value.int IntKind.i64 0, Value.int IntKind.i64 0, Value.int IntKind.i64 0, Value.int IntKind.i64 0, Value.int IntKind.i64 0, Value.int IntKind.i64 0, Value.int IntKind.i64 0, Value.int IntKind.i64 0, Value.int IntKind.i64 0, Value.int IntKind.i64 0, Value.int IntKind.i64 0, Value.int IntKind.i64 0, Value.int IntKind.i64 0, Value.int IntKind.i64 0, Value.int IntKind.i64 0, Value.int IntKind.i64 0, Value.int IntKind.i64 0, Value.int IntKind.i64 0, Value.int IntKind.i64 0, Value.int IntKind.i64 0, Value.int IntKind.i64 0, Value.int IntKind.i64 0, Value.int IntKind.i64 0, Value.int IntKind.i64 0, Value.int IntKind.i64 0, Value.int IntKind.i64 0, Value.int IntKind.i64 0, Value.int IntKind.i64 0, Value.int IntKind.i64 0, Value.int IntKind.i64 0, Value.int IntKind.i64 0, Value.int IntKind.i64 0, Value.int IntKind.i64 0, Value.int IntKind.i64 0, Value.int IntKind.i64 0, Value.int IntKind.i64 0, Value.int IntKind.i64 0, Value.int IntKind.i64 0, Value.int IntKind.i64 0, Value.int IntKind.i64 0, Value.int IntKind.i64 0, Value.int IntKind.i64 0, Value.int IntKind.i64 0, Value.int IntKind.i64 0, Value.int IntKind.i64 0, Value.int IntKind.i64 0, Value.int IntKind.i64 0, Value.int IntKind.i64 0, Value.int IntKind.i64 0, Value.int IntKind.i64 0, Value.int IntKind.i64 0, Value.int IntKind.i64 0, Value.int IntKind.i64 0, Value.int IntKind.i64 0, Value.int IntKind.i64 0, Value.int IntKind.i64 0, Value.int IntKind.i64 0, Value.int IntKind.i64 0, Value.int IntKind.i64 0, Value.int IntKind.i64 0, Value.int IntKind.i64 0, Value.int IntKind.i64 0, Value.int IntKind.i64 0, Value.int IntKind.i64 0, Value.int IntKind.i64 0, Value.int IntKind.i64 0, Value.int IntKind.i64 0, Value.int IntKind.i64 0, Value.int IntKind.i64 0, Value.int IntKind.i64 0, Value.int IntKind.i64 0, Value.int IntKind.i64 0, Value.int IntKind.i64 0, Value.int IntKind.i64 0, Value.int IntKind.i64 0, Value.int IntKind.i64 0, Value.int IntKind.i64 0, Value.int IntKind.i64 0, Value.int IntKind.i64 0, Value.int IntKind.i64 0, Value.int IntKind.i64 0, Value.int IntKind.i64 0, Value.int IntKind.i64 0, Value.int IntKind.i64 0, Value.int IntKind.i64 0, Value.int IntKind.i64 0, Value.int IntKind.i64 0, Value.int IntKind.i64 0, Value.int IntKind.i64 0, Value.int IntKind.i64 0, Value.int IntKind.i64 0, Value.int IntKind.i64 0, Value.int IntKind.i64 0, Value.int IntKind.i64 0, Value.int IntKind.i64 0, Value.int IntKind.i64 0, Value.int IntKind.i64 0, Value.int IntKind.i64 0, Value.int IntKind.i64 0, Value.int IntKind.i64 0, Value.int IntKind.i64 0, Value.int IntKind.i64 0, Value.int IntKind.i64 0, Value.int IntKind.i64 0, Value.int IntKind.i64 0, Value.int IntKind.i64 0, Value.int IntKind.i64 0, Value.int IntKind.i64 0, Value.int IntKind.i64 0, Value.int IntKind.i64 0, Value.int IntKind.i64 0, Value.int IntKind.i64 0, Value.int IntKind.i64 0, Value.int IntKind.i64 0, Value.int IntKind.i64 0, Value.int IntKind.i64 0, Value.int IntKind.i64 0, Value.int IntKind.i64 0, Value.int IntKind.i64 0, Value.int IntKind.i64 0, Value.int IntKind.i64 0, Value.int IntKind.i64 0, Value.int IntKind.i64 0, Value.int IntKind.i64 0, Value.int IntKind.i64 0, Value.int IntKind.i64 0, Value.int IntKind.i64 0, Value.int IntKind.i64 0, Value.int IntKind.i64 0, Value.int IntKind.i64 0, Value.int IntKind.i64 0, Value.int IntKind.i64 0, Value.int IntKind.i64 0, Value.int IntKind.i64 0, Value.int IntKind.i64 0, Value.int IntKind.i64 0, Value.int IntKind.i64 0, Value.int IntKind.i64 0, Value.int IntKind.i64 0, Value.int IntKind.i64 0]) 56) →
                            ∃ I41 : ByteArray → ByteArray → ByteArray → ByteArray → Int → World → Prop, ∃ I42 : ByteArray → ByteArray → ByteArray → ByteArray → Int → World → Nat, (I41 (ByteArray.mk (Array.mk [])) (ByteArray.mk (Array.mk [])) (ByteArray.mk (Array.mk [])) (ByteArray.mk (Array.mk [])) 0 w40 ∧
                             ∀ s43 : ByteArray,
                             ∀ s44 : ByteArray,
                             ∀ s45 : ByteArray,
                             ∀ s46 : ByteArray,
                             ∀ n47 : Int,
                             ∀ w48 : World,
                             (I41 s43 s44 s45 s46 n47 w48 →
                               (((decide (n47 < (↑l3.2 : Int)) = true →
                                  ((0 ≤ n47 ∧
                                    n47 < (↑l3.2 : Int)) ∧
                                   ∃ a49 : Addr, (l3.1 = some a49 ∧
                                    ∃ s50 : ByteArray, ∃ n51 : Int, ∃ n52 : Int, (Sem.run Try.prog (loadVar 32 (Addr.add a49 (Int.toNat n47 * 3))) w48 = Result.ok (Value.agg (Array.mk [Value.string s50, Value.int IntKind.i64 n51, Value.int IntKind.u32 n52])) w48 ∧
                                     ∀ w53 : World,
                                     (w53 = World.alloc w48 (Obj.cells (Array.mk [Value.string (ByteArray.mk (Array.mk [])), Value.int IntKind.i64 0, Value.int IntKind.u32 0]) 32) →
                                       ∃ w54 : World, (Sem.run Try.prog (storeVar 32 (Addr.mk (Array.size (World.heap w48)) 0 none) (Value.agg (Array.mk [Value.string s50, Value.int IntKind.i64 n51, Value.int IntKind.u32 n52]))) w53 = Result.ok PUnit.unit w54 ∧
                                        ∃ s55 : ByteArray, (World.cell? w54 (Addr.mk (Array.size (World.heap w48)) 0 none) = some (Value.string s55) ∧
                                         Calls Try.prog (22 : Nat) (Array.mk [Value.string s55]) (w54) (fun e56 w57 =>
                                           ∃ s58 : ByteArray, ∃ b59 : Bool, (e56 = Ending.returned (Value.tuple (Array.mk [Value.string s58, Value.bool b59])) ∧
                                            (((0 : Int) ≤ (0 : Int) ∧
                                              0 < (↑(ByteArray.size s58) : Int)) ∧
                                             ∃ I60 : Int → World → Prop, ∃ I61 : Int → World → Nat, (I60 (IntKind.wrap IntKind.i64 (byteAt s58 0)) w57 ∧
                                              ∀ n62 : Int,
                                              ∀ w63 : World,
                                              (I60 n62 w63 →
                                                (((decide (n62 < 256) = true →
                                                   ((0 ≤ n62 ∧
                                                     n62 < (↑256 : Int)) ∧
                                                    ∃ n64 : Int, (World.cell? w63 (Addr.add (Addr.mk (Array.size (World.heap w37)) 0 none) (Int.toNat n62 * 1)) = some (Value.int IntKind.i64 n64) ∧
                                                     ((0 ≤ n62 ∧
                                                       n62 < (↑256 : Int)) ∧
                                                      (Wr w63 (Addr.add (Addr.mk (Array.size (World.heap w37)) 0 none) (Int.toNat n62 * 1)) ∧
                                                       ∀ w65 : World,
                                                       (w65 = World.setCell w63 (Addr.add (Addr.mk (Array.size (World.heap w37)) 0 none) (Int.toNat n62 * 1)) (Value.int IntKind.i64 (IntKind.wrap IntKind.i64 (n64 + 1))) →
                                                         (I60 (IntKind.wrap IntKind.i64 (n62 + 1)) w65 ∧
                                                          I61 (IntKind.wrap IntKind.i64 (n62 + 1)) w65 < I61 n62 w63)))))))) ∧
                                                 (decide (n62 < 256) = false →
                                                   (ByteArray.size s43 + ByteArray.size s58 ≤ 9223372036854775807 ∧
                                                    ∃ n66 : Int, (World.cell? w63 (Addr.mk (Array.size (World.heap w48)) 2 none) = some (Value.int IntKind.u32 n66) ∧
                                                     Calls Try.prog (23 : Nat) (Array.mk [Value.int IntKind.u64 (IntKind.wrap IntKind.u64 n66), Value.int IntKind.i64 4]) (w63) (fun e67 w68 =>
                                                       ∃ s69 : ByteArray, (e67 = Ending.returned (Value.string s69) ∧
                                                        (ByteArray.size s44 + ByteArray.size s69 ≤ 9223372036854775807 ∧
                                                         ∃ I70 : Bool → World → Prop, ((∃ n71 : Int, (World.cell? w68 (Addr.mk (Array.size (World.heap w48)) 1 none) = some (Value.int IntKind.i64 n71) ∧
                                                           (((decide (n71 ≥ x2) = true →
                                                              I70 true w68)) ∧
                                                            (decide (n71 ≥ x2) = false →
                                                              ∃ n72 : Int, (World.cell? w68 (Addr.mk (Array.size (World.heap w48)) 1 none) = some (Value.int IntKind.i64 n72) ∧
                                                               I70 (decide (n72 ≥ 2147483648)) w68))))) ∧
                                                          ∀ b73 : Bool,
                                                          ∀ w74 : World,
                                                          (I70 b73 w74 →
                                                            (((b73 = true →
                                                               ((8 : Int) ≠ (0 : Int) ∧
                                                                Calls Try.prog (23 : Nat) (Array.mk [Value.int IntKind.u64 (IntKind.wrap IntKind.u64 (IntKind.wrap IntKind.i64 (2147483648 + IntKind.wrap IntKind.i64 (Int.tdiv (↑(ByteArray.size s46) : Int) 8)))), Value.int IntKind.i64 4]) (w74) (fun e75 w76 =>
                                                                  ∃ s77 : ByteArray, (e75 = Ending.returned (Value.string s77) ∧
                                                                   (ByteArray.size s45 + ByteArray.size s77 ≤ 9223372036854775807 ∧
                                                                    ∃ n78 : Int, (World.cell? w76 (Addr.mk (Array.size (World.heap w48)) 1 none) = some (Value.int IntKind.i64 n78) ∧
                                                                     Calls Try.prog (23 : Nat) (Array.mk [Value.int IntKind.u64 (IntKind.wrap IntKind.u64 n78), Value.int IntKind.i64 8]) (w76) (fun e79 w80 =>
                                                                       ∃ s81 : ByteArray, (e79 = Ending.returned (Value.string s81) ∧
                                                                        (ByteArray.size s46 + ByteArray.size s81 ≤ 9223372036854775807 ∧
                                                                         (I41 (s43 ++ s58) (s44 ++ s69) (s45 ++ s77) (s46 ++ s81) (IntKind.wrap IntKind.i64 (n47 + 1)) w80 ∧
                                                                          I42 (s43 ++ s58) (s44 ++ s69) (s45 ++ s77) (s46 ++ s81) (IntKind.wrap IntKind.i64 (n47 + 1)) w80 < I42 s43 s44 s45 s46 n47 w48))))))))))) ∧
                                                             (b73 = false →
                                                               ∃ n82 : Int, (World.cell? w74 (Addr.mk (Array.size (World.heap w48)) 1 none) = some (Value.int IntKind.i64 n82) ∧
                                                                Calls Try.prog (23 : Nat) (Array.mk [Value.int IntKind.u64 (IntKind.wrap IntKind.u64 n82), Value.int IntKind.i64 4]) (w74) (fun e83 w84 =>
                                                                  ∃ s85 : ByteArray, (e83 = Ending.returned (Value.string s85) ∧
                                                                   (ByteArray.size s45 + ByteArray.size s85 ≤ 9223372036854775807 ∧
                                                                    (I41 (s43 ++ s58) (s44 ++ s69) (s45 ++ s85) s46 (IntKind.wrap IntKind.i64 (n47 + 1)) w84 ∧
                                                                     I42 (s43 ++ s58) (s44 ++ s69) (s45 ++ s85) s46 (IntKind.wrap IntKind.i64 (n47 + 1)) w84 < I42 s43 s44 s45 s46 n47 w48))))))))))))))))))))))))))))) ∧
                                (decide (n47 < (↑l3.2 : Int)) = false →
                                  ∃ v86 : Value, (Sem.run Try.prog (loadVar 56 (Addr.mk (Array.size (World.heap w37)) 0 none)) w48 = Result.ok v86 w48 ∧
                                   ∃ I87 : ByteArray → Int → World → Prop, ∃ I88 : ByteArray → Int → World → Nat, (I87 (ByteArray.mk (Array.mk [255, 116, 79, 99, 0, 0, 0, 2])) 0 w48 ∧
                                    ∀ s89 : ByteArray,
                                    ∀ n90 : Int,
                                    ∀ w91 : World,
                                    (I87 s89 n90 w91 →
                                      (((decide (n90 < 256) = true →
                                         ∃ w92 : World, ∃ n93 : Int, (Sem.run Try.prog (Instr.index 56 v86 (Value.int IntKind.i64 n90)) w91 = Result.ok (Value.int IntKind.i64 n93) w92 ∧
                                          Calls Try.prog (23 : Nat) (Array.mk [Value.int IntKind.u64 (IntKind.wrap IntKind.u64 n93), Value.int IntKind.i64 4]) (w92) (fun e94 w95 =>
                                            ∃ s96 : ByteArray, (e94 = Ending.returned (Value.string s96) ∧
                                             (ByteArray.size s89 + ByteArray.size s96 ≤ 9223372036854775807 ∧
                                              (I87 (s89 ++ s96) (IntKind.wrap IntKind.i64 (n90 + 1)) w95 ∧
                                               I88 (s89 ++ s96) (IntKind.wrap IntKind.i64 (n90 + 1)) w95 < I88 s89 n90 w91))))))) ∧
                                       (decide (n90 < 256) = false →
                                         (ByteArray.size s43 + ByteArray.size s44 ≤ 9223372036854775807 ∧
                                          (ByteArray.size (s43 ++ s44) + ByteArray.size s45 ≤ 9223372036854775807 ∧
                                           (ByteArray.size (s43 ++ s44 ++ s45) + ByteArray.size s46 ≤ 9223372036854775807 ∧
                                            (ByteArray.size (s43 ++ s44 ++ s45 ++ s46) + ByteArray.size s38 ≤ 9223372036854775807 ∧
                                             (ByteArray.size s89 + ByteArray.size (s43 ++ s44 ++ s45 ++ s46 ++ s38) ≤ 9223372036854775807 ∧
                                              Calls Try.prog (24 : Nat) (Array.mk [Value.string (s89 ++ (s43 ++ s44 ++ s45 ++ s46 ++ s38))]) (w91) (fun e97 w98 =>
                                                ∃ s99 : ByteArray, (e97 = Ending.returned (Value.string s99) ∧
                                                 (ByteArray.size (s89 ++ (s43 ++ s44 ++ s45 ++ s46 ++ s38)) + ByteArray.size s99 ≤ 9223372036854775807 ∧
                                                  R (Value.tuple (Array.mk [Value.string (s89 ++ (s43 ++ s44 ++ s45 ++ s46 ++ s38) ++ s99), Value.int IntKind.i64 0])) w98))))))))))))))))))))))))))))))))))
theorem vc_packidx_Build_ok {x0a : Option Addr} {x0n : Nat} {x0c : Nat} {x1 : ByteArray} {x2 : Int} {w : World} {R : Value → World → Prop} {R' : Ending → World → Prop} (h : vc_packidx_Build x0a x0n x0c x1 x2 w R) (hR : ∀ v w', R v w' → R' (.returned v) w') :
    Calls Try.prog 6 #[.slice x0a x0n x0c, .string x1, .int .i64 x2] w R' :=
  calls_of_body (vs := [(.slice x0a x0n x0c, false), (.string x1, false), (.int .i64 x2, false)]) (ty := ty) (ann := ⟨[(27, [(123, .bool)])], [(6, [(35, .int .i64)]), (17, [(14, .str), (15, .str), (16, .str), (17, .str), (84, .int .i64)]), (21, [(22, .int .i64)]), (33, [(23, .str), (146, .int .i64)])], [(8, .held [(0, true), (1, true), (2, false), (3, true), (4, true), (5, true), (6, true), (7, true), (8, true), (9, true), (10, true), (11, true), (12, true), (13, true), (14, true), (15, true), (16, true), (17, true), (18, true), (19, true), (20, true), (21, true), (22, true), (23, true), (24, true), (25, true), (26, true), (27, true), (28, true)])], []⟩) (c := Try.f6.body.getD .skip) (by kernel_rfl) Try.func6 (by kernel_rfl) (by kernel_rfl) (Eq.mp (by kernel_rfl) h) hR
/-- packidx.Build$1 -/
def vc_packidx_Build_1 (x0_0 : ByteArray) (x0_1 : Int) (x0_2 : Int) (x1_0 : ByteArray) (x1_1 : Int) (x1_2 : Int) (w : World) (R : Value → World → Prop) : Prop :=
  ∀ w1 : World,
  (w1 = World.alloc w (Obj.cells (Array.mk [Value.string x0_0, Value.int IntKind.i64 x0_1, Value.int IntKind.u32 x0_2]) 32) →
    ∀ w2 : World,
    (w2 = World.alloc w1 (Obj.cells (Array.mk [Value.string x1_0, Value.int IntKind.i64 x1_1, Value.int IntKind.u32 x1_2]) 32) →
      ∃ s3 : ByteArray, (World.cell? w2 (Addr.mk (Array.size (World.heap w)) 0 none) = some (Value.string s3) ∧
       ∃ s4 : ByteArray, (World.cell? w2 (Addr.mk (Array.size (World.heap w1)) 0 none) = some (Value.string s4) ∧
        Calls Try.prog (20 : Nat) (Array.mk [Value.string s3, Value.string s4]) (w2) (fun e5 w6 =>
          ∃ n7 : Int, (e5 = Ending.returned (Value.int IntKind.i64 n7) ∧
           R (Value.int IntKind.i64 n7) w6))))))
theorem vc_packidx_Build_1_ok {x0_0 : ByteArray} {x0_1 : Int} {x0_2 : Int} {x1_0 : ByteArray} {x1_1 : Int} {x1_2 : Int} {w : World} {R : Value → World → Prop} {R' : Ending → World → Prop} (h : vc_packidx_Build_1 x0_0 x0_1 x0_2 x1_0 x1_1 x1_2 w R) (hR : ∀ v w', R v w' → R' (.returned v) w') :
    Calls Try.prog 19 #[.agg #[.string x0_0, .int .i64 x0_1, .int .u32 x0_2], .agg #[.string x1_0, .int .i64 x1_1, .int .u32 x1_2]] w R' :=
  calls_of_body (vs := [(.agg #[.string x0_0, .int .i64 x0_1, .int .u32 x0_2], false), (.agg #[.string x1_0, .int .i64 x1_1, .int .u32 x1_2], false)]) (ty := ty) (ann := ⟨[], [], [], []⟩) (c := Try.f19.body.getD .skip) (by kernel_rfl) Try.func19 (by kernel_rfl) (by kernel_rfl) (Eq.mp (by kernel_rfl) h) hR
/-- slices.Clone[[]packidx.Row,packidx.Row] -/
def vc_slices_Clone (x0a : Option Addr) (x0n : Nat) (x0c : Nat) (w : World) (R : Value → World → Prop) : Prop :=
  (((Option.isNone x0a = true →
     R (Value.slice none 0 0) w)) ∧
   (Option.isNone x0a = false →
     ∀ w1 : World,
     (w1 = World.alloc w (Obj.cells (Array.mk []) 32) →
       ∃ w2 : World, ∃ l3 : Sl, (Sem.run Try.prog (Builtin.append_ (Array.mk [22, 22]) 22 (Array.mk [Value.slice (some (Addr.mk (Array.size (World.heap w)) 0 none)) 0 0, Value.slice x0a x0n x0c])) w1 = Result.ok (Value.slice l3.1 l3.2 l3.3) w2 ∧
        R (Value.slice l3.1 l3.2 l3.3) w2))))
theorem vc_slices_Clone_ok {x0a : Option Addr} {x0n : Nat} {x0c : Nat} {w : World} {R : Value → World → Prop} {R' : Ending → World → Prop} (h : vc_slices_Clone x0a x0n x0c w R) (hR : ∀ v w', R v w' → R' (.returned v) w') :
    Calls Try.prog 17 #[.slice x0a x0n x0c] w R' :=
  calls_of_body (vs := [(.slice x0a x0n x0c, false)]) (ty := ty) (ann := ⟨[], [], [], []⟩) (c := Try.f17.body.getD .skip) (by kernel_rfl) Try.func17 (by kernel_rfl) (by kernel_rfl) (Eq.mp (by kernel_rfl) h) hR
end Go.Proofs.Ytoagdpjickippaa

/- Formulas of 1 Go functions of this seat (written by a program of the author's, vcgen.py), and that each is enough for the call. No condition. -/
import Derived.Test.YtmhlmdnhpfhoeaaDoorTy
import Derived.Test.YtmhlmdnhpfhoeaaDoorProg
set_option linter.unusedVariables false
namespace Go.Proofs.YtmhlmdnhpfhoeaaDoor
open Go Vc Go.Proofs
set_option maxRecDepth 100000
/-- cartularylaw16.RefsListed -/
def vc_cartularylaw16_RefsListed (x0a : Option Addr) (x0n : Nat) (x0c : Nat) (x1 : ByteArray) (w : World) (R : Value → World → Prop) : Prop :=
  Calls Tryd.prog (24 : Nat) (Array.mk [Value.slice x0a x0n x0c, Value.int IntKind.i64 40]) (w) (fun e1 w2 =>
    ∃ l3 : Sl, (e1 = Ending.returned (Value.slice l3.1 l3.2 l3.3) ∧
     Calls Tryd.prog (19 : Nat) (Array.mk [Value.slice l3.1 l3.2 l3.3]) (w2) (fun e4 w5 =>
       ∃ p6 : Option Addr, ∃ n7 : Int, (e4 = Ending.returned (Value.tuple (Array.mk [Value.pointer p6, Value.int IntKind.i64 n7])) ∧
        ((((n7 != 0) = true →
           Calls Tryd.prog (18 : Nat) (Array.mk []) (w5) (fun e8 w9 =>
             ∃ b10 : Bool, (e8 = Ending.returned (Value.bool b10) ∧
              (((b10 = true →
                 R (Value.bool (n7 != 0)) w9)) ∧
               (b10 = false →
                 R (Value.bool false) w9)))))) ∧
         ((n7 != 0) = false →
           (((Option.isNone p6 = true →
              Calls Tryd.prog (18 : Nat) (Array.mk []) (w5) (fun e11 w12 =>
                ∃ b13 : Bool, (e11 = Ending.returned (Value.bool b13) ∧
                 (((b13 = true →
                    R (Value.bool (n7 != 0)) w12)) ∧
                  (b13 = false →
                    R (Value.bool false) w12)))))) ∧
            (Option.isNone p6 = false →
              Calls Tryd.prog (20 : Nat) (Array.mk [Value.pointer p6]) (w5) (fun e14 w15 =>
                ∃ p16 : Option Addr, ∃ n17 : Int, (e14 = Ending.returned (Value.tuple (Array.mk [Value.pointer p16, Value.int IntKind.i64 n17])) ∧
                 ((((n17 != 0) = true →
                    Calls Tryd.prog (18 : Nat) (Array.mk []) (w15) (fun e18 w19 =>
                      ∃ b20 : Bool, (e18 = Ending.returned (Value.bool b20) ∧
                       (((b20 = true →
                          R (Value.bool (n17 != 0)) w19)) ∧
                        (b20 = false →
                          R (Value.bool false) w19)))))) ∧
                  ((n17 != 0) = false →
                    (((Option.isNone p16 = true →
                       Calls Tryd.prog (18 : Nat) (Array.mk []) (w15) (fun e21 w22 =>
                         ∃ b23 : Bool, (e21 = Ending.returned (Value.bool b23) ∧
                          (((b23 = true →
                             R (Value.bool (n17 != 0)) w22)) ∧
                           (b23 = false →
                             R (Value.bool false) w22)))))) ∧
                     (Option.isNone p16 = false →
                       Calls Tryd.prog (25 : Nat) (Array.mk [Value.pointer p16, Value.string (ByteArray.mk (Array.mk []))]) (w15) (fun e24 w25 =>
                         ∃ l26 : Sl, (e24 = Ending.returned (Value.slice l26.1 l26.2 l26.3) ∧
                          ∃ I27 : Int → Int → World → Prop, ∃ I28 : Int → Int → World → Nat, (I27 0 0 w25 ∧
                           ∀ n29 : Int,
                           ∀ n30 : Int,
                           ∀ w31 : World,
                           (I27 n29 n30 w31 →
                             (((decide (n30 < (↑l26.2 : Int)) = true →
                                ((0 ≤ n30 ∧
                                  n30 < (↑l26.2 : Int)) ∧
                                 ∃ a32 : Addr, (l26.1 = some a32 ∧
                                  ∃ s33 : ByteArray, (World.cell? w31 (Addr.add a32 (Int.toNat n30 * 1)) = some (Value.string s33) ∧
                                   Calls Tryd.prog (21 : Nat) (Array.mk [Value.pointer p16, Value.string s33]) (w31) (fun e34 w35 =>
                                     ∃ s36 : ByteArray, ∃ n37 : Int, (e34 = Ending.returned (Value.tuple (Array.mk [Value.string s36, Value.int IntKind.i64 n37])) ∧
                                      ∃ I38 : World → Prop, (Calls Tryd.prog (22 : Nat) (Array.mk [Value.string s33]) (w35) (fun e39 w40 =>
                                         ∃ b41 : Bool, (e39 = Ending.returned (Value.bool b41) ∧
                                          ((((!b41) = true →
                                             R (Value.bool false) w40)) ∧
                                           ((!b41) = false →
                                             ((((ByteArray.toList s33 == ByteArray.toList (ByteArray.mk (Array.mk [72, 69, 65, 68]))) = true →
                                                R (Value.bool false) w40)) ∧
                                              ((ByteArray.toList s33 == ByteArray.toList (ByteArray.mk (Array.mk [72, 69, 65, 68]))) = false →
                                                ((((n37 == 7) = true →
                                                   Calls Tryd.prog (26 : Nat) (Array.mk [Value.pointer p16, Value.string s33]) (w40) (fun e42 w43 =>
                                                     ∃ s44 : ByteArray, (e42 = Ending.returned (Value.string s44) ∧
                                                      ((((!ByteArray.toList s44 == ByteArray.toList (ByteArray.mk (Array.mk []))) = true →
                                                         R (Value.bool false) w43)) ∧
                                                       ((!ByteArray.toList s44 == ByteArray.toList (ByteArray.mk (Array.mk []))) = false →
                                                         ((((n37 == 4) = true →
                                                            R (Value.bool false) w43)) ∧
                                                          ((n37 == 4) = false →
                                                            (((decide (n30 > 0) = true →
                                                               ((0 ≤ IntKind.wrap IntKind.i64 (n30 - 1) ∧
                                                                 IntKind.wrap IntKind.i64 (n30 - 1) < (↑l26.2 : Int)) ∧
                                                                ∃ a45 : Addr, (l26.1 = some a45 ∧
                                                                 ∃ s46 : ByteArray, (World.cell? w43 (Addr.add a45 (Int.toNat (IntKind.wrap IntKind.i64 (n30 - 1)) * 1)) = some (Value.string s46) ∧
                                                                  ((((!Op.bytesLess (ByteArray.toList s46) (ByteArray.toList s33)) = true →
                                                                     R (Value.bool false) w43)) ∧
                                                                   ((!Op.bytesLess (ByteArray.toList s46) (ByteArray.toList s33)) = false →
                                                                     I38 w43))))))) ∧
                                                             (decide (n30 > 0) = false →
                                                               I38 w43)))))))))) ∧
                                                 ((n37 == 7) = false →
                                                   ((((n37 == 4) = true →
                                                      R (Value.bool false) w40)) ∧
                                                    ((n37 == 4) = false →
                                                      (((decide (n30 > 0) = true →
                                                         ((0 ≤ IntKind.wrap IntKind.i64 (n30 - 1) ∧
                                                           IntKind.wrap IntKind.i64 (n30 - 1) < (↑l26.2 : Int)) ∧
                                                          ∃ a47 : Addr, (l26.1 = some a47 ∧
                                                           ∃ s48 : ByteArray, (World.cell? w40 (Addr.add a47 (Int.toNat (IntKind.wrap IntKind.i64 (n30 - 1)) * 1)) = some (Value.string s48) ∧
                                                            ((((!Op.bytesLess (ByteArray.toList s48) (ByteArray.toList s33)) = true →
                                                               R (Value.bool false) w40)) ∧
                                                             ((!Op.bytesLess (ByteArray.toList s48) (ByteArray.toList s33)) = false →
                                                               I38 w40))))))) ∧
                                                       (decide (n30 > 0) = false →
                                                         I38 w40)))))))))))) ∧
                                       ∀ w49 : World,
                                       (I38 w49 →
                                         (((decide ((↑(ByteArray.size s33) : Int) ≥ (↑(ByteArray.size x1) : Int)) = true →
                                            ((0 ≤ (↑(ByteArray.size x1) : Int) ∧
                                              (↑(ByteArray.size x1) : Int) ≤ (↑(ByteArray.size s33) : Int)) ∧
                                             ((((ByteArray.toList (ByteArray.extract s33 0 (Int.toNat (↑(ByteArray.size x1) : Int))) == ByteArray.toList x1) = true →
                                                (I27 (IntKind.wrap IntKind.i64 (n29 + 1)) (IntKind.wrap IntKind.i64 (n30 + 1)) w49 ∧
                                                 I28 (IntKind.wrap IntKind.i64 (n29 + 1)) (IntKind.wrap IntKind.i64 (n30 + 1)) w49 < I28 n29 n30 w31))) ∧
                                              ((ByteArray.toList (ByteArray.extract s33 0 (Int.toNat (↑(ByteArray.size x1) : Int))) == ByteArray.toList x1) = false →
                                                (I27 n29 (IntKind.wrap IntKind.i64 (n30 + 1)) w49 ∧
                                                 I28 n29 (IntKind.wrap IntKind.i64 (n30 + 1)) w49 < I28 n29 n30 w31)))))) ∧
                                          (decide ((↑(ByteArray.size s33) : Int) ≥ (↑(ByteArray.size x1) : Int)) = false →
                                            (I27 n29 (IntKind.wrap IntKind.i64 (n30 + 1)) w49 ∧
                                             I28 n29 (IntKind.wrap IntKind.i64 (n30 + 1)) w49 < I28 n29 n30 w31)))))))))))) ∧
                              (decide (n30 < (↑l26.2 : Int)) = false →
                                Calls Tryd.prog (18 : Nat) (Array.mk []) (w31) (fun e50 w51 =>
                                  ∃ b52 : Bool, (e50 = Ending.returned (Value.bool b52) ∧
                                   (((b52 = true →
                                      Calls Tryd.prog (25 : Nat) (Array.mk [Value.pointer p16, Value.string x1]) (w51) (fun e53 w54 =>
                                        ∃ l55 : Sl, (e53 = Ending.returned (Value.slice l55.1 l55.2 l55.3) ∧
                                         R (Value.bool ((↑l55.2 : Int) == n29)) w54)))) ∧
                                    (b52 = false →
                                      R (Value.bool false) w51))))))))))))))))))))))))
theorem vc_cartularylaw16_RefsListed_ok {x0a : Option Addr} {x0n : Nat} {x0c : Nat} {x1 : ByteArray} {w : World} {R : Value → World → Prop} {R' : Ending → World → Prop} (h : vc_cartularylaw16_RefsListed x0a x0n x0c x1 w R) (hR : ∀ v w', R v w' → R' (.returned v) w') :
    Calls Tryd.prog 8 #[.slice x0a x0n x0c, .string x1] w R' :=
  calls_of_body (vs := [(.slice x0a x0n x0c, false), (.string x1, false)]) (ty := ty) (ann := ⟨[(15, [])], [(10, [(10, .int .i64), (52, .int .i64)])], [], []⟩) (c := Tryd.f8.body.getD .skip) (by kernel_rfl) Tryd.func8 (by kernel_rfl) (by kernel_rfl) (Eq.mp (by kernel_rfl) h) hR
end Go.Proofs.YtmhlmdnhpfhoeaaDoor

/- Formulas of 1 Go functions of this seat (written by a program of the author's, vcgen.py), and that each is enough for the call. No condition. -/
import Derived.Test.YtofejgaanpaieaaTy
import Derived.Test.YtofejgaanpaieaaProg
set_option linter.unusedVariables false
namespace Go.Proofs.Ytofejgaanpaieaa
open Go Vc Go.Proofs
set_option maxRecDepth 100000
/-- cartularylaw06.ZlibWrites -/
def vc_cartularylaw06_ZlibWrites (x0 : ByteArray) (x1 : ByteArray) (x2 : ByteArray) (x3 : Int) (w : World) (R : Value → World → Prop) : Prop :=
  Calls Try.prog (11 : Nat) (Array.mk [Value.string x0, Value.int IntKind.i64 2000]) (w) (fun e1 w2 =>
    ∃ s3 : ByteArray, (e1 = Ending.returned (Value.string s3) ∧
     Calls Try.prog (11 : Nat) (Array.mk [Value.string x1, Value.int IntKind.i64 200]) (w2) (fun e4 w5 =>
       ∃ s6 : ByteArray, (e4 = Ending.returned (Value.string s6) ∧
        Calls Try.prog (23 : Nat) (Array.mk [Value.string s3]) (w5) (fun e7 w8 =>
          ∃ s9 : ByteArray, (e7 = Ending.returned (Value.string s9) ∧
           Calls Try.prog (17 : Nat) (Array.mk []) (w8) (fun e10 w11 =>
             ∃ b12 : Bool, (e10 = Ending.returned (Value.bool b12) ∧
              ((((!b12) = true →
                 R (Value.bool false) w11)) ∧
               ((!b12) = false →
                 Calls Try.prog (24 : Nat) (Array.mk [Value.string s3]) (w11) (fun e13 w14 =>
                   ∃ s15 : ByteArray, (e13 = Ending.returned (Value.string s15) ∧
                    Calls Try.prog (22 : Nat) (Array.mk [Value.string s3]) (w14) (fun e16 w17 =>
                      ∃ s18 : ByteArray, (e16 = Ending.returned (Value.string s18) ∧
                       Calls Try.prog (25 : Nat) (Array.mk [Value.string s18, Value.string s3]) (w17) (fun e19 w20 =>
                         ∃ s21 : ByteArray, (e19 = Ending.returned (Value.string s21) ∧
                          ((((!ByteArray.toList s15 == ByteArray.toList s21) = true →
                             R (Value.bool false) w20)) ∧
                           ((!ByteArray.toList s15 == ByteArray.toList s21) = false →
                             (((decide ((↑(ByteArray.size s9) : Int) < 6) = true →
                                R (Value.bool false) w20)) ∧
                              (decide ((↑(ByteArray.size s9) : Int) < 6) = false →
                                (ByteArray.size s6 + ByteArray.size s9 ≤ 9223372036854775807 ∧
                                 Calls Try.prog (11 : Nat) (Array.mk [Value.string x2, Value.int IntKind.i64 200]) (w20) (fun e22 w23 =>
                                   ∃ s24 : ByteArray, (e22 = Ending.returned (Value.string s24) ∧
                                    (ByteArray.size (s6 ++ s9) + ByteArray.size s24 ≤ 9223372036854775807 ∧
                                     Calls Try.prog (15 : Nat) (Array.mk [Value.string (s6 ++ s9 ++ s24), Value.int IntKind.i64 (↑(ByteArray.size s6) : Int), Value.int IntKind.i64 (↑(ByteArray.size s3) : Int)]) (w23) (fun e25 w26 =>
                                       ∃ s27 : ByteArray, ∃ n28 : Int, ∃ n29 : Int, (e25 = Ending.returned (Value.tuple (Array.mk [Value.string s27, Value.int IntKind.i64 n28, Value.int IntKind.i64 n29])) ∧
                                        ((((!ByteArray.toList s27 == ByteArray.toList s3) = true →
                                           R (Value.bool false) w26)) ∧
                                         ((!ByteArray.toList s27 == ByteArray.toList s3) = false →
                                           ((((n28 != (↑(ByteArray.size s9) : Int)) = true →
                                              R (Value.bool false) w26)) ∧
                                            ((n28 != (↑(ByteArray.size s9) : Int)) = false →
                                              ((((n29 != 0) = true →
                                                 R (Value.bool false) w26)) ∧
                                               ((n29 != 0) = false →
                                                 (((decide (x3 < 0) = true →
                                                    R (Value.bool true) w26)) ∧
                                                  (decide (x3 < 0) = false →
                                                    (((decide (x3 > 31) = true →
                                                       R (Value.bool true) w26)) ∧
                                                     (decide (x3 > 31) = false →
                                                       ∃ w30 : World, ∃ l31 : Sl, (Sem.run Try.prog (convert 9 40 (Value.string s9)) w26 = Result.ok (Value.slice l31.1 l31.2 l31.3) w30 ∧
                                                        ∀ w32 : World,
                                                        (Drew w30 w32 →
                                                          ((8 : Int) ≠ (0 : Int) ∧
                                                           ((0 ≤ IntKind.wrap IntKind.i64 (IntKind.wrap IntKind.i64 ((↑l31.2 : Int) - 1) - IntKind.wrap IntKind.i64 (Int.tdiv x3 8)) ∧
                                                             IntKind.wrap IntKind.i64 (IntKind.wrap IntKind.i64 ((↑l31.2 : Int) - 1) - IntKind.wrap IntKind.i64 (Int.tdiv x3 8)) < (↑l31.2 : Int)) ∧
                                                            ∃ a33 : Addr, (l31.1 = some a33 ∧
                                                             ∃ n34 : Int, (World.cell? w32 (Addr.add a33 (Int.toNat (IntKind.wrap IntKind.i64 (IntKind.wrap IntKind.i64 ((↑l31.2 : Int) - 1) - IntKind.wrap IntKind.i64 (Int.tdiv x3 8))) * 1)) = some (Value.int IntKind.u8 n34) ∧
                                                              ((8 : Int) ≠ (0 : Int) ∧
                                                               (0 ≤ Int.tmod x3 8 ∧
                                                                ((0 ≤ IntKind.wrap IntKind.i64 (IntKind.wrap IntKind.i64 ((↑l31.2 : Int) - 1) - IntKind.wrap IntKind.i64 (Int.tdiv x3 8)) ∧
                                                                  IntKind.wrap IntKind.i64 (IntKind.wrap IntKind.i64 ((↑l31.2 : Int) - 1) - IntKind.wrap IntKind.i64 (Int.tdiv x3 8)) < (↑l31.2 : Int)) ∧
                                                                 ∃ a35 : Addr, (l31.1 = some a35 ∧
                                                                  (Wr w32 (Addr.add a35 (Int.toNat (IntKind.wrap IntKind.i64 (IntKind.wrap IntKind.i64 ((↑l31.2 : Int) - 1) - IntKind.wrap IntKind.i64 (Int.tdiv x3 8))) * 1)) ∧
                                                                   ∀ w36 : World,
                                                                   (w36 = World.setCell w32 (Addr.add a35 (Int.toNat (IntKind.wrap IntKind.i64 (IntKind.wrap IntKind.i64 ((↑l31.2 : Int) - 1) - IntKind.wrap IntKind.i64 (Int.tdiv x3 8))) * 1)) (Value.int IntKind.u8 (IntKind.wrap IntKind.u8 (↑(BitVec.toNat (BitVec.ofInt 8 n34 ^^^ BitVec.ofInt 8 (IntKind.wrap IntKind.u8 (1 * 2 ^ min (Int.toNat (Int.tmod x3 8)) 8)))) : Int))) →
                                                                     ∃ w37 : World, ∃ s38 : ByteArray, (Sem.run Try.prog (convert 40 9 (Value.slice l31.1 l31.2 l31.3)) w36 = Result.ok (Value.string s38) w37 ∧
                                                                      Calls Try.prog (15 : Nat) (Array.mk [Value.string s38, Value.int IntKind.i64 0, Value.int IntKind.i64 (↑(ByteArray.size s3) : Int)]) (w37) (fun e39 w40 =>
                                                                        ∃ s41 : ByteArray, ∃ n42 : Int, ∃ n43 : Int, (e39 = Ending.returned (Value.tuple (Array.mk [Value.string s41, Value.int IntKind.i64 n42, Value.int IntKind.i64 n43])) ∧
                                                                         ((((ByteArray.toList s41 == ByteArray.toList (ByteArray.mk (Array.mk []))) = true →
                                                                            ((((n42 == 0) = true →
                                                                               R (Value.bool (n43 == 5)) w40)) ∧
                                                                             ((n42 == 0) = false →
                                                                               R (Value.bool false) w40)))) ∧
                                                                          ((ByteArray.toList s41 == ByteArray.toList (ByteArray.mk (Array.mk []))) = false →
                                                                            R (Value.bool false) w40)))))))))))))))))))))))))))))))))))))))))))))))))))))
theorem vc_cartularylaw06_ZlibWrites_ok {x0 : ByteArray} {x1 : ByteArray} {x2 : ByteArray} {x3 : Int} {w : World} {R : Value → World → Prop} {R' : Ending → World → Prop} (h : vc_cartularylaw06_ZlibWrites x0 x1 x2 x3 w R) (hR : ∀ v w', R v w' → R' (.returned v) w') :
    Calls Try.prog 10 #[.string x0, .string x1, .string x2, .int .i64 x3] w R' :=
  calls_of_body (vs := [(.string x0, false), (.string x1, false), (.string x2, false), (.int .i64 x3, false)]) (ty := ty) (ann := ⟨[], [], [(12, .tail 14)], []⟩) (c := Try.f10.body.getD .skip) (by kernel_rfl) Try.func10 (by kernel_rfl) (by kernel_rfl) (Eq.mp (by kernel_rfl) h) hR
end Go.Proofs.Ytofejgaanpaieaa

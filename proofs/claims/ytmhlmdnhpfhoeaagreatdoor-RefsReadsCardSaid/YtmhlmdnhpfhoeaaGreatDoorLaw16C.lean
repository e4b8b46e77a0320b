/- Formulas of 1 Go functions of this seat (written by a program of the author's, vcgen.py), and that each is enough for the call. No condition. -/
import Derived.Test.YtmhlmdnhpfhoeaaGreatDoorTy
import Derived.Test.YtmhlmdnhpfhoeaaGreatDoorProg
set_option linter.unusedVariables false
namespace Go.Proofs.YtmhlmdnhpfhoeaaGreatDoor
open Go Vc Go.Proofs
set_option maxRecDepth 100000
/-- cartularylaw16.RefsReads -/
def vc_cartularylaw16_RefsReads (x0a : Option Addr) (x0n : Nat) (x0c : Nat) (x1 : ByteArray) (x2 : ByteArray) (w : World) (R : Value → World → Prop) : Prop :=
  Calls Tryz.prog (5 : Nat) (Array.mk [Value.slice x0a x0n x0c, Value.int IntKind.i64 40]) (w) (fun e1 w2 =>
    ∃ l3 : Sl, (e1 = Ending.returned (Value.slice l3.1 l3.2 l3.3) ∧
     Calls Tryz.prog (6 : Nat) (Array.mk [Value.slice l3.1 l3.2 l3.3]) (w2) (fun e4 w5 =>
       ∃ p6 : Option Addr, ∃ n7 : Int, (e4 = Ending.returned (Value.tuple (Array.mk [Value.pointer p6, Value.int IntKind.i64 n7])) ∧
        ((((n7 != 0) = true →
           Calls Tryz.prog (7 : Nat) (Array.mk []) (w5) (fun e8 w9 =>
             ∃ b10 : Bool, (e8 = Ending.returned (Value.bool b10) ∧
              (((b10 = true →
                 R (Value.bool (n7 != 0)) w9)) ∧
               (b10 = false →
                 R (Value.bool false) w9)))))) ∧
         ((n7 != 0) = false →
           (((Option.isNone p6 = true →
              Calls Tryz.prog (7 : Nat) (Array.mk []) (w5) (fun e11 w12 =>
                ∃ b13 : Bool, (e11 = Ending.returned (Value.bool b13) ∧
                 (((b13 = true →
                    R (Value.bool (n7 != 0)) w12)) ∧
                  (b13 = false →
                    R (Value.bool false) w12)))))) ∧
            (Option.isNone p6 = false →
              Calls Tryz.prog (8 : Nat) (Array.mk [Value.pointer p6]) (w5) (fun e14 w15 =>
                ∃ p16 : Option Addr, ∃ n17 : Int, (e14 = Ending.returned (Value.tuple (Array.mk [Value.pointer p16, Value.int IntKind.i64 n17])) ∧
                 Calls Tryz.prog (9 : Nat) (Array.mk [Value.slice l3.1 l3.2 l3.3]) (w15) (fun e18 w19 =>
                   ∃ l20 : Sl, ∃ n21 : Int, (e18 = Ending.returned (Value.tuple (Array.mk [Value.slice l20.1 l20.2 l20.3, Value.int IntKind.i64 n21])) ∧
                    Calls Tryz.prog (7 : Nat) (Array.mk []) (w19) (fun e22 w23 =>
                      ∃ b24 : Bool, (e22 = Ending.returned (Value.bool b24) ∧
                       ((((!b24) = true →
                          R (Value.bool false) w23)) ∧
                        ((!b24) = false →
                          ((((n17 != n21) = true →
                             R (Value.bool false) w23)) ∧
                           ((n17 != n21) = false →
                             Calls Tryz.prog (10 : Nat) (Array.mk [Value.string x1]) (w23) (fun e25 w26 =>
                               ∃ b27 : Bool, (e25 = Ending.returned (Value.bool b27) ∧
                                Calls Tryz.prog (11 : Nat) (Array.mk [Value.string x1]) (w26) (fun e28 w29 =>
                                  ∃ b30 : Bool, (e28 = Ending.returned (Value.bool b30) ∧
                                   ((((!b27 == b30) = true →
                                      R (Value.bool false) w29)) ∧
                                    ((!b27 == b30) = false →
                                      Calls Tryz.prog (10 : Nat) (Array.mk [Value.string x2]) (w29) (fun e31 w32 =>
                                        ∃ b33 : Bool, (e31 = Ending.returned (Value.bool b33) ∧
                                         Calls Tryz.prog (11 : Nat) (Array.mk [Value.string x2]) (w32) (fun e34 w35 =>
                                           ∃ b36 : Bool, (e34 = Ending.returned (Value.bool b36) ∧
                                            ((((!b33 == b36) = true →
                                               R (Value.bool false) w35)) ∧
                                             ((!b33 == b36) = false →
                                               ((((n21 != 0) = true →
                                                  R (Value.bool (Option.isNone p16)) w35)) ∧
                                                ((n21 != 0) = false →
                                                  (((Option.isNone p16 = true →
                                                     R (Value.bool false) w35)) ∧
                                                   (Option.isNone p16 = false →
                                                     Calls Tryz.prog (13 : Nat) (Array.mk [Value.pointer p16, Value.string x2]) (w35) (fun e37 w38 =>
                                                       ∃ l39 : Sl, (e37 = Ending.returned (Value.slice l39.1 l39.2 l39.3) ∧
                                                        Calls Tryz.prog (14 : Nat) (Array.mk [Value.slice l3.1 l3.2 l3.3, Value.slice l20.1 l20.2 l20.3, Value.string x2]) (w38) (fun e40 w41 =>
                                                          ∃ l42 : Sl, (e40 = Ending.returned (Value.slice l42.1 l42.2 l42.3) ∧
                                                           Calls Tryz.prog (12 : Nat) (Array.mk [Value.slice l39.1 l39.2 l39.3, Value.slice l42.1 l42.2 l42.3]) (w41) (fun e43 w44 =>
                                                             ∃ b45 : Bool, (e43 = Ending.returned (Value.bool b45) ∧
                                                              ((((!b45) = true →
                                                                 R (Value.bool false) w44)) ∧
                                                               ((!b45) = false →
                                                                 ∀ w46 : World,
                                                                 (w46 = World.alloc w44 (Obj.cells (Array.mk [Value.string x1, Value.string (ByteArray.mk (Array.mk [72, 69, 65, 68]))]) 9) →
                                                                   Calls Tryz.prog (14 : Nat) (Array.mk [Value.slice l3.1 l3.2 l3.3, Value.slice l20.1 l20.2 l20.3, Value.string (ByteArray.mk (Array.mk []))]) (w46) (fun e47 w48 =>
                                                                     ∃ l49 : Sl, (e47 = Ending.returned (Value.slice l49.1 l49.2 l49.3) ∧
                                                                      ∃ w50 : World, ∃ l51 : Sl, (Sem.run Tryz.prog (Builtin.append_ (Array.mk [37, 37]) 37 (Array.mk [Value.slice (some (Addr.mk (Array.size (World.heap w44)) 0 none)) 2 2, Value.slice l49.1 l49.2 l49.3])) w48 = Result.ok (Value.slice l51.1 l51.2 l51.3) w50 ∧
                                                                       ∃ I52 : Int → World → Prop, ∃ I53 : Int → World → Nat, (I52 0 w50 ∧
                                                                        ∀ n54 : Int,
                                                                        ∀ w55 : World,
                                                                        (I52 n54 w55 →
                                                                          (((decide (n54 < (↑l51.2 : Int)) = true →
                                                                             ((0 ≤ n54 ∧
                                                                               n54 < (↑l51.2 : Int)) ∧
                                                                              ∃ a56 : Addr, (l51.1 = some a56 ∧
                                                                               ∃ s57 : ByteArray, (World.cell? w55 (Addr.add a56 (Int.toNat n54 * 1)) = some (Value.string s57) ∧
                                                                                (((decide (n54 > 60) = true →
                                                                                   R (Value.bool true) w55)) ∧
                                                                                 (decide (n54 > 60) = false →
                                                                                   Calls Tryz.prog (15 : Nat) (Array.mk [Value.pointer p16, Value.string s57]) (w55) (fun e58 w59 =>
                                                                                     ∃ s60 : ByteArray, ∃ n61 : Int, (e58 = Ending.returned (Value.tuple (Array.mk [Value.string s60, Value.int IntKind.i64 n61])) ∧
                                                                                      Calls Tryz.prog (16 : Nat) (Array.mk [Value.slice l3.1 l3.2 l3.3, Value.slice l20.1 l20.2 l20.3, Value.string s57]) (w59) (fun e62 w63 =>
                                                                                        ∃ s64 : ByteArray, ∃ n65 : Int, (e62 = Ending.returned (Value.tuple (Array.mk [Value.string s64, Value.int IntKind.i64 n65])) ∧
                                                                                         ((((!ByteArray.toList s60 == ByteArray.toList s64) = true →
                                                                                            R (Value.bool false) w63)) ∧
                                                                                          ((!ByteArray.toList s60 == ByteArray.toList s64) = false →
                                                                                            ((((n61 != n65) = true →
                                                                                               R (Value.bool false) w63)) ∧
                                                                                             ((n61 != n65) = false →
                                                                                               Calls Tryz.prog (17 : Nat) (Array.mk [Value.pointer p16, Value.string s57]) (w63) (fun e66 w67 =>
                                                                                                 ∃ s68 : ByteArray, (e66 = Ending.returned (Value.string s68) ∧
                                                                                                  Calls Tryz.prog (18 : Nat) (Array.mk [Value.slice l3.1 l3.2 l3.3, Value.slice l20.1 l20.2 l20.3, Value.string s57]) (w67) (fun e69 w70 =>
                                                                                                    ∃ s71 : ByteArray, (e69 = Ending.returned (Value.string s71) ∧
                                                                                                     ((((!ByteArray.toList s68 == ByteArray.toList s71) = true →
                                                                                                        R (Value.bool false) w70)) ∧
                                                                                                      ((!ByteArray.toList s68 == ByteArray.toList s71) = false →
                                                                                                        (I52 (IntKind.wrap IntKind.i64 (n54 + 1)) w70 ∧
                                                                                                         I53 (IntKind.wrap IntKind.i64 (n54 + 1)) w70 < I53 n54 w55)))))))))))))))))))))) ∧
                                                                           (decide (n54 < (↑l51.2 : Int)) = false →
                                                                             R (Value.bool true) w55))))))))))))))))))))))))))))))))))))))))))))))))))
theorem vc_cartularylaw16_RefsReads_ok {x0a : Option Addr} {x0n : Nat} {x0c : Nat} {x1 : ByteArray} {x2 : ByteArray} {w : World} {R : Value → World → Prop} {R' : Ending → World → Prop} (h : vc_cartularylaw16_RefsReads x0a x0n x0c x1 x2 w R) (hR : ∀ v w', R v w' → R' (.returned v) w') :
    Calls Tryz.prog 3 #[.slice x0a x0n x0c, .string x1, .string x2] w R' :=
  calls_of_body (vs := [(.slice x0a x0n x0c, false), (.string x1, false), (.string x2, false)]) (ty := ty) (ann := ⟨[], [(14, [(92, .int .i64)])], [], []⟩) (c := Tryz.f3.body.getD .skip) (by kernel_rfl) Tryz.func3 (by kernel_rfl) (by kernel_rfl) (Eq.mp (by kernel_rfl) h) hR
end Go.Proofs.YtmhlmdnhpfhoeaaGreatDoor

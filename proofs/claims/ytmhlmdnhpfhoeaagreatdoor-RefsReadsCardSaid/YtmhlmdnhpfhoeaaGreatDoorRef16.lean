/- Formulas of 3 Go functions of this seat (written by a program of the author's, vcgen.py), and that each is enough for the call. No condition. -/
import Derived.Test.YtmhlmdnhpfhoeaaGreatDoorTy
import Derived.Test.YtmhlmdnhpfhoeaaGreatDoorProg
set_option linter.unusedVariables false
namespace Go.Proofs.YtmhlmdnhpfhoeaaGreatDoor
open Go Vc Go.Proofs
set_option maxRecDepth 100000
/-- cartularyref16.Ends -/
def vc_cartularyref16_Ends (x0 : ByteArray) (x1 : ByteArray) (w : World) (R : Value → World → Prop) : Prop :=
  (((decide ((↑(ByteArray.size x0) : Int) ≥ (↑(ByteArray.size x1) : Int)) = true →
     ((0 ≤ IntKind.wrap IntKind.i64 ((↑(ByteArray.size x0) : Int) - (↑(ByteArray.size x1) : Int)) ∧
       IntKind.wrap IntKind.i64 ((↑(ByteArray.size x0) : Int) - (↑(ByteArray.size x1) : Int)) ≤ (↑(ByteArray.size x0) : Int)) ∧
      R (Value.bool (ByteArray.toList (ByteArray.extract x0 (Int.toNat (IntKind.wrap IntKind.i64 ((↑(ByteArray.size x0) : Int) - (↑(ByteArray.size x1) : Int)))) (ByteArray.size x0)) == ByteArray.toList x1)) w))) ∧
   (decide ((↑(ByteArray.size x0) : Int) ≥ (↑(ByteArray.size x1) : Int)) = false →
     R (Value.bool false) w))
theorem vc_cartularyref16_Ends_ok {x0 : ByteArray} {x1 : ByteArray} {w : World} {R : Value → World → Prop} {R' : Ending → World → Prop} (h : vc_cartularyref16_Ends x0 x1 w R) (hR : ∀ v w', R v w' → R' (.returned v) w') :
    Calls Tryz.prog 41 #[.string x0, .string x1] w R' :=
  calls_of_body (vs := [(.string x0, false), (.string x1, false)]) (ty := ty) (ann := ⟨[], [], [], []⟩) (c := Tryz.f41.body.getD .skip) (by kernel_rfl) Tryz.func41 (by kernel_rfl) (by kernel_rfl) (Eq.mp (by kernel_rfl) h) hR
/-- cartularyref16.Has -/
def vc_cartularyref16_Has (x0 : ByteArray) (x1 : ByteArray) (w : World) (R : Value → World → Prop) : Prop :=
  ∃ I1 : Int → World → Prop, ∃ I2 : Int → World → Nat, (I1 0 w ∧
   ∀ n3 : Int,
   ∀ w4 : World,
   (I1 n3 w4 →
     (((decide (IntKind.wrap IntKind.i64 (n3 + (↑(ByteArray.size x1) : Int)) ≤ (↑(ByteArray.size x0) : Int)) = true →
        ((0 ≤ n3 ∧
          (n3 ≤ IntKind.wrap IntKind.i64 (n3 + (↑(ByteArray.size x1) : Int)) ∧
           IntKind.wrap IntKind.i64 (n3 + (↑(ByteArray.size x1) : Int)) ≤ (↑(ByteArray.size x0) : Int))) ∧
         ((((ByteArray.toList (ByteArray.extract x0 (Int.toNat n3) (Int.toNat (IntKind.wrap IntKind.i64 (n3 + (↑(ByteArray.size x1) : Int))))) == ByteArray.toList x1) = true →
            R (Value.bool true) w4)) ∧
          ((ByteArray.toList (ByteArray.extract x0 (Int.toNat n3) (Int.toNat (IntKind.wrap IntKind.i64 (n3 + (↑(ByteArray.size x1) : Int))))) == ByteArray.toList x1) = false →
            (I1 (IntKind.wrap IntKind.i64 (n3 + 1)) w4 ∧
             I2 (IntKind.wrap IntKind.i64 (n3 + 1)) w4 < I2 n3 w4)))))) ∧
      (decide (IntKind.wrap IntKind.i64 (n3 + (↑(ByteArray.size x1) : Int)) ≤ (↑(ByteArray.size x0) : Int)) = false →
        R (Value.bool false) w4))))
theorem vc_cartularyref16_Has_ok {x0 : ByteArray} {x1 : ByteArray} {w : World} {R : Value → World → Prop} {R' : Ending → World → Prop} (h : vc_cartularyref16_Has x0 x1 w R) (hR : ∀ v w', R v w' → R' (.returned v) w') :
    Calls Tryz.prog 40 #[.string x0, .string x1] w R' :=
  calls_of_body (vs := [(.string x0, false), (.string x1, false)]) (ty := ty) (ann := ⟨[], [(2, [(5, .int .i64)])], [], []⟩) (c := Tryz.f40.body.getD .skip) (by kernel_rfl) Tryz.func40 (by kernel_rfl) (by kernel_rfl) (Eq.mp (by kernel_rfl) h) hR
/-- cartularyref16.Name -/
def vc_cartularyref16_Name (x0 : ByteArray) (w : World) (R : Value → World → Prop) : Prop :=
  ((((ByteArray.toList x0 == ByteArray.toList (ByteArray.mk (Array.mk [72, 69, 65, 68]))) = true →
     R (Value.bool true) w)) ∧
   ((ByteArray.toList x0 == ByteArray.toList (ByteArray.mk (Array.mk [72, 69, 65, 68]))) = false →
     Calls Tryz.prog (34 : Nat) (Array.mk [Value.string x0, Value.string (ByteArray.mk (Array.mk [114, 101, 102, 115, 47]))]) (w) (fun e1 w2 =>
       ∃ b3 : Bool, (e1 = Ending.returned (Value.bool b3) ∧
        ((((!b3) = true →
           R (Value.bool false) w2)) ∧
         ((!b3) = false →
           Calls Tryz.prog (39 : Nat) (Array.mk [Value.string x0]) (w2) (fun e4 w5 =>
             ∃ b6 : Bool, (e4 = Ending.returned (Value.bool b6) ∧
              ((((!b6) = true →
                 R (Value.bool false) w5)) ∧
               ((!b6) = false →
                 Calls Tryz.prog (40 : Nat) (Array.mk [Value.string x0, Value.string (ByteArray.mk (Array.mk [46, 46]))]) (w5) (fun e7 w8 =>
                   ∃ b9 : Bool, (e7 = Ending.returned (Value.bool b9) ∧
                    (((b9 = true →
                       R (Value.bool false) w8)) ∧
                     (b9 = false →
                       Calls Tryz.prog (40 : Nat) (Array.mk [Value.string x0, Value.string (ByteArray.mk (Array.mk [64, 123]))]) (w8) (fun e10 w11 =>
                         ∃ b12 : Bool, (e10 = Ending.returned (Value.bool b12) ∧
                          (((b12 = true →
                             R (Value.bool false) w11)) ∧
                           (b12 = false →
                             Calls Tryz.prog (41 : Nat) (Array.mk [Value.string x0, Value.string (ByteArray.mk (Array.mk [46]))]) (w11) (fun e13 w14 =>
                               ∃ b15 : Bool, (e13 = Ending.returned (Value.bool b15) ∧
                                (((b15 = true →
                                   R (Value.bool false) w14)) ∧
                                 (b15 = false →
                                   ∀ w16 : World,
                                   (w16 = World.alloc w14 (Obj.cells (Array.mk [Value.string (ByteArray.mk (Array.mk [32])), Value.string (ByteArray.mk (Array.mk [126])), Value.string (ByteArray.mk (Array.mk [94])), Value.string (ByteArray.mk (Array.mk [58])), Value.string (ByteArray.mk (Array.mk [63])), Value.string (ByteArray.mk (Array.mk [42])), Value.string (ByteArray.mk (Array.mk [91])), Value.string (ByteArray.mk (Array.mk [92]))]) 9) →
                                     ∃ I17 : Int → World → Prop, ∃ I18 : Int → World → Nat, (I17 0 w16 ∧
                                      ∀ n19 : Int,
                                      ∀ w20 : World,
                                      (I17 n19 w20 →
                                        (((decide (n19 < (↑8 : Int)) = true →
                                           ((0 ≤ n19 ∧
                                             n19 < (↑8 : Int)) ∧
                                            ∃ a21 : Addr, (some (Addr.mk (Array.size (World.heap w14)) 0 none) = some a21 ∧
                                             ∃ s22 : ByteArray, (World.cell? w20 (Addr.add a21 (Int.toNat n19 * 1)) = some (Value.string s22) ∧
                                              Calls Tryz.prog (40 : Nat) (Array.mk [Value.string x0, Value.string s22]) (w20) (fun e23 w24 =>
                                                ∃ b25 : Bool, (e23 = Ending.returned (Value.bool b25) ∧
                                                 (((b25 = true →
                                                    R (Value.bool false) w24)) ∧
                                                  (b25 = false →
                                                    (I17 (IntKind.wrap IntKind.i64 (n19 + 1)) w24 ∧
                                                     I18 (IntKind.wrap IntKind.i64 (n19 + 1)) w24 < I18 n19 w20)))))))))) ∧
                                         (decide (n19 < (↑8 : Int)) = false →
                                           Calls Tryz.prog (42 : Nat) (Array.mk [Value.string x0]) (w20) (fun e26 w27 =>
                                             ∃ l28 : Sl, (e26 = Ending.returned (Value.slice l28.1 l28.2 l28.3) ∧
                                              ∃ I29 : Int → World → Prop, ∃ I30 : Int → World → Nat, (I29 0 w27 ∧
                                               ∀ n31 : Int,
                                               ∀ w32 : World,
                                               (I29 n31 w32 →
                                                 (((decide (n31 < (↑l28.2 : Int)) = true →
                                                    ((0 ≤ n31 ∧
                                                      n31 < (↑l28.2 : Int)) ∧
                                                     ∃ a33 : Addr, (l28.1 = some a33 ∧
                                                      ∃ s34 : ByteArray, (World.cell? w32 (Addr.add a33 (Int.toNat n31 * 1)) = some (Value.string s34) ∧
                                                       Calls Tryz.prog (34 : Nat) (Array.mk [Value.string s34, Value.string (ByteArray.mk (Array.mk [46]))]) (w32) (fun e35 w36 =>
                                                         ∃ b37 : Bool, (e35 = Ending.returned (Value.bool b37) ∧
                                                          (((b37 = true →
                                                             R (Value.bool false) w36)) ∧
                                                           (b37 = false →
                                                             Calls Tryz.prog (41 : Nat) (Array.mk [Value.string s34, Value.string (ByteArray.mk (Array.mk [46, 108, 111, 99, 107]))]) (w36) (fun e38 w39 =>
                                                               ∃ b40 : Bool, (e38 = Ending.returned (Value.bool b40) ∧
                                                                (((b40 = true →
                                                                   R (Value.bool false) w39)) ∧
                                                                 (b40 = false →
                                                                   (I29 (IntKind.wrap IntKind.i64 (n31 + 1)) w39 ∧
                                                                    I30 (IntKind.wrap IntKind.i64 (n31 + 1)) w39 < I30 n31 w32)))))))))))))) ∧
                                                  (decide (n31 < (↑l28.2 : Int)) = false →
                                                    R (Value.bool true) w32)))))))))))))))))))))))))))))))))
theorem vc_cartularyref16_Name_ok {x0 : ByteArray} {w : World} {R : Value → World → Prop} {R' : Ending → World → Prop} (h : vc_cartularyref16_Name x0 w R) (hR : ∀ v w', R v w' → R' (.returned v) w') :
    Calls Tryz.prog 11 #[.string x0] w R' :=
  calls_of_body (vs := [(.string x0, false)]) (ty := ty) (ann := ⟨[], [(6, [(31, .int .i64)]), (12, [(42, .int .i64)])], [], []⟩) (c := Tryz.f11.body.getD .skip) (by kernel_rfl) Tryz.func11 (by kernel_rfl) (by kernel_rfl) (Eq.mp (by kernel_rfl) h) hR
end Go.Proofs.YtmhlmdnhpfhoeaaGreatDoor

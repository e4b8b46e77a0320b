/- Formulas of 1 Go functions of this seat (written by a program of the author's, vcgen.py), and that each is enough for the call. No condition. -/
import Derived.Test.YtmhlmdnhpfhoeaaGreatDoorTy
import Derived.Test.YtmhlmdnhpfhoeaaGreatDoorProg
set_option linter.unusedVariables false
namespace Go.Proofs.YtmhlmdnhpfhoeaaGreatDoor
open Go Vc Go.Proofs
set_option maxRecDepth 100000
/-- cartularylaw16.awake -/
def vc_cartularylaw16_awake (w : World) (R : Value → World → Prop) : Prop :=
  (ByteArray.size (ByteArray.mk (Array.mk [(35 : UInt8), (32 : UInt8), (120 : UInt8), (10 : UInt8)])) + ByteArray.size (ByteArray.mk (Array.mk [(52 : UInt8), (98 : UInt8), (56 : UInt8), (50 : UInt8), (53 : UInt8), (100 : UInt8), (99 : UInt8), (54 : UInt8), (52 : UInt8), (50 : UInt8), (99 : UInt8), (98 : UInt8), (54 : UInt8), (101 : UInt8), (98 : UInt8), (57 : UInt8), (97 : UInt8), (48 : UInt8), (54 : UInt8), (48 : UInt8), (101 : UInt8), (53 : UInt8), (52 : UInt8), (98 : UInt8), (102 : UInt8), (56 : UInt8), (100 : UInt8), (54 : UInt8), (57 : UInt8), (50 : UInt8), (56 : UInt8), (56 : UInt8), (102 : UInt8), (98 : UInt8), (101 : UInt8), (101 : UInt8), (52 : UInt8), (57 : UInt8), (48 : UInt8), (52 : UInt8)])) ≤ (9223372036854775807 : Nat) ∧
   (ByteArray.size (ByteArray.mk (Array.mk [(35 : UInt8), (32 : UInt8), (120 : UInt8), (10 : UInt8)]) ++ ByteArray.mk (Array.mk [(52 : UInt8), (98 : UInt8), (56 : UInt8), (50 : UInt8), (53 : UInt8), (100 : UInt8), (99 : UInt8), (54 : UInt8), (52 : UInt8), (50 : UInt8), (99 : UInt8), (98 : UInt8), (54 : UInt8), (101 : UInt8), (98 : UInt8), (57 : UInt8), (97 : UInt8), (48 : UInt8), (54 : UInt8), (48 : UInt8), (101 : UInt8), (53 : UInt8), (52 : UInt8), (98 : UInt8), (102 : UInt8), (56 : UInt8), (100 : UInt8), (54 : UInt8), (57 : UInt8), (50 : UInt8), (56 : UInt8), (56 : UInt8), (102 : UInt8), (98 : UInt8), (101 : UInt8), (101 : UInt8), (52 : UInt8), (57 : UInt8), (48 : UInt8), (52 : UInt8)])) + ByteArray.size (ByteArray.mk (Array.mk [(32 : UInt8), (114 : UInt8), (101 : UInt8), (102 : UInt8), (115 : UInt8), (47 : UInt8), (104 : UInt8), (101 : UInt8), (97 : UInt8), (100 : UInt8), (115 : UInt8), (47 : UInt8), (109 : UInt8), (97 : UInt8), (105 : UInt8), (110 : UInt8), (10 : UInt8)])) ≤ (9223372036854775807 : Nat) ∧
    ∀ w1 : World,
    (w1 = World.alloc w (Obj.cells (Array.mk [Value.string (ByteArray.mk (Array.mk [72, 69, 65, 68])), Value.string (ByteArray.mk (Array.mk [114, 101, 102, 58, 32, 114, 101, 102, 115, 47, 104, 101, 97, 100, 115, 47, 109, 97, 105, 110, 10])), Value.string (ByteArray.mk (Array.mk [112, 97, 99, 107, 101, 100, 45, 114, 101, 102, 115])), Value.string (ByteArray.mk (Array.mk [35, 32, 120, 10]) ++ ByteArray.mk (Array.mk [52, 98, 56, 50, 53, 100, 99, 54, 52, 50, 99, 98, 54, 101, 98, 57, 97, 48, 54, 48, 101, 53, 52, 98, 102, 56, 100, 54, 57, 50, 56, 56, 102, 98, 101, 101, 52, 57, 48, 52]) ++ ByteArray.mk (Array.mk [32, 114, 101, 102, 115, 47, 104, 101, 97, 100, 115, 47, 109, 97, 105, 110, 10]))]) 48) →
      Calls Tryz.prog (6 : Nat) (Array.mk [Value.slice (some (Addr.mk (Array.size (World.heap w)) 0 none)) 2 2]) (w1) (fun e2 w3 =>
        ∃ p4 : Option Addr, ∃ n5 : Int, (e2 = Ending.returned (Value.tuple (Array.mk [Value.pointer p4, Value.int IntKind.i64 n5])) ∧
         ((((n5 != 0) = true →
            R (Value.bool false) w3)) ∧
          ((n5 != 0) = false →
            (((Option.isNone p4 = true →
               R (Value.bool false) w3)) ∧
             (Option.isNone p4 = false →
               Calls Tryz.prog (8 : Nat) (Array.mk [Value.pointer p4]) (w3) (fun e6 w7 =>
                 ∃ p8 : Option Addr, ∃ n9 : Int, (e6 = Ending.returned (Value.tuple (Array.mk [Value.pointer p8, Value.int IntKind.i64 n9])) ∧
                  ((((n9 != 0) = true →
                     R (Value.bool false) w7)) ∧
                   ((n9 != 0) = false →
                     (((Option.isNone p8 = true →
                        R (Value.bool false) w7)) ∧
                      (Option.isNone p8 = false →
                        Calls Tryz.prog (15 : Nat) (Array.mk [Value.pointer p8, Value.string (ByteArray.mk (Array.mk [72, 69, 65, 68]))]) (w7) (fun e10 w11 =>
                          ∃ s12 : ByteArray, ∃ n13 : Int, (e10 = Ending.returned (Value.tuple (Array.mk [Value.string s12, Value.int IntKind.i64 n13])) ∧
                           ((((n13 == 0) = true →
                              R (Value.bool (ByteArray.toList s12 == ByteArray.toList (ByteArray.mk (Array.mk [52, 98, 56, 50, 53, 100, 99, 54, 52, 50, 99, 98, 54, 101, 98, 57, 97, 48, 54, 48, 101, 53, 52, 98, 102, 56, 100, 54, 57, 50, 56, 56, 102, 98, 101, 101, 52, 57, 48, 52])))) w11)) ∧
                            ((n13 == 0) = false →
                              R (Value.bool false) w11)))))))))))))))))))
theorem vc_cartularylaw16_awake_ok {w : World} {R : Value → World → Prop} {R' : Ending → World → Prop} (h : vc_cartularylaw16_awake w R) (hR : ∀ v w', R v w' → R' (.returned v) w') :
    Calls Tryz.prog 7 #[] w R' :=
  calls_of_body (vs := []) (ty := ty) (ann := ⟨[], [], [], []⟩) (c := Tryz.f7.body.getD .skip) (by kernel_rfl) Tryz.func7 (by kernel_rfl) (by kernel_rfl) (Eq.mp (by kernel_rfl) h) hR
end Go.Proofs.YtmhlmdnhpfhoeaaGreatDoor

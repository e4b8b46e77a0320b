/- Formulas of 1 Go functions of this seat (written by a program of the author's, vcgen.py), and that each is enough for the call. No condition. -/
import Derived.Test.YtoagdpjickippaaTy
import Derived.Test.YtoagdpjickippaaProg
set_option linter.unusedVariables false
namespace Go.Proofs.Ytoagdpjickippaa
open Go Vc Go.Proofs
set_option maxRecDepth 100000
/-- cartularylaw12.awake -/
def vc_cartularylaw12_awake (w : World) (R : Value → World → Prop) : Prop :=
  ∀ w1 : World,
  (w1 = World.alloc w (Obj.cells (Array.mk [Value.string (ByteArray.mk (Array.mk [101, 54, 57, 100, 101, 50, 57, 98, 98, 50, 100, 49, 100, 54, 52, 51, 52, 98, 56, 98, 50, 57, 97, 101, 55, 55, 53, 97, 100, 56, 99, 50, 101, 52, 56, 99, 53, 51, 57, 49])), Value.int IntKind.i64 12, Value.int IntKind.u32 7]) 32) →
    Calls Try.prog (6 : Nat) (Array.mk [Value.slice (some (Addr.mk (Array.size (World.heap w)) 0 none)) 1 1, Value.string (ByteArray.mk (Array.mk [52, 98, 56, 50, 53, 100, 99, 54, 52, 50, 99, 98, 54, 101, 98, 57, 97, 48, 54, 48, 101, 53, 52, 98, 102, 56, 100, 54, 57, 50, 56, 56, 102, 98, 101, 101, 52, 57, 48, 52])), Value.int IntKind.i64 0]) (w1) (fun e2 w3 =>
      ∃ s4 : ByteArray, ∃ n5 : Int, (e2 = Ending.returned (Value.tuple (Array.mk [Value.string s4, Value.int IntKind.i64 n5])) ∧
       Calls Try.prog (8 : Nat) (Array.mk [Value.string s4]) (w3) (fun e6 w7 =>
         ∃ p8 : Option Addr, ∃ n9 : Int, (e6 = Ending.returned (Value.tuple (Array.mk [Value.pointer p8, Value.int IntKind.i64 n9])) ∧
          ((((n5 != 0) = true →
             R (Value.bool false) w7)) ∧
           ((n5 != 0) = false →
             ((((n9 != 0) = true →
                R (Value.bool false) w7)) ∧
              ((n9 != 0) = false →
                (((Option.isNone p8 = true →
                   R (Value.bool false) w7)) ∧
                 (Option.isNone p8 = false →
                   (((((↑(ByteArray.size s4) : Int) != 1108) = true →
                      R (Value.bool false) w7)) ∧
                    (((↑(ByteArray.size s4) : Int) != 1108) = false →
                      Calls Try.prog (9 : Nat) (Array.mk [Value.pointer p8, Value.string (ByteArray.mk (Array.mk [101, 54, 57, 100, 101, 50, 57, 98, 98, 50, 100, 49, 100, 54, 52, 51, 52, 98, 56, 98, 50, 57, 97, 101, 55, 55, 53, 97, 100, 56, 99, 50, 101, 52, 56, 99, 53, 51, 57, 49]))]) (w7) (fun e10 w11 =>
                        ∃ s12 : ByteArray, ∃ n13 : Int, ∃ n14 : Int, ∃ n15 : Int, (e10 = Ending.returned (Value.tuple (Array.mk [Value.agg (Array.mk [Value.string s12, Value.int IntKind.i64 n13, Value.int IntKind.u32 n14]), Value.int IntKind.i64 n15])) ∧
                         ∀ w16 : World,
                         (w16 = World.alloc w11 (Obj.cells (Array.mk [Value.string (ByteArray.mk (Array.mk [])), Value.int IntKind.i64 0, Value.int IntKind.u32 0]) 32) →
                           ∃ w17 : World, (Sem.run Try.prog (storeVar 32 (Addr.mk (Array.size (World.heap w11)) 0 none) (Value.agg (Array.mk [Value.string s12, Value.int IntKind.i64 n13, Value.int IntKind.u32 n14]))) w16 = Result.ok PUnit.unit w17 ∧
                            ((((n15 == 0) = true →
                               ∃ n18 : Int, (World.cell? w17 (Addr.mk (Array.size (World.heap w11)) 1 none) = some (Value.int IntKind.i64 n18) ∧
                                ((((n18 == 12) = true →
                                   ∃ n19 : Int, (World.cell? w17 (Addr.mk (Array.size (World.heap w11)) 2 none) = some (Value.int IntKind.u32 n19) ∧
                                    ((((n19 == 7) = true →
                                       Calls Try.prog (25 : Nat) (Array.mk [Value.pointer p8]) (w17) (fun e20 w21 =>
                                         ∃ n22 : Int, (e20 = Ending.returned (Value.int IntKind.i64 n22) ∧
                                          R (Value.bool (n22 == 1)) w21)))) ∧
                                     ((n19 == 7) = false →
                                       R (Value.bool false) w17))))) ∧
                                 ((n18 == 12) = false →
                                   R (Value.bool false) w17))))) ∧
                             ((n15 == 0) = false →
                               R (Value.bool false) w17)))))))))))))))))))
theorem vc_cartularylaw12_awake_ok {w : World} {R : Value → World → Prop} {R' : Ending → World → Prop} (h : vc_cartularylaw12_awake w R) (hR : ∀ v w', R v w' → R' (.returned v) w') :
    Calls Try.prog 7 #[] w R' :=
  calls_of_body (vs := []) (ty := ty) (ann := ⟨[], [], [], []⟩) (c := Try.f7.body.getD .skip) (by kernel_rfl) Try.func7 (by kernel_rfl) (by kernel_rfl) (Eq.mp (by kernel_rfl) h) hR
end Go.Proofs.Ytoagdpjickippaa

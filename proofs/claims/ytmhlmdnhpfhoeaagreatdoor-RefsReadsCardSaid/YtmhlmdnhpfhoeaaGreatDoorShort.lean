/- Formulas of 2 Go functions of this seat (written by a program of the author's, vcgen.py), and that each is enough for the call. No condition. -/
import Derived.Test.YtmhlmdnhpfhoeaaGreatDoorTy
import Derived.Test.YtmhlmdnhpfhoeaaGreatDoorProg
set_option linter.unusedVariables false
namespace Go.Proofs.YtmhlmdnhpfhoeaaGreatDoor
open Go Vc Go.Proofs
set_option maxRecDepth 100000
/-- cartularylaw07.Few -/
def vc_cartularylaw07_Few (x0a : Option Addr) (x0n : Nat) (x0c : Nat) (x1 : Int) (w : World) (R : Value → World → Prop) : Prop :=
  (((decide ((↑x0n : Int) > x1) = true →
     ((0 ≤ x1 ∧
       x1 ≤ (↑x0c : Int)) ∧
      ∀ w1 : World,
      (w1 = World.alloc w (Obj.cells (Array.mk []) 48) →
        ∃ w2 : World, ∃ l3 : Sl, (Sem.run Tryz.prog (Builtin.append_ (Array.mk [22, 22]) 22 (Array.mk [Value.slice (some (Addr.mk (Array.size (World.heap w)) 0 none)) 0 0, Value.slice (subA x0a x0c 0 2) (Int.toNat x1) x0c])) w1 = Result.ok (Value.slice l3.1 l3.2 l3.3) w2 ∧
         R (Value.slice l3.1 l3.2 l3.3) w2))))) ∧
   (decide ((↑x0n : Int) > x1) = false →
     ∀ w4 : World,
     (w4 = World.alloc w (Obj.cells (Array.mk []) 48) →
       ∃ w5 : World, ∃ l6 : Sl, (Sem.run Tryz.prog (Builtin.append_ (Array.mk [22, 22]) 22 (Array.mk [Value.slice (some (Addr.mk (Array.size (World.heap w)) 0 none)) 0 0, Value.slice x0a x0n x0c])) w4 = Result.ok (Value.slice l6.1 l6.2 l6.3) w5 ∧
        R (Value.slice l6.1 l6.2 l6.3) w5))))
theorem vc_cartularylaw07_Few_ok {x0a : Option Addr} {x0n : Nat} {x0c : Nat} {x1 : Int} {w : World} {R : Value → World → Prop} {R' : Ending → World → Prop} (h : vc_cartularylaw07_Few x0a x0n x0c x1 w R) (hR : ∀ v w', R v w' → R' (.returned v) w') :
    Calls Tryz.prog 20 #[.slice x0a x0n x0c, .int .i64 x1] w R' :=
  calls_of_body (vs := [(.slice x0a x0n x0c, false), (.int .i64 x1, false)]) (ty := ty) (ann := ⟨[], [], [], []⟩) (c := Tryz.f20.body.getD .skip) (by kernel_rfl) Tryz.func20 (by kernel_rfl) (by kernel_rfl) (Eq.mp (by kernel_rfl) h) hR
/-- cartularylaw13.Short -/
def vc_cartularylaw13_Short (x0a : Option Addr) (x0n : Nat) (x0c : Nat) (x1 : Int) (w : World) (R : Value → World → Prop) : Prop :=
  Calls Tryz.prog (20 : Nat) (Array.mk [Value.slice x0a x0n x0c, Value.int IntKind.i64 x1]) (w) (fun e1 w2 =>
    ∃ l3 : Sl, (e1 = Ending.returned (Value.slice l3.1 l3.2 l3.3) ∧
     ∃ I4 : Int → World → Prop, ∃ I5 : Int → World → Nat, (I4 0 w2 ∧
      ∀ n6 : Int,
      ∀ w7 : World,
      (I4 n6 w7 →
        (((decide (n6 < (↑l3.2 : Int)) = true →
           ((0 ≤ n6 ∧
             n6 < (↑l3.2 : Int)) ∧
            ∃ a8 : Addr, (l3.1 = some a8 ∧
             ∃ s9 : ByteArray, (World.cell? w7 (Addr.add (Addr.add a8 (Int.toNat n6 * 2)) 1) = some (Value.string s9) ∧
              Calls Tryz.prog (21 : Nat) (Array.mk [Value.string s9, Value.int IntKind.i64 3000]) (w7) (fun e10 w11 =>
                ∃ s12 : ByteArray, (e10 = Ending.returned (Value.string s12) ∧
                 ((0 ≤ n6 ∧
                   n6 < (↑l3.2 : Int)) ∧
                  ∃ a13 : Addr, (l3.1 = some a13 ∧
                   (Wr w11 (Addr.add (Addr.add a13 (Int.toNat n6 * 2)) 1) ∧
                    ∀ w14 : World,
                    (w14 = World.setCell w11 (Addr.add (Addr.add a13 (Int.toNat n6 * 2)) 1) (Value.string s12) →
                      (I4 (IntKind.wrap IntKind.i64 (n6 + 1)) w14 ∧
                       I5 (IntKind.wrap IntKind.i64 (n6 + 1)) w14 < I5 n6 w7)))))))))))) ∧
         (decide (n6 < (↑l3.2 : Int)) = false →
           R (Value.slice l3.1 l3.2 l3.3) w7))))))
theorem vc_cartularylaw13_Short_ok {x0a : Option Addr} {x0n : Nat} {x0c : Nat} {x1 : Int} {w : World} {R : Value → World → Prop} {R' : Ending → World → Prop} (h : vc_cartularylaw13_Short x0a x0n x0c x1 w R) (hR : ∀ v w', R v w' → R' (.returned v) w') :
    Calls Tryz.prog 5 #[.slice x0a x0n x0c, .int .i64 x1] w R' :=
  calls_of_body (vs := [(.slice x0a x0n x0c, false), (.int .i64 x1, false)]) (ty := ty) (ann := ⟨[], [(3, [(12, .int .i64)])], [], []⟩) (c := Tryz.f5.body.getD .skip) (by kernel_rfl) Tryz.func5 (by kernel_rfl) (by kernel_rfl) (Eq.mp (by kernel_rfl) h) hR
end Go.Proofs.YtmhlmdnhpfhoeaaGreatDoor

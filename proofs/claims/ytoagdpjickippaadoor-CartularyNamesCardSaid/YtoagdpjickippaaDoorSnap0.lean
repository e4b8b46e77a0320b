/- Formulas of 4 Go functions of this seat (written by a program of the author's, vcgen.py), and that each is enough for the call. No condition. -/
import Derived.Test.YtoagdpjickippaaDoorTy
import Derived.Test.YtoagdpjickippaaDoorProg
set_option linter.unusedVariables false
namespace Go.Proofs.YtoagdpjickippaaDoor
open Go Vc Go.Proofs
set_option maxRecDepth 100000
/-- snap.Clean$1 -/
def vc_snap_Clean_1 (x0 : Int) (w : World) (R : Value → World → Prop) : Prop :=
  (((decide (x0 < 32) = true →
     R (Value.bool true) w)) ∧
   (decide (x0 < 32) = false →
     R (Value.bool (decide (x0 > 126))) w))
theorem vc_snap_Clean_1_ok {x0 : Int} {w : World} {R : Value → World → Prop} {R' : Ending → World → Prop} (h : vc_snap_Clean_1 x0 w R) (hR : ∀ v w', R v w' → R' (.returned v) w') :
    Calls Tryd.prog 34 #[.int .i32 x0] w R' :=
  calls_of_body (vs := [(.int .i32 x0, false)]) (ty := ty) (ann := ⟨[], [], [], []⟩) (c := Tryd.f34.body.getD .skip) (by kernel_rfl) Tryd.func34 (by kernel_rfl) (by kernel_rfl) (Eq.mp (by kernel_rfl) h) hR
/-- strings.indexFunc#clean -/
def vc_strings_indexFunc_clean (x0 : ByteArray) (x2 : Bool) (w : World) (R : Value → World → Prop) : Prop :=
  ∃ w1 : World, ∃ a2 : Addr, (Sem.run Tryd.prog (Instr.range 9 (Value.string x0)) w = Result.ok (Value.pointer (some a2)) w1 ∧
   ∃ I3 : World → Prop, ∃ I4 : World → Nat, (I3 w1 ∧
    ∀ w5 : World,
    (I3 w5 →
      ((∃ w6 : World, (Sem.run Tryd.prog (Instr.next (Value.pointer (some a2)) true 0) w5 = Result.ok (Value.tuple (Array.mk [Value.bool false])) w6 ∧
        (((false = true →
           False)) ∧
         (false = false →
           R (Value.int IntKind.i64 (-1)) w6)))) ∨
       (∃ w7 : World, ∃ n8 : Int, ∃ n9 : Int, (Sem.run Tryd.prog (Instr.next (Value.pointer (some a2)) true 0) w5 = Result.ok (Value.tuple (Array.mk [Value.bool true, Value.int IntKind.i64 n8, Value.int IntKind.i32 n9])) w7 ∧
        (((true = true →
           Calls Tryd.prog (34 : FuncId) (Array.mk [Value.int IntKind.i32 n9]) (w7) (fun e10 w11 =>
             ∃ b12 : Bool, (e10 = Ending.returned (Value.bool b12) ∧
              ((((b12 == x2) = true →
                 R (Value.int IntKind.i64 n8) w11)) ∧
               ((b12 == x2) = false →
                 (I3 w11 ∧
                  I4 w11 < I4 w5))))))) ∧
         (true = false →
           R (Value.int IntKind.i64 (-1)) w7))))))))
theorem vc_strings_indexFunc_clean_ok {x0 : ByteArray} {x2 : Bool} {w : World} {R : Value → World → Prop} {R' : Ending → World → Prop} (h : vc_strings_indexFunc_clean x0 x2 w R) (hR : ∀ v w', R v w' → R' (.returned v) w') :
    Calls Tryd.prog 74 #[.string x0, .func (.func 34) #[] #[], .bool x2] w R' :=
  calls_of_body (vs := [(.string x0, false), (.func (.func 34) #[] #[], false), (.bool x2, false)]) (ty := ty) (ann := ⟨[], [(2, [])], [], []⟩) (c := Tryd.f74.body.getD .skip) (by kernel_rfl) Tryd.func74 (by kernel_rfl) (by kernel_rfl) (Eq.mp (by kernel_rfl) h) hR
/-- strings.IndexFunc#clean -/
def vc_strings_IndexFunc_clean (x0 : ByteArray) (w : World) (R : Value → World → Prop) : Prop :=
  Calls Tryd.prog (74 : Nat) (Array.mk [Value.string x0, Value.func (Fn.func 34) (Array.mk []) (Array.mk []), Value.bool true]) (w) (fun e1 w2 =>
    ∃ n3 : Int, (e1 = Ending.returned (Value.int IntKind.i64 n3) ∧
     R (Value.int IntKind.i64 n3) w2))
theorem vc_strings_IndexFunc_clean_ok {x0 : ByteArray} {w : World} {R : Value → World → Prop} {R' : Ending → World → Prop} (h : vc_strings_IndexFunc_clean x0 w R) (hR : ∀ v w', R v w' → R' (.returned v) w') :
    Calls Tryd.prog 55 #[.string x0, .func (.func 34) #[] #[]] w R' :=
  calls_of_body (vs := [(.string x0, false), (.func (.func 34) #[] #[], false)]) (ty := ty) (ann := ⟨[], [], [], []⟩) (c := Tryd.f55.body.getD .skip) (by kernel_rfl) Tryd.func55 (by kernel_rfl) (by kernel_rfl) (Eq.mp (by kernel_rfl) h) hR
/-- strings.ContainsFunc#clean -/
def vc_strings_ContainsFunc_clean (x0 : ByteArray) (w : World) (R : Value → World → Prop) : Prop :=
  Calls Tryd.prog (55 : Nat) (Array.mk [Value.string x0, Value.func (Fn.func 34) (Array.mk []) (Array.mk [])]) (w) (fun e1 w2 =>
    ∃ n3 : Int, (e1 = Ending.returned (Value.int IntKind.i64 n3) ∧
     R (Value.bool (decide (n3 ≥ 0))) w2))
theorem vc_strings_ContainsFunc_clean_ok {x0 : ByteArray} {w : World} {R : Value → World → Prop} {R' : Ending → World → Prop} (h : vc_strings_ContainsFunc_clean x0 w R) (hR : ∀ v w', R v w' → R' (.returned v) w') :
    Calls Tryd.prog 33 #[.string x0, .func (.func 34) #[] #[]] w R' :=
  calls_of_body (vs := [(.string x0, false), (.func (.func 34) #[] #[], false)]) (ty := ty) (ann := ⟨[], [], [], []⟩) (c := Tryd.f33.body.getD .skip) (by kernel_rfl) Tryd.func33 (by kernel_rfl) (by kernel_rfl) (Eq.mp (by kernel_rfl) h) hR
end Go.Proofs.YtoagdpjickippaaDoor

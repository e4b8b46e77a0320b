/- Formulas of 2 Go functions of this seat (written by a program of the author's, vcgen.py), and that each is enough for the call. No condition. -/
import Derived.Test.YtoagdpjickippaaDoorTy
import Derived.Test.YtoagdpjickippaaDoorProg
set_option linter.unusedVariables false
namespace Go.Proofs.YtoagdpjickippaaDoor
open Go Vc Go.Proofs
set_option maxRecDepth 100000
/-- slices.Clone[[]api.File,api.File] -/
def vc_slices_Clone (x0a : Option Addr) (x0n : Nat) (x0c : Nat) (w : World) (R : Value → World → Prop) : Prop :=
  (((Option.isNone x0a = true →
     R (Value.slice none 0 0) w)) ∧
   (Option.isNone x0a = false →
     ∀ w1 : World,
     (w1 = World.alloc w (Obj.cells (Array.mk []) 31) →
       ∃ w2 : World, ∃ l3 : Sl, (Sem.run Tryd.prog (Builtin.append_ (Array.mk [28, 28]) 28 (Array.mk [Value.slice (some (Addr.mk (Array.size (World.heap w)) 0 none)) 0 0, Value.slice x0a x0n x0c])) w1 = Result.ok (Value.slice l3.1 l3.2 l3.3) w2 ∧
        R (Value.slice l3.1 l3.2 l3.3) w2))))
theorem vc_slices_Clone_ok {x0a : Option Addr} {x0n : Nat} {x0c : Nat} {w : World} {R : Value → World → Prop} {R' : Ending → World → Prop} (h : vc_slices_Clone x0a x0n x0c w R) (hR : ∀ v w', R v w' → R' (.returned v) w') :
    Calls Tryd.prog 17 #[.slice x0a x0n x0c] w R' :=
  calls_of_body (vs := [(.slice x0a x0n x0c, false)]) (ty := ty) (ann := ⟨[], [], [], []⟩) (c := Tryd.f17.body.getD .skip) (by kernel_rfl) Tryd.func17 (by kernel_rfl) (by kernel_rfl) (Eq.mp (by kernel_rfl) h) hR
/-- slices.BinarySearchFunc[[]api.File,api.File,api.File]#byPath -/
def vc_slices_BinarySearchFunc_byPath (x0a : Option Addr) (x0n : Nat) (x0c : Nat) (x1_0 : ByteArray) (x1_1 : ByteArray) (w : World) (R : Value → World → Prop) : Prop :=
  ∀ w1 : World,
  (w1 = World.alloc w (Obj.cells (Array.mk [Value.string x1_0, Value.string x1_1]) 31) →
    ∃ I2 : Int → Int → World → Prop, ∃ I3 : Int → Int → World → Nat, (I2 0 (↑x0n : Int) w1 ∧
     ∀ n4 : Int,
     ∀ n5 : Int,
     ∀ w6 : World,
     (I2 n4 n5 w6 →
       (((decide (n4 < n5) = true →
          ((0 : Int) ≤ (1 : Int) ∧
           ∀ w7 : World,
           (Drew w6 w7 →
             ∃ I8 : World → Prop, (I8 w7 ∧
              ((0 ≤ IntKind.wrap IntKind.i64 (Int.fdiv (IntKind.wrap IntKind.u64 (IntKind.wrap IntKind.i64 (n4 + n5))) (2 ^ min (Int.toNat 1) 64)) ∧
                IntKind.wrap IntKind.i64 (Int.fdiv (IntKind.wrap IntKind.u64 (IntKind.wrap IntKind.i64 (n4 + n5))) (2 ^ min (Int.toNat 1) 64)) < (↑x0n : Int)) ∧
               ∃ a9 : Addr, (x0a = some a9 ∧
                ∃ s10 : ByteArray, ∃ s11 : ByteArray, ((∀ w12 : World,
                 (I8 w12 →
                   Sem.run Tryd.prog (loadVar 31 (Addr.add a9 (Int.toNat (IntKind.wrap IntKind.i64 (Int.fdiv (IntKind.wrap IntKind.u64 (IntKind.wrap IntKind.i64 (n4 + n5))) (2 ^ min (Int.toNat 1) 64))) * 2))) w12 = Result.ok (Value.agg (Array.mk [Value.string s10, Value.string s11])) w12)) ∧
                 ∃ s13 : ByteArray, ∃ s14 : ByteArray, ((∀ w15 : World,
                  (I8 w15 →
                    Sem.run Tryd.prog (loadVar 31 (Addr.mk (Array.size (World.heap w)) 0 none)) w15 = Result.ok (Value.agg (Array.mk [Value.string s13, Value.string s14])) w15)) ∧
                  Calls Tryd.prog (19 : FuncId) (Array.mk [Value.agg (Array.mk [Value.string s10, Value.string s11]), Value.agg (Array.mk [Value.string s13, Value.string s14])]) (w7) (fun e16 w17 =>
                    ∃ n18 : Int, (e16 = Ending.returned (Value.int IntKind.i64 n18) ∧
                     (I8 w17 ∧
                      (((decide (n18 < 0) = true →
                         (I2 (IntKind.wrap IntKind.i64 (IntKind.wrap IntKind.i64 (Int.fdiv (IntKind.wrap IntKind.u64 (IntKind.wrap IntKind.i64 (n4 + n5))) (2 ^ min (Int.toNat 1) 64)) + 1)) n5 w17 ∧
                          I3 (IntKind.wrap IntKind.i64 (IntKind.wrap IntKind.i64 (Int.fdiv (IntKind.wrap IntKind.u64 (IntKind.wrap IntKind.i64 (n4 + n5))) (2 ^ min (Int.toNat 1) 64)) + 1)) n5 w17 < I3 n4 n5 w6))) ∧
                       (decide (n18 < 0) = false →
                         (I2 n4 (IntKind.wrap IntKind.i64 (Int.fdiv (IntKind.wrap IntKind.u64 (IntKind.wrap IntKind.i64 (n4 + n5))) (2 ^ min (Int.toNat 1) 64))) w17 ∧
                          I3 n4 (IntKind.wrap IntKind.i64 (Int.fdiv (IntKind.wrap IntKind.u64 (IntKind.wrap IntKind.i64 (n4 + n5))) (2 ^ min (Int.toNat 1) 64))) w17 < I3 n4 n5 w6))))))))))))))) ∧
        (decide (n4 < n5) = false →
          ∀ w19 : World,
          (Drew w6 w19 →
            ∃ I20 : World → Prop, (I20 w19 ∧
             (((decide (n4 < (↑x0n : Int)) = true →
                ((0 ≤ n4 ∧
                  n4 < (↑x0n : Int)) ∧
                 ∃ a21 : Addr, (x0a = some a21 ∧
                  ∃ s22 : ByteArray, ∃ s23 : ByteArray, ((∀ w24 : World,
                   (I20 w24 →
                     Sem.run Tryd.prog (loadVar 31 (Addr.add a21 (Int.toNat n4 * 2))) w24 = Result.ok (Value.agg (Array.mk [Value.string s22, Value.string s23])) w24)) ∧
                   ∃ s25 : ByteArray, ∃ s26 : ByteArray, ((∀ w27 : World,
                    (I20 w27 →
                      Sem.run Tryd.prog (loadVar 31 (Addr.mk (Array.size (World.heap w)) 0 none)) w27 = Result.ok (Value.agg (Array.mk [Value.string s25, Value.string s26])) w27)) ∧
                    Calls Tryd.prog (19 : FuncId) (Array.mk [Value.agg (Array.mk [Value.string s22, Value.string s23]), Value.agg (Array.mk [Value.string s25, Value.string s26])]) (w19) (fun e28 w29 =>
                      ∃ n30 : Int, (e28 = Ending.returned (Value.int IntKind.i64 n30) ∧
                       (I20 w29 ∧
                        R (Value.tuple (Array.mk [Value.int IntKind.i64 n4, Value.bool (n30 == 0)])) w29))))))))) ∧
              (decide (n4 < (↑x0n : Int)) = false →
                (I20 w19 ∧
                 R (Value.tuple (Array.mk [Value.int IntKind.i64 n4, Value.bool false])) w19))))))))))
theorem vc_slices_BinarySearchFunc_byPath_ok {x0a : Option Addr} {x0n : Nat} {x0c : Nat} {x1_0 : ByteArray} {x1_1 : ByteArray} {w : World} {R : Value → World → Prop} {R' : Ending → World → Prop} (h : vc_slices_BinarySearchFunc_byPath x0a x0n x0c x1_0 x1_1 w R) (hR : ∀ v w', R v w' → R' (.returned v) w') :
    Calls Tryd.prog 21 #[.slice x0a x0n x0c, .agg #[.string x1_0, .string x1_1], .func (.func 19) #[] #[]] w R' :=
  calls_of_body (vs := [(.slice x0a x0n x0c, false), (.agg #[.string x1_0, .string x1_1], false), (.func (.func 19) #[] #[], false)]) (ty := ty) (ann := ⟨[], [(3, [(9, .int .i64), (10, .int .i64)])], [(5, .held [(0, true), (1, true), (2, true), (3, true), (4, true), (5, true), (6, false), (7, true)]), (8, .held [(0, true), (1, true), (2, true), (3, true), (4, true), (5, true), (6, true), (7, true), (8, true), (9, true), (10, true), (11, false), (12, true), (13, true), (14, true), (15, true)])], []⟩) (c := Tryd.f21.body.getD .skip) (by kernel_rfl) Tryd.func21 (by kernel_rfl) (by kernel_rfl) (Eq.mp (by kernel_rfl) h) hR
end Go.Proofs.YtoagdpjickippaaDoor

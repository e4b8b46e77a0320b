/- Formulas of 9 Go functions of this seat (written by a program of the author's, vcgen.py), and that each is enough for the call. No condition. -/
import Derived.Test.YtoagdpjickippaaTy
import Derived.Test.YtoagdpjickippaaProg
set_option linter.unusedVariables false
namespace Go.Proofs.Ytoagdpjickippaa
open Go Vc Go.Proofs
set_option maxRecDepth 100000
/-- (*packidx.Idx).Find -/
def vc_packidx_Idx_Find (x0 : Nat) (x1 : ByteArray) (w : World) (R : Value → World → Prop) : Prop :=
  ∀ w1 : World,
  (w1 = World.alloc w (Obj.cells (Array.mk [Value.string (ByteArray.mk (Array.mk [])), Value.int IntKind.i64 0, Value.int IntKind.u32 0]) 32) →
    ∃ l2 : Sl, (World.cell? w1 (Addr.mk x0 0 none) = some (Value.slice l2.1 l2.2 l2.3) ∧
     Calls Try.prog (28 : Nat) (Array.mk [Value.slice l2.1 l2.2 l2.3, Value.string x1, Value.func (Fn.func 29) (Array.mk []) (Array.mk [])]) (w1) (fun e3 w4 =>
       ∃ n5 : Int, ∃ b6 : Bool, (e3 = Ending.returned (Value.tuple (Array.mk [Value.int IntKind.i64 n5, Value.bool b6])) ∧
        ((((!b6) = true →
           ∃ w7 : World, (Sem.run Try.prog (storeVar 32 (Addr.mk (Array.size (World.heap w)) 0 none) (Value.agg (Array.mk [Value.string (ByteArray.mk (Array.mk [])), Value.int IntKind.i64 0, Value.int IntKind.u32 0]))) w4 = Result.ok PUnit.unit w7 ∧
            ∃ s8 : ByteArray, ∃ n9 : Int, ∃ n10 : Int, (Sem.run Try.prog (loadVar 32 (Addr.mk (Array.size (World.heap w)) 0 none)) w7 = Result.ok (Value.agg (Array.mk [Value.string s8, Value.int IntKind.i64 n9, Value.int IntKind.u32 n10])) w7 ∧
             R (Value.tuple (Array.mk [Value.agg (Array.mk [Value.string s8, Value.int IntKind.i64 n9, Value.int IntKind.u32 n10]), Value.int IntKind.i64 7])) w7)))) ∧
         ((!b6) = false →
           ∃ l11 : Sl, (World.cell? w4 (Addr.mk x0 0 none) = some (Value.slice l11.1 l11.2 l11.3) ∧
            ((0 ≤ n5 ∧
              n5 < (↑l11.2 : Int)) ∧
             ∃ a12 : Addr, (l11.1 = some a12 ∧
              ∃ s13 : ByteArray, ∃ n14 : Int, ∃ n15 : Int, (Sem.run Try.prog (loadVar 32 (Addr.add a12 (Int.toNat n5 * 3))) w4 = Result.ok (Value.agg (Array.mk [Value.string s13, Value.int IntKind.i64 n14, Value.int IntKind.u32 n15])) w4 ∧
               ∃ w16 : World, (Sem.run Try.prog (storeVar 32 (Addr.mk (Array.size (World.heap w)) 0 none) (Value.agg (Array.mk [Value.string s13, Value.int IntKind.i64 n14, Value.int IntKind.u32 n15]))) w4 = Result.ok PUnit.unit w16 ∧
                ∃ s17 : ByteArray, ∃ n18 : Int, ∃ n19 : Int, (Sem.run Try.prog (loadVar 32 (Addr.mk (Array.size (World.heap w)) 0 none)) w16 = Result.ok (Value.agg (Array.mk [Value.string s17, Value.int IntKind.i64 n18, Value.int IntKind.u32 n19])) w16 ∧
                 R (Value.tuple (Array.mk [Value.agg (Array.mk [Value.string s17, Value.int IntKind.i64 n18, Value.int IntKind.u32 n19]), Value.int IntKind.i64 0])) w16))))))))))))
theorem vc_packidx_Idx_Find_ok {x0 : Nat} {x1 : ByteArray} {w : World} {R : Value → World → Prop} {R' : Ending → World → Prop} (h : vc_packidx_Idx_Find x0 x1 w R) (hR : ∀ v w', R v w' → R' (.returned v) w') :
    Calls Try.prog 9 #[.pointer (some ⟨x0, 0, none⟩), .string x1] w R' :=
  calls_of_body (vs := [(.pointer (some ⟨x0, 0, none⟩), true), (.string x1, false)]) (ty := ty) (ann := ⟨[], [], [], []⟩) (c := Try.f9.body.getD .skip) (by kernel_rfl) Try.func9 (by kernel_rfl) (by kernel_rfl) (Eq.mp (by kernel_rfl) h) hR
/-- (*packidx.Idx).Match -/
def vc_packidx_Idx_Match (x0 : Nat) (x1 : ByteArray) (w : World) (R : Value → World → Prop) : Prop :=
  ∃ l1 : Sl, (World.cell? w (Addr.mk x0 0 none) = some (Value.slice l1.1 l1.2 l1.3) ∧
   Calls Try.prog (28 : Nat) (Array.mk [Value.slice l1.1 l1.2 l1.3, Value.string x1, Value.func (Fn.func 30) (Array.mk []) (Array.mk [])]) (w) (fun e2 w3 =>
     ∃ n4 : Int, ∃ b5 : Bool, (e2 = Ending.returned (Value.tuple (Array.mk [Value.int IntKind.i64 n4, Value.bool b5])) ∧
      ∃ I6 : Sl → Int → World → Prop, ∃ I7 : Sl → Int → World → Nat, (I6 (Sl.mk none 0 0) n4 w3 ∧
       ∀ l8 : Sl,
       ∀ n9 : Int,
       ∀ w10 : World,
       (I6 l8 n9 w10 →
         ∃ l11 : Sl, (World.cell? w10 (Addr.mk x0 0 none) = some (Value.slice l11.1 l11.2 l11.3) ∧
          (((decide (n9 < (↑l11.2 : Int)) = true →
             ∃ l12 : Sl, (World.cell? w10 (Addr.mk x0 0 none) = some (Value.slice l12.1 l12.2 l12.3) ∧
              ((0 ≤ n9 ∧
                n9 < (↑l12.2 : Int)) ∧
               ∃ a13 : Addr, (l12.1 = some a13 ∧
                ∃ s14 : ByteArray, (World.cell? w10 (Addr.add a13 (Int.toNat n9 * 3)) = some (Value.string s14) ∧
                 Calls Try.prog (31 : Nat) (Array.mk [Value.string s14, Value.string x1]) (w10) (fun e15 w16 =>
                   ∃ b17 : Bool, (e15 = Ending.returned (Value.bool b17) ∧
                    (((b17 = true →
                       ∃ l18 : Sl, (World.cell? w16 (Addr.mk x0 0 none) = some (Value.slice l18.1 l18.2 l18.3) ∧
                        ((0 ≤ n9 ∧
                          n9 < (↑l18.2 : Int)) ∧
                         ∃ a19 : Addr, (l18.1 = some a19 ∧
                          ∃ s20 : ByteArray, (World.cell? w16 (Addr.add a19 (Int.toNat n9 * 3)) = some (Value.string s20) ∧
                           ∀ w21 : World,
                           (w21 = World.alloc w16 (Obj.cells (Array.mk [Value.string s20]) 9) →
                             ∃ w22 : World, ∃ l23 : Sl, (Sem.run Try.prog (Builtin.append_ (Array.mk [35, 35]) 35 (Array.mk [Value.slice l8.1 l8.2 l8.3, Value.slice (some (Addr.mk (Array.size (World.heap w16)) 0 none)) 1 1])) w21 = Result.ok (Value.slice l23.1 l23.2 l23.3) w22 ∧
                              (I6 (Sl.mk l23.1 l23.2 l23.3) (IntKind.wrap IntKind.i64 (n9 + 1)) w22 ∧
                               I7 (Sl.mk l23.1 l23.2 l23.3) (IntKind.wrap IntKind.i64 (n9 + 1)) w22 < I7 l8 n9 w10))))))))) ∧
                     (b17 = false →
                       R (Value.slice l8.1 l8.2 l8.3) w16)))))))))) ∧
           (decide (n9 < (↑l11.2 : Int)) = false →
             R (Value.slice l8.1 l8.2 l8.3) w10))))))))
theorem vc_packidx_Idx_Match_ok {x0 : Nat} {x1 : ByteArray} {w : World} {R : Value → World → Prop} {R' : Ending → World → Prop} (h : vc_packidx_Idx_Match x0 x1 w R) (hR : ∀ v w', R v w' → R' (.returned v) w') :
    Calls Try.prog 10 #[.pointer (some ⟨x0, 0, none⟩), .string x1] w R' :=
  calls_of_body (vs := [(.pointer (some ⟨x0, 0, none⟩), true), (.string x1, false)]) (ty := ty) (ann := ⟨[], [(3, [(5, .slice), (6, .int .i64)])], [], []⟩) (c := Try.f10.body.getD .skip) (by kernel_rfl) Try.func10 (by kernel_rfl) (by kernel_rfl) (Eq.mp (by kernel_rfl) h) hR
/-- (*packidx.Idx).Find$1 -/
def vc_packidx_Idx_Find_1 (x0_0 : ByteArray) (x0_1 : Int) (x0_2 : Int) (x1 : ByteArray) (w : World) (R : Value → World → Prop) : Prop :=
  ∀ w1 : World,
  (w1 = World.alloc w (Obj.cells (Array.mk [Value.string x0_0, Value.int IntKind.i64 x0_1, Value.int IntKind.u32 x0_2]) 32) →
    ∃ s2 : ByteArray, (World.cell? w1 (Addr.mk (Array.size (World.heap w)) 0 none) = some (Value.string s2) ∧
     Calls Try.prog (20 : Nat) (Array.mk [Value.string s2, Value.string x1]) (w1) (fun e3 w4 =>
       ∃ n5 : Int, (e3 = Ending.returned (Value.int IntKind.i64 n5) ∧
        R (Value.int IntKind.i64 n5) w4))))
theorem vc_packidx_Idx_Find_1_ok {x0_0 : ByteArray} {x0_1 : Int} {x0_2 : Int} {x1 : ByteArray} {w : World} {R : Value → World → Prop} {R' : Ending → World → Prop} (h : vc_packidx_Idx_Find_1 x0_0 x0_1 x0_2 x1 w R) (hR : ∀ v w', R v w' → R' (.returned v) w') :
    Calls Try.prog 29 #[.agg #[.string x0_0, .int .i64 x0_1, .int .u32 x0_2], .string x1] w R' :=
  calls_of_body (vs := [(.agg #[.string x0_0, .int .i64 x0_1, .int .u32 x0_2], false), (.string x1, false)]) (ty := ty) (ann := ⟨[], [], [], []⟩) (c := Try.f29.body.getD .skip) (by kernel_rfl) Try.func29 (by kernel_rfl) (by kernel_rfl) (Eq.mp (by kernel_rfl) h) hR
/-- (*packidx.Idx).Match$1 -/
def vc_packidx_Idx_Match_1 (x0_0 : ByteArray) (x0_1 : Int) (x0_2 : Int) (x1 : ByteArray) (w : World) (R : Value → World → Prop) : Prop :=
  ∀ w1 : World,
  (w1 = World.alloc w (Obj.cells (Array.mk [Value.string x0_0, Value.int IntKind.i64 x0_1, Value.int IntKind.u32 x0_2]) 32) →
    ∃ s2 : ByteArray, (World.cell? w1 (Addr.mk (Array.size (World.heap w)) 0 none) = some (Value.string s2) ∧
     Calls Try.prog (20 : Nat) (Array.mk [Value.string s2, Value.string x1]) (w1) (fun e3 w4 =>
       ∃ n5 : Int, (e3 = Ending.returned (Value.int IntKind.i64 n5) ∧
        R (Value.int IntKind.i64 n5) w4))))
theorem vc_packidx_Idx_Match_1_ok {x0_0 : ByteArray} {x0_1 : Int} {x0_2 : Int} {x1 : ByteArray} {w : World} {R : Value → World → Prop} {R' : Ending → World → Prop} (h : vc_packidx_Idx_Match_1 x0_0 x0_1 x0_2 x1 w R) (hR : ∀ v w', R v w' → R' (.returned v) w') :
    Calls Try.prog 30 #[.agg #[.string x0_0, .int .i64 x0_1, .int .u32 x0_2], .string x1] w R' :=
  calls_of_body (vs := [(.agg #[.string x0_0, .int .i64 x0_1, .int .u32 x0_2], false), (.string x1, false)]) (ty := ty) (ann := ⟨[], [], [], []⟩) (c := Try.f30.body.getD .skip) (by kernel_rfl) Try.func30 (by kernel_rfl) (by kernel_rfl) (Eq.mp (by kernel_rfl) h) hR
/-- (*packidx.Idx).Len -/
def vc_packidx_Idx_Len (x0 : Nat) (w : World) (R : Value → World → Prop) : Prop :=
  ∃ l1 : Sl, (World.cell? w (Addr.mk x0 0 none) = some (Value.slice l1.1 l1.2 l1.3) ∧
   R (Value.int IntKind.i64 (↑l1.2 : Int)) w)
theorem vc_packidx_Idx_Len_ok {x0 : Nat} {w : World} {R : Value → World → Prop} {R' : Ending → World → Prop} (h : vc_packidx_Idx_Len x0 w R) (hR : ∀ v w', R v w' → R' (.returned v) w') :
    Calls Try.prog 25 #[.pointer (some ⟨x0, 0, none⟩)] w R' :=
  calls_of_body (vs := [(.pointer (some ⟨x0, 0, none⟩), true)]) (ty := ty) (ann := ⟨[], [], [], []⟩) (c := Try.f25.body.getD .skip) (by kernel_rfl) Try.func25 (by kernel_rfl) (by kernel_rfl) (Eq.mp (by kernel_rfl) h) hR
/-- (*packidx.Idx).Sum -/
def vc_packidx_Idx_Sum (x0 : Nat) (w : World) (R : Value → World → Prop) : Prop :=
  ∃ s1 : ByteArray, (World.cell? w (Addr.mk x0 258 none) = some (Value.string s1) ∧
   R (Value.string s1) w)
theorem vc_packidx_Idx_Sum_ok {x0 : Nat} {w : World} {R : Value → World → Prop} {R' : Ending → World → Prop} (h : vc_packidx_Idx_Sum x0 w R) (hR : ∀ v w', R v w' → R' (.returned v) w') :
    Calls Try.prog 35 #[.pointer (some ⟨x0, 0, none⟩)] w R' :=
  calls_of_body (vs := [(.pointer (some ⟨x0, 0, none⟩), true)]) (ty := ty) (ann := ⟨[], [], [], []⟩) (c := Try.f35.body.getD .skip) (by kernel_rfl) Try.func35 (by kernel_rfl) (by kernel_rfl) (Eq.mp (by kernel_rfl) h) hR
/-- (*packidx.Idx).At -/
def vc_packidx_Idx_At (x0 : Nat) (x1 : Int) (w : World) (R : Value → World → Prop) : Prop :=
  ∀ w1 : World,
  (w1 = World.alloc w (Obj.cells (Array.mk [Value.string (ByteArray.mk (Array.mk [])), Value.int IntKind.i64 0, Value.int IntKind.u32 0]) 32) →
    (((decide (x1 < 0) = true →
       ∃ w2 : World, (Sem.run Try.prog (storeVar 32 (Addr.mk (Array.size (World.heap w)) 0 none) (Value.agg (Array.mk [Value.string (ByteArray.mk (Array.mk [])), Value.int IntKind.i64 0, Value.int IntKind.u32 0]))) w1 = Result.ok PUnit.unit w2 ∧
        ∃ s3 : ByteArray, ∃ n4 : Int, ∃ n5 : Int, (Sem.run Try.prog (loadVar 32 (Addr.mk (Array.size (World.heap w)) 0 none)) w2 = Result.ok (Value.agg (Array.mk [Value.string s3, Value.int IntKind.i64 n4, Value.int IntKind.u32 n5])) w2 ∧
         R (Value.tuple (Array.mk [Value.agg (Array.mk [Value.string s3, Value.int IntKind.i64 n4, Value.int IntKind.u32 n5]), Value.int IntKind.i64 7])) w2)))) ∧
     (decide (x1 < 0) = false →
       ∃ l6 : Sl, (World.cell? w1 (Addr.mk x0 0 none) = some (Value.slice l6.1 l6.2 l6.3) ∧
        (((decide (x1 ≥ (↑l6.2 : Int)) = true →
           ∃ w7 : World, (Sem.run Try.prog (storeVar 32 (Addr.mk (Array.size (World.heap w)) 0 none) (Value.agg (Array.mk [Value.string (ByteArray.mk (Array.mk [])), Value.int IntKind.i64 0, Value.int IntKind.u32 0]))) w1 = Result.ok PUnit.unit w7 ∧
            ∃ s8 : ByteArray, ∃ n9 : Int, ∃ n10 : Int, (Sem.run Try.prog (loadVar 32 (Addr.mk (Array.size (World.heap w)) 0 none)) w7 = Result.ok (Value.agg (Array.mk [Value.string s8, Value.int IntKind.i64 n9, Value.int IntKind.u32 n10])) w7 ∧
             R (Value.tuple (Array.mk [Value.agg (Array.mk [Value.string s8, Value.int IntKind.i64 n9, Value.int IntKind.u32 n10]), Value.int IntKind.i64 7])) w7)))) ∧
         (decide (x1 ≥ (↑l6.2 : Int)) = false →
           ∃ l11 : Sl, (World.cell? w1 (Addr.mk x0 0 none) = some (Value.slice l11.1 l11.2 l11.3) ∧
            ((0 ≤ x1 ∧
              x1 < (↑l11.2 : Int)) ∧
             ∃ a12 : Addr, (l11.1 = some a12 ∧
              ∃ s13 : ByteArray, ∃ n14 : Int, ∃ n15 : Int, (Sem.run Try.prog (loadVar 32 (Addr.add a12 (Int.toNat x1 * 3))) w1 = Result.ok (Value.agg (Array.mk [Value.string s13, Value.int IntKind.i64 n14, Value.int IntKind.u32 n15])) w1 ∧
               ∃ w16 : World, (Sem.run Try.prog (storeVar 32 (Addr.mk (Array.size (World.heap w)) 0 none) (Value.agg (Array.mk [Value.string s13, Value.int IntKind.i64 n14, Value.int IntKind.u32 n15]))) w1 = Result.ok PUnit.unit w16 ∧
                ∃ s17 : ByteArray, ∃ n18 : Int, ∃ n19 : Int, (Sem.run Try.prog (loadVar 32 (Addr.mk (Array.size (World.heap w)) 0 none)) w16 = Result.ok (Value.agg (Array.mk [Value.string s17, Value.int IntKind.i64 n18, Value.int IntKind.u32 n19])) w16 ∧
                 R (Value.tuple (Array.mk [Value.agg (Array.mk [Value.string s17, Value.int IntKind.i64 n18, Value.int IntKind.u32 n19]), Value.int IntKind.i64 0])) w16))))))))))))
theorem vc_packidx_Idx_At_ok {x0 : Nat} {x1 : Int} {w : World} {R : Value → World → Prop} {R' : Ending → World → Prop} (h : vc_packidx_Idx_At x0 x1 w R) (hR : ∀ v w', R v w' → R' (.returned v) w') :
    Calls Try.prog 36 #[.pointer (some ⟨x0, 0, none⟩), .int .i64 x1] w R' :=
  calls_of_body (vs := [(.pointer (some ⟨x0, 0, none⟩), true), (.int .i64 x1, false)]) (ty := ty) (ann := ⟨[], [], [], []⟩) (c := Try.f36.body.getD .skip) (by kernel_rfl) Try.func36 (by kernel_rfl) (by kernel_rfl) (Eq.mp (by kernel_rfl) h) hR
/-- slices.BinarySearchFunc[[]packidx.Row,packidx.Row,string]#find -/
def vc_slices_BinarySearchFunc_find (x0a : Option Addr) (x0n : Nat) (x0c : Nat) (x1 : ByteArray) (w : World) (R : Value → World → Prop) : Prop :=
  ∃ I1 : Int → Int → World → Prop, ∃ I2 : Int → Int → World → Nat, (I1 0 (↑x0n : Int) w ∧
   ∀ n3 : Int,
   ∀ n4 : Int,
   ∀ w5 : World,
   (I1 n3 n4 w5 →
     (((decide (n3 < n4) = true →
        ((0 : Int) ≤ (1 : Int) ∧
         ((0 ≤ IntKind.wrap IntKind.i64 (Int.fdiv (IntKind.wrap IntKind.u64 (IntKind.wrap IntKind.i64 (n3 + n4))) (2 ^ min (Int.toNat 1) 64)) ∧
           IntKind.wrap IntKind.i64 (Int.fdiv (IntKind.wrap IntKind.u64 (IntKind.wrap IntKind.i64 (n3 + n4))) (2 ^ min (Int.toNat 1) 64)) < (↑x0n : Int)) ∧
          ∃ a6 : Addr, (x0a = some a6 ∧
           ∃ s7 : ByteArray, ∃ n8 : Int, ∃ n9 : Int, (Sem.run Try.prog (loadVar 32 (Addr.add a6 (Int.toNat (IntKind.wrap IntKind.i64 (Int.fdiv (IntKind.wrap IntKind.u64 (IntKind.wrap IntKind.i64 (n3 + n4))) (2 ^ min (Int.toNat 1) 64))) * 3))) w5 = Result.ok (Value.agg (Array.mk [Value.string s7, Value.int IntKind.i64 n8, Value.int IntKind.u32 n9])) w5 ∧
            Calls Try.prog (29 : FuncId) (Array.mk [Value.agg (Array.mk [Value.string s7, Value.int IntKind.i64 n8, Value.int IntKind.u32 n9]), Value.string x1]) (w5) (fun e10 w11 =>
              ∃ n12 : Int, (e10 = Ending.returned (Value.int IntKind.i64 n12) ∧
               (((decide (n12 < 0) = true →
                  (I1 (IntKind.wrap IntKind.i64 (IntKind.wrap IntKind.i64 (Int.fdiv (IntKind.wrap IntKind.u64 (IntKind.wrap IntKind.i64 (n3 + n4))) (2 ^ min (Int.toNat 1) 64)) + 1)) n4 w11 ∧
                   I2 (IntKind.wrap IntKind.i64 (IntKind.wrap IntKind.i64 (Int.fdiv (IntKind.wrap IntKind.u64 (IntKind.wrap IntKind.i64 (n3 + n4))) (2 ^ min (Int.toNat 1) 64)) + 1)) n4 w11 < I2 n3 n4 w5))) ∧
                (decide (n12 < 0) = false →
                  (I1 n3 (IntKind.wrap IntKind.i64 (Int.fdiv (IntKind.wrap IntKind.u64 (IntKind.wrap IntKind.i64 (n3 + n4))) (2 ^ min (Int.toNat 1) 64))) w11 ∧
                   I2 n3 (IntKind.wrap IntKind.i64 (Int.fdiv (IntKind.wrap IntKind.u64 (IntKind.wrap IntKind.i64 (n3 + n4))) (2 ^ min (Int.toNat 1) 64))) w11 < I2 n3 n4 w5))))))))))) ∧
      (decide (n3 < n4) = false →
        (((decide (n3 < (↑x0n : Int)) = true →
           ((0 ≤ n3 ∧
             n3 < (↑x0n : Int)) ∧
            ∃ a13 : Addr, (x0a = some a13 ∧
             ∃ s14 : ByteArray, ∃ n15 : Int, ∃ n16 : Int, (Sem.run Try.prog (loadVar 32 (Addr.add a13 (Int.toNat n3 * 3))) w5 = Result.ok (Value.agg (Array.mk [Value.string s14, Value.int IntKind.i64 n15, Value.int IntKind.u32 n16])) w5 ∧
              Calls Try.prog (29 : FuncId) (Array.mk [Value.agg (Array.mk [Value.string s14, Value.int IntKind.i64 n15, Value.int IntKind.u32 n16]), Value.string x1]) (w5) (fun e17 w18 =>
                ∃ n19 : Int, (e17 = Ending.returned (Value.int IntKind.i64 n19) ∧
                 R (Value.tuple (Array.mk [Value.int IntKind.i64 n3, Value.bool (n19 == 0)])) w18))))))) ∧
         (decide (n3 < (↑x0n : Int)) = false →
           R (Value.tuple (Array.mk [Value.int IntKind.i64 n3, Value.bool false])) w5))))))
theorem vc_slices_BinarySearchFunc_find_ok {x0a : Option Addr} {x0n : Nat} {x0c : Nat} {x1 : ByteArray} {w : World} {R : Value → World → Prop} {R' : Ending → World → Prop} (h : vc_slices_BinarySearchFunc_find x0a x0n x0c x1 w R) (hR : ∀ v w', R v w' → R' (.returned v) w') :
    Calls Try.prog 28 #[.slice x0a x0n x0c, .string x1, .func (.func 29) #[] #[]] w R' :=
  calls_of_body (vs := [(.slice x0a x0n x0c, false), (.string x1, false), (.func (.func 29) #[] #[], false)]) (ty := ty) (ann := ⟨[], [(3, [(9, .int .i64), (10, .int .i64)])], [], []⟩) (c := Try.f28.body.getD .skip) (by kernel_rfl) Try.func28 (by kernel_rfl) (by kernel_rfl) (Eq.mp (by kernel_rfl) h) hR
/-- slices.BinarySearchFunc[[]packidx.Row,packidx.Row,string]#match -/
def vc_slices_BinarySearchFunc_match (x0a : Option Addr) (x0n : Nat) (x0c : Nat) (x1 : ByteArray) (w : World) (R : Value → World → Prop) : Prop :=
  ∃ I1 : Int → Int → World → Prop, ∃ I2 : Int → Int → World → Nat, (I1 0 (↑x0n : Int) w ∧
   ∀ n3 : Int,
   ∀ n4 : Int,
   ∀ w5 : World,
   (I1 n3 n4 w5 →
     (((decide (n3 < n4) = true →
        ((0 : Int) ≤ (1 : Int) ∧
         ((0 ≤ IntKind.wrap IntKind.i64 (Int.fdiv (IntKind.wrap IntKind.u64 (IntKind.wrap IntKind.i64 (n3 + n4))) (2 ^ min (Int.toNat 1) 64)) ∧
           IntKind.wrap IntKind.i64 (Int.fdiv (IntKind.wrap IntKind.u64 (IntKind.wrap IntKind.i64 (n3 + n4))) (2 ^ min (Int.toNat 1) 64)) < (↑x0n : Int)) ∧
          ∃ a6 : Addr, (x0a = some a6 ∧
           ∃ s7 : ByteArray, ∃ n8 : Int, ∃ n9 : Int, (Sem.run Try.prog (loadVar 32 (Addr.add a6 (Int.toNat (IntKind.wrap IntKind.i64 (Int.fdiv (IntKind.wrap IntKind.u64 (IntKind.wrap IntKind.i64 (n3 + n4))) (2 ^ min (Int.toNat 1) 64))) * 3))) w5 = Result.ok (Value.agg (Array.mk [Value.string s7, Value.int IntKind.i64 n8, Value.int IntKind.u32 n9])) w5 ∧
            Calls Try.prog (30 : FuncId) (Array.mk [Value.agg (Array.mk [Value.string s7, Value.int IntKind.i64 n8, Value.int IntKind.u32 n9]), Value.string x1]) (w5) (fun e10 w11 =>
              ∃ n12 : Int, (e10 = Ending.returned (Value.int IntKind.i64 n12) ∧
               (((decide (n12 < 0) = true →
                  (I1 (IntKind.wrap IntKind.i64 (IntKind.wrap IntKind.i64 (Int.fdiv (IntKind.wrap IntKind.u64 (IntKind.wrap IntKind.i64 (n3 + n4))) (2 ^ min (Int.toNat 1) 64)) + 1)) n4 w11 ∧
                   I2 (IntKind.wrap IntKind.i64 (IntKind.wrap IntKind.i64 (Int.fdiv (IntKind.wrap IntKind.u64 (IntKind.wrap IntKind.i64 (n3 + n4))) (2 ^ min (Int.toNat 1) 64)) + 1)) n4 w11 < I2 n3 n4 w5))) ∧
                (decide (n12 < 0) = false →
                  (I1 n3 (IntKind.wrap IntKind.i64 (Int.fdiv (IntKind.wrap IntKind.u64 (IntKind.wrap IntKind.i64 (n3 + n4))) (2 ^ min (Int.toNat 1) 64))) w11 ∧
                   I2 n3 (IntKind.wrap IntKind.i64 (Int.fdiv (IntKind.wrap IntKind.u64 (IntKind.wrap IntKind.i64 (n3 + n4))) (2 ^ min (Int.toNat 1) 64))) w11 < I2 n3 n4 w5))))))))))) ∧
      (decide (n3 < n4) = false →
        (((decide (n3 < (↑x0n : Int)) = true →
           ((0 ≤ n3 ∧
             n3 < (↑x0n : Int)) ∧
            ∃ a13 : Addr, (x0a = some a13 ∧
             ∃ s14 : ByteArray, ∃ n15 : Int, ∃ n16 : Int, (Sem.run Try.prog (loadVar 32 (Addr.add a13 (Int.toNat n3 * 3))) w5 = Result.ok (Value.agg (Array.mk [Value.string s14, Value.int IntKind.i64 n15, Value.int IntKind.u32 n16])) w5 ∧
              Calls Try.prog (30 : FuncId) (Array.mk [Value.agg (Array.mk [Value.string s14, Value.int IntKind.i64 n15, Value.int IntKind.u32 n16]), Value.string x1]) (w5) (fun e17 w18 =>
                ∃ n19 : Int, (e17 = Ending.returned (Value.int IntKind.i64 n19) ∧
                 R (Value.tuple (Array.mk [Value.int IntKind.i64 n3, Value.bool (n19 == 0)])) w18))))))) ∧
         (decide (n3 < (↑x0n : Int)) = false →
           R (Value.tuple (Array.mk [Value.int IntKind.i64 n3, Value.bool false])) w5))))))
theorem vc_slices_BinarySearchFunc_match_ok {x0a : Option Addr} {x0n : Nat} {x0c : Nat} {x1 : ByteArray} {w : World} {R : Value → World → Prop} {R' : Ending → World → Prop} (h : vc_slices_BinarySearchFunc_match x0a x0n x0c x1 w R) (hR : ∀ v w', R v w' → R' (.returned v) w') :
    Calls Try.prog 28 #[.slice x0a x0n x0c, .string x1, .func (.func 30) #[] #[]] w R' :=
  calls_of_body (vs := [(.slice x0a x0n x0c, false), (.string x1, false), (.func (.func 30) #[] #[], false)]) (ty := ty) (ann := ⟨[], [(3, [(9, .int .i64), (10, .int .i64)])], [], []⟩) (c := Try.f28.body.getD .skip) (by kernel_rfl) Try.func28 (by kernel_rfl) (by kernel_rfl) (Eq.mp (by kernel_rfl) h) hR
end Go.Proofs.Ytoagdpjickippaa
